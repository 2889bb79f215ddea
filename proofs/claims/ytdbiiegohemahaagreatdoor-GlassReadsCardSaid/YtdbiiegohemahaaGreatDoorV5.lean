import Derived.Test.YtdbiiegohemahaaGreatDoorV4
import Derived.Test.YtdbiiegohemahaaGreatDoorAbR
set_option linter.unusedVariables false
set_option linter.unusedSimpArgs false
namespace Go.Proofs.YtdbiiegohemahaaGreatDoor
open Go.Ab Go.Sheet Go.RowKit Go
attribute [local irreducible] Abs CallK CallR CallsTo CallsE AbsX
theorem eq_held {a : Act} {w : World} {t : TypeId} {x : Value} (ha : a.eval (.tmp 5) = .iface t x) {dst : Option Tmp} {ty : TypeId} {pos : String} {aft : Array Edge} : (execOp a.eval ⟨dst, .binOp .eql 20 (.tmp 5) (.const .nilIface) 20, ty, pos, aft, none⟩).run Tryz.prog w = .ok (.value (.bool false)) w := by
  have h1 : a.eval (.const Value.nilIface) = .nilIface := rfl
  simp [execOp, ha, h1, eqGuard, run_eql_held_nil (P := Tryz.prog) w 20 t x if20]
theorem run_assert {P : Program} {t : TypeId} (h : aggO P t = some true) (x : Value) (u : TypeId) (w : World) : (Instr.typeAssert (.iface t x) u t true).run P w = .ok (.tuple #[x, .bool true]) w := by
  unfold aggO at h
  split at h <;> first | (cases h; done) | (rename_i hu; simp [Instr.typeAssert, run_underlying hu])
theorem rxbool {l1 l2 : List Deferred} {c : Ctx} {s : St} {a : Act} {w : World} {x : Operand} {b : Bool} (h : RX l1 l2 c s a w) (hs : s.ev x = .bool b) : a.eval x = .bool b := by
  obtain ⟨_, g, hg⟩ := h
  have hv := hg.ev x
  rw [hs] at hv
  exact hv.asBool
set_option maxRecDepth 100000 in
set_option maxHeartbeats 4000000 in
theorem rec_pan (W0 : World) (S0 : Addr → Prop) (M0 : MM) (own0 : Nat → Prop) (β00 : List Nat) (st : St) (a : Act) (W : World) (g : Gh) (x : ByteArray) (p1 p2 : Value)
    (hg : RG ⟨Tryz.prog, W0, S0, M0, none, own0, β00⟩ st a W g) (hbx : st.bx = [.mu [.val (.slice none 0 0)], .mu [i64 0]]) (hrw : st.rw = [])
    (h1 : Rel W g p1 (.box 0 0)) (h2 : Rel W g p2 (.box 1 0)) :
    CallsDIn Fence.wide 0 Tryz.prog 28 #[p1, p2] (.panicking (pchain 72 x)) W (fun e u' w' => (∃ v, e = .returned v) ∧ u' = .panicking [{ v := .iface 72 (.agg #[.string x]), recovered := true }] ∧
      ∃ s2 a2 g2, s2.bx = [.mu [.val (.slice none 0 0)], .mu [i64 4], .mu [.str x]] ∧ s2.rw = [] ∧ RG ⟨Tryz.prog, W, g.S, g.M, none, fun b => W.heap.size ≤ b ∨ (own0 b ∧ ∃ cs t fz, W.heap[b]? = some (.cells cs t fz)), g.β⟩ s2 a2 w' g2) := by
  refine callsDIn_of_wpSIn Tryz.func28 rfl trivial fun c0 cs hu => ?_
  refine wpSIn_seq (wpSIn_region (recover_op (fun _ => trivial) ?_))
  have hrec : recoverD (c0 :: cs) = some (.iface 72 (.agg #[.string x]), { c0 with mode := .panicking [{ v := .iface 72 (.agg #[.string x]), recovered := true }] } :: cs) := by simp [recoverD, hu, pchain]
  rw [hrec]
  show Code.wpSIn _ _ _ _ _ _ _ _
  refine wpSIn_of_wpIn rfl ?_
  have hnt : Tryz.f28.ntmps = 11 := rfl
  generalize ha : (Act.put { tmps := #[p1, p2] ++ Array.replicate (Tryz.f28.ntmps - #[p1, p2].size) undef, defers := [] } (some 5) (.iface 72 (.agg #[.string x])) : Act) = a0
  have hsz : a0.tmps.size = 11 := by rw [← ha]; simp [Act.put, hnt]
  have h5 : a0.eval (.tmp 5) = .iface 72 (.agg #[.string x]) := by rw [← ha]; simp [Act.put, Act.eval, hnt]
  have hd : a0.defers = [] := by rw [← ha]; rfl
  have hp : a0.tmps.getD 0 undef = p1 ∧ a0.tmps.getD 1 undef = p2 := by rw [← ha]; refine ⟨?_, ?_⟩ <;> simp [Act.put, hnt]
  refine wpIn_block (wpIn_seq (wpIn_region_lit (list_cons rfl ⟨fun _ _ => trivial, ?_⟩)))
  rw [Oper.semAt_eq _ _ _ (by intro cl h; cases h), eq_held h5, Oper.uponIn_value]
  show Code.wpIn _ _ _ _ _ _ _
  have h7 : (a0.put (some 7) (.bool false)).eval (.tmp 7) = .bool false := by simp [Act.put, Act.eval, hsz]
  refine wpIn_cond_split h7 (fun h => by cases h) (fun _ => ?_)
  refine wpIn_seq (wpIn_region_lit (list_cons rfl ⟨fun _ _ => trivial, ?_⟩))
  have h5' : (a0.put (some 7) (.bool false)).eval (.tmp 5) = .iface 72 (.agg #[.string x]) := by
    have := h5
    simp [Act.put, Act.eval, hsz] at this ⊢
    exact this
  have h10 : (execOp (a0.put (some 7) (.bool false)).eval ⟨some 8, .typeAssert (.tmp 5) 20 72 true, 0, "sheet.go:124", #[], none⟩).run Tryz.prog W = .ok (.value (.tuple #[.agg #[.string x], .bool true])) W := by
    simp [execOp, h5', run_assert Tryz.ty.ag72]
  rw [Oper.semAt_eq _ _ _ (by intro cl h; cases h), h10, Oper.uponIn_value]
  -- from here on the layer speaks
  generalize ha1 : (a0.put (some 7) (.bool false)).put (some 8) (.tuple #[.agg #[.string x], .bool true]) = a1
  have hsz1 : a1.tmps.size = 11 := by rw [← ha1]; simp [Act.put, hsz]
  have hd1 : a1.defers = [] := by rw [← ha1]; exact hd
  have hg1 := hg.enterN (a' := a1) (n := 11) (sl := fun k => match k with | 0 => .box 0 0 | 1 => .box 1 0 | 8 => .tup [.agg [.str x], .bool true] | _ => .undef) hd1 hsz1 (fun k => by
    have hget : ∀ k, k ≠ 7 → k ≠ 8 → a1.tmps.getD k undef = a0.tmps.getD k undef := fun k h9 h10 => by
      rw [← ha1]
      simp [Act.put, Array.getElem?_setIfInBounds, Ne.symm h9, Ne.symm h10]
    split
    · rw [hget 0 (by decide) (by decide), hp.1]; exact h1
    · rw [hget 1 (by decide) (by decide), hp.2]; exact h2
    · have : a1.tmps.getD 8 undef = .tuple #[.agg #[.string x], .bool true] := by rw [← ha1]; simp [Act.put, hsz]
      rw [this]
      refine .tup _ _ _ rfl (fun q d hd => ?_)
      match q, hd with
      | 0, hd => cases hd; exact .agg _ _ _ rfl (fun q hq => by
          match q, hq with
          | 0, _ => rfl
          | q + 1, hq => simp at hq) (fun q d hd => by
          match q, hd with
          | 0, hd => cases hd; exact .str _ _)
      | 1, hd => cases hd; exact .bool _ _
    · exact .undef _ _)
  rw [hbx, hrw] at hg1
  have hr1 : RX [] [] ⟨Tryz.prog, W, g.S, g.M, none, fun b => W.heap.size ≤ b ∨ (own0 b ∧ ∃ cs t fz, W.heap[b]? = some (.cells cs t fz)), g.β⟩ _ a1 W := ⟨hd1, g, by
    have : ({ a1 with defers := [] } : Act) = a1 := by rw [← hd1]
    rw [this]; exact hg1⟩
  generalize hsl : (fun k => match k with | 0 => D.box 0 0 | 1 => .box 1 0 | 8 => .tup [.agg [.str x], .bool true] | _ => .undef : Nat → D) = sl0 at hr1
  have s0 : sl0 0 = .box 0 0 := congrFun hsl.symm 0
  have s1 : sl0 1 = .box 1 0 := congrFun hsl.symm 1
  have s8 : sl0 8 = .tup [.agg [.str x], .bool true] := congrFun hsl.symm 8
  refine rx_list (rest := []) (K := fun s' => s' = _) (fun s2' a2 w2 hr2 e2 => ?_) [_, _] _ a1 W rfl hr1 (by
    simp -implicitDefEqProofs only [go_sem, bas, basL, Nat.reduceAdd, Nat.reduceSub, Nat.reduceMul, Nat.reduceLT, Nat.reduceLeDiff, Nat.reduceEqDiff, Nat.reduceBEq, Int.reduceLT, Int.reduceLE, Int.reduceToNat, Int.reduceAdd, Int.reduceSub, Int.reduceMul, Int.reduceNeg, Int.reduceEq, reduceCtorEq, eq_self, ne_eq, not_false_eq_true, if_true, reduceIte, Tryz.underlying9, s0, s1, s8]
    exact rfl)
  subst e2
  unfold wpListIn
  show Code.wpIn _ _ _ _ _ _ _
  have h11 := rxbool hr2 (x := .tmp 9) (b := true) rfl
  refine wpIn_cond_split h11 (fun _ => ?_) (fun h => by cases h)
  refine wpIn_seq (wpIn_region_lit ?_)
  refine rx_list (rest := []) (K := fun s' => s' = _) (fun s3' a3 w3 hr3 e3 => ?_) [_, _] _ a2 w2 rfl hr2 (by
    simp -implicitDefEqProofs only [go_sem, bas, basL, Nat.reduceAdd, Nat.reduceSub, Nat.reduceMul, Nat.reduceLT, Nat.reduceLeDiff, Nat.reduceEqDiff, Nat.reduceBEq, Int.reduceLT, Int.reduceLE, Int.reduceToNat, Int.reduceAdd, Int.reduceSub, Int.reduceMul, Int.reduceNeg, Int.reduceEq, reduceCtorEq, eq_self, ne_eq, not_false_eq_true, if_true, reduceIte, Tryz.underlying9, s0, s1, s8]
    exact rfl)
  subst e3
  unfold wpListIn
  show Code.wpIn _ _ _ _ _ _ _
  refine wpIn_region_lit ?_
  refine rx_list (rest := []) (K := fun s' => s' = _) (fun s4' a4 w4 hr4 e4 => ?_) [_, _] _ a3 w3 rfl hr3 (by
    simp -implicitDefEqProofs only [go_sem, bas, basL, Nat.reduceAdd, Nat.reduceSub, Nat.reduceMul, Nat.reduceLT, Nat.reduceLeDiff, Nat.reduceEqDiff, Nat.reduceBEq, Int.reduceLT, Int.reduceLE, Int.reduceToNat, Int.reduceAdd, Int.reduceSub, Int.reduceMul, Int.reduceNeg, Int.reduceEq, reduceCtorEq, eq_self, ne_eq, not_false_eq_true, if_true, reduceIte, Tryz.underlying9, s0, s1, s8]
    exact ⟨rfl, rfl⟩)
  subst e4
  unfold wpListIn
  obtain ⟨hd4, g4, hg4⟩ := hr4
  have e4 : ({ a4 with defers := [] } : Act) = a4 := by rw [← hd4]
  rw [e4] at hg4
  simp only [Exit.inBlock, bodyPostS]
  exact ⟨hd4, .panicking [{ v := .iface 72 (.agg #[.string x]), recovered := true }], rfl, .tuple #[], res28 _ _, ⟨_, rfl⟩, rfl, _, a4, g4, rfl, rfl, hg4⟩
theorem rS_names (t : ByteArray) : ∀ m, Names 2 0 (put (put (put (put none' 3 (D.box 1 0)) 2 (D.box 0 0)) 0 (D.str t)) 8 (D.clo 28 [D.box 0 0, D.box 1 0]) m) :=
  slots_names (l := [(8, D.clo 28 [D.box 0 0, D.box 1 0]), (0, D.str t), (2, D.box 0 0), (3, D.box 1 0)]) rfl
set_option maxRecDepth 100000 in
set_option maxHeartbeats 4000000 in
theorem gRead_no (t : ByteArray) (ht : t.size ≤ 3000) (hR : CallsE Tryz.prog 29 [.str t] 72 none) : CallsTo Tryz.prog 9 [.str t] (.tup [.list [], i64 4]) := by
  have hcalls := Tryz.call9
  unfold CallsTo
  refine ⟨hcalls, fun S M w args hT hS hM hl hrel => ?_⟩
  refine (callsIn_wide (n := 0)).1 (callsIn_of_wp_marks Tryz.func9 rfl trivial ?_)
  have hr := R_init (P := Tryz.prog) (n := 17) hT hS hM hl (by simp) hrel
  have hnt : Tryz.f9.ntmps = 17 := rfl
  rw [hnt]
  generalize ({ tmps := args.toArray ++ Array.replicate (17 - args.toArray.size) undef, defers := [] } : Act) = a0 at hr ⊢
  refine wpIn_seq (abs_wp (c := ⟨Tryz.prog, w, S, M, none, fun b => w.heap.size ≤ b, []⟩) (Q := fun e s => e = .normal ∧ Le s (rS t)) hr (abs_region fun K hK => ?_) ?_)
  · simp -implicitDefEqProofs only [go_sem, bas, basL, Nat.reduceAdd, Nat.reduceSub, Nat.reduceMul, Nat.reduceLT, Nat.reduceLeDiff, Nat.reduceEqDiff, Nat.reduceBEq, Int.reduceLT, Int.reduceLE, Int.reduceToNat, Int.reduceAdd, Int.reduceSub, Int.reduceMul, Int.reduceNeg, Int.reduceEq, reduceCtorEq, eq_self, ne_eq, not_false_eq_true, if_true, reduceIte, Tryz.underlying9]
    exact hK _ ⟨rfl, le_of rfl (by try simp -implicitDefEqProofs only [go_sem, bas, basL, Nat.reduceAdd, Nat.reduceSub, Nat.reduceMul, Nat.reduceLT, Nat.reduceLeDiff, Nat.reduceEqDiff, Nat.reduceBEq, Int.reduceLT, Int.reduceLE, Int.reduceToNat, Int.reduceAdd, Int.reduceSub, Int.reduceMul, Int.reduceNeg, Int.reduceEq, reduceCtorEq, eq_self, ne_eq, not_false_eq_true, if_true, reduceIte, Tryz.underlying9]; try simp) ⟨_, rfl⟩ ⟨_, rfl⟩⟩
  rintro e a1 w1 s1 hr1 ⟨rfl, hle1⟩
  replace hr1 := hr1.le hle1 (rS_named t) (Nat.zero_le _)
  clear hle1 s1 hr
  show Code.wpIn _ _ _ _ _ _ _
  refine wpIn_seq (abs_wp (c := ⟨Tryz.prog, w, S, M, none, fun b => w.heap.size ≤ b, []⟩) (Q := fun e s => e = .normal ∧ Le s (rS t)) hr1 ?_ ?_)
  · simp only [rS, mkSt, List.foldr]
    repeat' (first | refine abs_seq ?_ | refine abs_block ?_ | refine abs_skip ?_ | refine abs_scope ?_ | refine abs_label ?_ | refine abs_exit ?_ | refine abs_ret ?_ | ((first | refine abs_region fun K hK => ?_ | refine abs_draw Tryz.ty.mixed (by kernel_rfl) fun K hK => ?_ | refine abs_if ?_ | show retQ _ _ _ _ _); simp -implicitDefEqProofs only [go_sem, bas, basL, Nat.reduceAdd, Nat.reduceSub, Nat.reduceMul, Nat.reduceLT, Nat.reduceLeDiff, Nat.reduceEqDiff, Nat.reduceBEq, Int.reduceLT, Int.reduceLE, Int.reduceToNat, Int.reduceAdd, Int.reduceSub, Int.reduceMul, Int.reduceNeg, Int.reduceEq, reduceCtorEq, eq_self, ne_eq, not_false_eq_true, if_true, reduceIte, Tryz.underlying9]) | ((first | (refine hK _ ?_; clear hK K) | show thenQ _ _ _ _ | show blockQ _ _ _ _ | show noGoQ _ _ _); simp only [noGoQ, thenQ, blockQ, if_true, Nat.reduceEqDiff, reduceIte]) | (intro hg; first | (exfalso; omega) | (exfalso; contradiction) | skip) | apply And.intro | (with_reducible rfl) | (clear hK; omega) | omega)
    exact le_of (l := [(0, .str t), (2, .box 0 0), (3, .box 1 0)]) rfl (by try simp -implicitDefEqProofs only [go_sem, bas, basL, Nat.reduceAdd, Nat.reduceSub, Nat.reduceMul, Nat.reduceLT, Nat.reduceLeDiff, Nat.reduceEqDiff, Nat.reduceBEq, Int.reduceLT, Int.reduceLE, Int.reduceToNat, Int.reduceAdd, Int.reduceSub, Int.reduceMul, Int.reduceNeg, Int.reduceEq, reduceCtorEq, eq_self, ne_eq, not_false_eq_true, if_true, reduceIte, Tryz.underlying9]; try simp) ⟨_, rfl⟩ ⟨_, rfl⟩
  rintro e a2 w2 s2 hr2 ⟨rfl, hle2⟩
  replace hr2 := hr2.le hle2 (rS_named t) (Nat.zero_le _)
  clear hle2 s2 hr1
  show Code.wpIn _ _ _ _ _ _ _
  obtain ⟨l, hl2⟩ : ∃ l, a2.defers = l := ⟨_, rfl⟩
  have hx2 : RX l l ⟨Tryz.prog, w, S, M, none, fun b => w.heap.size ≤ b, []⟩ (rS t) a2 w2 := ⟨hl2, by
    have : ({ a2 with defers := l } : Act) = a2 := by rw [← hl2]
    rw [this]; exact hr2⟩
  clear hr2
  refine wpIn_seq (wpIn_region_lit ?_)
  refine rx_list (rest := [_]) (K := fun s' => s' = _) (fun s3 a3 w3 hx3 e3 => ?_) [_] _ a2 w2 rfl hx2 (by
    simp only [rS, mkSt, List.foldr]
    simp -implicitDefEqProofs only [go_sem, bas, basL, Nat.reduceAdd, Nat.reduceSub, Nat.reduceMul, Nat.reduceLT, Nat.reduceLeDiff, Nat.reduceEqDiff, Nat.reduceBEq, Int.reduceLT, Int.reduceLE, Int.reduceToNat, Int.reduceAdd, Int.reduceSub, Int.reduceMul, Int.reduceNeg, Int.reduceEq, reduceCtorEq, eq_self, ne_eq, not_false_eq_true, if_true, reduceIte, Tryz.underlying9]
    exact rfl)
  subst e3
  refine list_cons rfl ⟨fun _ _ => trivial, ?_⟩
  obtain ⟨hd3, g3, hg3⟩ := hx3
  have h9 := hg3.ev (.tmp 8)
  change Rel w3 g3 (a3.eval (.tmp 8)) (.clo 28 [.box 0 0, .box 1 0]) at h9
  generalize hv9 : a3.eval (.tmp 8) = v9 at h9
  cases h9 with
  | clo _ _ vs _ hvl hvr =>
  obtain ⟨vs⟩ := vs
  obtain ⟨p1, p2, rfl⟩ : ∃ p1 p2, vs = [p1, p2] := by
    match vs, hvl with
    | [a, b], _ => exact ⟨a, b, rfl⟩
  have hp1 : Rel w3 g3 p1 (.box 0 0) := hvr 0 _ rfl
  have hp2 : Rel w3 g3 p2 (.box 1 0) := hvr 1 _ rfl
  clear hvr hvl
  obtain ⟨dd, hdd⟩ : ∃ dd : Deferred, dd = { target := .fn (.func 28) #[p1, p2], args := #[] } := ⟨_, rfl⟩
  have hsd : (Oper.semAt Fence.wide.round a3.eval ⟨none, .defer ⟨.value (.tmp 8), #[], #[]⟩, 0, "sheet.go:123", #[{ on := 0, ground := Go.Ground.data }], none⟩).run Tryz.prog w3 = .ok (.defer dd) w3 := by
    rw [show Fence.wide.round = none from rfl, Oper.semAt_none, hdd]
    simp [execOp, resolve, hv9, Deferred.ofValue]
  rw [hsd, Oper.uponIn_defer]
  unfold wpListIn
  show Code.wpIn _ _ _ _ _ _ _
  have hen := hg3.enterN (a' := { a3 with defers := [] }) rfl hg3.sz hg3.sl
  have hx4 : RX (dd :: l) [] ⟨Tryz.prog, w3, g3.S, g3.M, none, fun b => w3.heap.size ≤ b ∨ (w.heap.size ≤ b ∧ ∃ cs t fz, w3.heap[b]? = some (.cells cs t fz)), g3.β⟩ _ { a3 with defers := dd :: a3.defers } w3 := ⟨by rw [hd3], g3, hen⟩
  generalize ({ a3 with defers := dd :: a3.defers } : Act) = a4 at hx4
  have hinv : ∀ w : World, (invoke dd.target dd.args).run Tryz.prog w = .ok (.enter 28 #[p1, p2]) w := fun w => by
    rw [hdd]; simp [invoke, Tryz.call28]
  have fin : ∀ (s8 : St) (a8 : Act) (w8 : World) (g8 : Gh), RG ⟨Tryz.prog, w3, g3.S, g3.M, none, fun b => w3.heap.size ≤ b ∨ (w.heap.size ≤ b ∧ ∃ cs t fz, w3.heap[b]? = some (.cells cs t fz)), g3.β⟩ s8 { a8 with defers := [] } w8 g8 →
      (resL Tryz.prog s8 Tryz.f9.results.toList fun ds => ds = [.list [], i64 4]) →
      LeavesInM Fence.wide 0 Tryz.prog Tryz.f9 a8.tmps (fun e' w' => ∃ v S' M', e' = .returned v ∧ Grow w S M w' S' M' ∧ Go.Ab.Good w' S' ∧ Rel w' ⟨S', [], [], M'⟩ v (.tup [.list [], i64 4])) l .returning w8 := fun s8 a8 w8 g8 h8 hres => by
    have hb := swapAct (a' := { a8 with defers := l }) (hg3.leaveN h8 (rS_names t)) h8.sz h8.sl rfl
    exact marks_leave (c := ⟨Tryz.prog, w, S, M, none, fun b => w.heap.size ≤ b, []⟩) (fn := Tryz.f9) (ds := [.list [], i64 4]) l { a8 with defers := l } w8 hb rfl hres (fun v w9 h9 hv => ⟨v, g8.S, g8.M, rfl,
      ⟨⟨h9.below.os, h9.below.tape, h9.below.output, h9.below.size, fun k hk hn => h9.below.block k hk (fun h => h.elim (fun h => absurd (show w.heap.size ≤ k from h) (Nat.not_le_of_lt hk)) hn)⟩, h9.S0, h9.from0, h9.df.m0, h9.df.mfrom, h9.df.mok⟩, h9.good, hv⟩)
  -- what is read gives up
  refine wpIn_seq (wpIn_region_lit ?_)
  refine rx_list (rest := [_, _]) (K := fun s' => s' = _) (fun s5 a5 w5 hx5 e5 => ?_) [_] _ a4 w3 rfl hx4 (by
    simp only [rS, mkSt, List.foldr]
    simp -implicitDefEqProofs only [go_sem, bas, basL, Nat.reduceAdd, Nat.reduceSub, Nat.reduceMul, Nat.reduceLT, Nat.reduceLeDiff, Nat.reduceEqDiff, Nat.reduceBEq, Int.reduceLT, Int.reduceLE, Int.reduceToNat, Int.reduceAdd, Int.reduceSub, Int.reduceMul, Int.reduceNeg, Int.reduceEq, reduceCtorEq, eq_self, ne_eq, not_false_eq_true, if_true, reduceIte, Tryz.underlying9]
    exact rfl)
  subst e5
  refine list_cons rfl ⟨fun _ _ => trivial, ?_⟩
  obtain ⟨hd5, g5, hg5⟩ := hx5
  have h10 := hg5.ev (.tmp 9)
  change Rel w5 g5 (a5.eval (.tmp 9)) (.str t) at h10
  unfold CallsE at hR
  have hcl := hR.2 g5.S g5.M w5 [a5.eval (.tmp 9)] (hg5.df.tab.at hg5.below) hg5.good hg5.df.mok rfl (fun q x hx => by
    match q, hx with
    | 0, hx => cases hx; exact pureD_rel hg5 h10 rfl)
  have hse : (Oper.semAt Fence.wide.round a5.eval ⟨some 10, .call ⟨.value (.func 29), #[.tmp 9], #[9]⟩, 22, "sheet.go:132", #[{ on := 0, ground := Go.Ground.data }], none⟩).run Tryz.prog w5 = .ok (.enter 29 [a5.eval (.tmp 9)].toArray) w5 := by
    rw [Oper.semAt_eq _ _ _ (by intro cl h; cases h)]
    have e1 : a5.eval (.func 29) = .func (.func 29) #[] #[] := rfl
    simp [execOp, resolve, e1, Deferred.ofValue, invoke, Tryz.call29]
  rw [hse, Oper.uponIn_enter]
  refine ⟨fun h => (by cases h), callsIn_wide.2 (hcl.mono ?_)⟩
  rintro e' w6 ⟨S', M', hgr, hgood, ⟨v, d, hnone, rfl, _⟩ | ⟨_, x, rfl⟩⟩
  · cases hnone
  have hg6 := hg5.grow hgr hgood
  show LeavesInM _ _ _ _ _ _ _ _ _
  rw [hd5]
  refine ⟨by simp, .inr ⟨fun h => (by cases h), .func 28, #[p1, p2], 28, #[p1, p2], by rw [hdd], hinv _, fun _ _ => trivial, ?_⟩⟩
  have kp : Keeps w3 g3 w6 ⟨S', g5.β, g5.ρ, M'⟩ := ⟨fun y hy => (hg6.df.kp0 y hy), hg6.S0, hg6.df.anc, fun r b hb => by
    have := (List.getElem?_eq_some_iff.1 hb).1
    rw [hg3.lρ] at this
    simp at this, hg6.df.m0⟩
  refine (rec_pan w3 g3.S g3.M _ g3.β _ _ w6 ⟨S', g5.β, g5.ρ, M'⟩ x p1 p2 hg6 rfl rfl (hp1.keep kp) (hp2.keep kp)).mono ?_
  rintro e u' w9 ⟨⟨v, rfl⟩, rfl, s9, a9, g9, hb9, hw9, hg9⟩
  have hb := hg6.leaveN hg9 (slots_names (l := [(9, D.str t), (8, D.clo 28 [D.box 0 0, D.box 1 0]), (0, D.str t), (2, D.box 0 0), (3, D.box 1 0)]) rfl)
  rw [hb9, hw9] at hb
  exact fin _ a5 _ g9 hb rfl
end Go.Proofs.YtdbiiegohemahaaGreatDoor
