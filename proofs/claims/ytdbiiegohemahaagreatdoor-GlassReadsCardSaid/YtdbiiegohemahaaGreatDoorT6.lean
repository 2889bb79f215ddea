import Derived.Test.YtdbiiegohemahaaGreatDoorT5
import Derived.Test.YtdbiiegohemahaaGreatDoorAbR
set_option linter.unusedVariables false
set_option linter.unusedSimpArgs false
namespace Go.Proofs.YtdbiiegohemahaaGreatDoor
open Go.Ab Go.Sheet Go.RowKit Go
theorem abs_wp {c : Ctx} {code : Code} {Q : Exit → St → Prop} {s : St} {a : Act} {w : World} {Q' : Exit → Act → World → Prop} (hr : R c s a w) (h : Abs c code Q s) (hp : ∀ e a' w' s', R c s' a' w' → Q e s' → Q' e a' w') : code.wpIn c.F 0 c.P Q' a w :=
  wpIn_mono (h a w hr) fun e a' w' ⟨s', r, q⟩ => hp e a' w' s' r q
theorem absx_wp {l1 l2 : List Deferred} {c : Ctx} {code : Code} {Q : Exit → St → Prop} {s : St} {a : Act} {w : World} {Q' : Exit → Act → World → Prop} (hr : RX l1 l2 c s a w) (h : AbsX l1 l2 c code Q s) (hp : ∀ e a' w' s', RX l1 l2 c s' a' w' → Q e s' → Q' e a' w') : code.wpIn c.F 0 c.P Q' a w :=
  wpIn_mono (h a w hr) fun e a' w' ⟨s', r, q⟩ => hp e a' w' s' r q
attribute [local irreducible] Abs CallK CallR CallsTo AbsX
theorem swapAct {c : Ctx} {s : St} {a a' : Act} {w : World} {g : Gh} {n : Nat} {sl : Nat → D} (h : RG c s a w g) (hs : a'.tmps.size = n) (hsl : ∀ m, Rel w g (a'.tmps.getD m undef) (sl m)) (hd : a'.defers = a.defers) : RG c ⟨n, sl, s.bx, s.rw⟩ a' w g :=
  ⟨⟨hd ▸ h.df.dok, h.df.mok, h.df.m0, h.df.mfrom, h.df.anc, h.df.kp0, h.df.tab⟩, hs, h.below, h.own0, h.good, h.from0, h.S0, h.good0, h.lβ, h.lρ, hsl, h.bx, h.fz, h.rw, h.ap⟩
theorem R_init {P : Program} {S : Addr → Prop} {M : MM} {w : World} {args : List Value} {ds : List D} {n : Nat} (hT : Tab w) (hS : Go.Ab.Good w S) (hM : MOk w M) (hl : args.length = ds.length) (hn : ds.length ≤ n) (hrel : ∀ q x, ds[q]? = some x → Rel w ⟨S, [], [], M⟩ (args.getD q Go.undef) x) :
    R ⟨P, w, S, M, none, fun b => w.heap.size ≤ b, []⟩ ⟨n, ofL 0 ds, [], []⟩ { tmps := args.toArray ++ Array.replicate (n - args.toArray.size) undef, defers := [] } w := by
  refine ⟨⟨S, [], [], M⟩, ⟨⟨List.nodup_nil, fun d hd => by cases hd⟩, hM, fun _ _ h => h, fun _ _ h => .inl h, fun i b h => by simp at h, fun _ _ => rfl, hT.fresh hM⟩, by simp; omega, .of (Below.refl _ _), fun _ h => h, hS, fun _ h => .inl h, fun _ h => h, hS, rfl, rfl, ?_, ?_, ?_, ?_, ?_⟩
  · intro m
    simp only
    rw [ofL_at]
    simp only [Nat.not_lt_zero, if_false, Nat.sub_zero]
    cases hd : ds[m]? with
    | none => exact .undef _ _
    | some x =>
      have hm := (List.getElem?_eq_some_iff.1 hd).1
      have := hrel m x hd
      have e : (args.toArray ++ Array.replicate (n - args.toArray.size) undef).getD m undef = args.getD m undef := by
        have : m < args.length := by omega
        simp [Array.getElem?_append, this]
      rw [e]; exact this
  · intro i cs hi; simp at hi
  · intro i cs hi; simp at hi
  · intro i cs hi; simp at hi
  · exact ⟨fun _ => .inl 0, fun i x b hi => by simp at hi, fun r row v gb hr => by simp at hr⟩
theorem list_cons {P : Program} {ops : Array Oper} {Q : Exit → Act → World → Prop} {o : Oper} {rest : List Oper} {a : Act} {w : World} (hg : o.guard = none) (h : o.wpIn Fence.wide 0 P a w (wpListIn Fence.wide 0 P ops Q rest) Q) :
    wpListIn Fence.wide 0 P ops Q (o :: rest) a w := by
  unfold wpListIn
  rw [if_pos (by simp [Region.wanted, hg])]
  exact h
/-! ## The deferred closure, where nothing panicked -/
theorem if20 : Tryz.prog.underlying 20 = some (.interface (Tryz.prog.methodsAt 20)) := by kernel_rfl
theorem recover_op {F : Fence} {n : Nat} {P : Program} {Q : Exit → Act → List Frame → World → Prop} {a : Act} {cs : List Frame} {w : World} {dst : Option Tmp} {ty : TypeId} {pos : String} {aft : Array Edge} (hF : ∀ f, F.fn f)
    (h : match recoverD cs with | some (v, cs') => Q .normal (a.put dst v) cs' w | none => Q .normal (a.put dst .nilIface) cs w) :
    wpOpsSIn F n P #[⟨dst, .call ⟨.builtin .recover, #[], #[]⟩, ty, pos, aft, none⟩] Q (List.range #[(⟨dst, .call ⟨.builtin .recover, #[], #[]⟩, ty, pos, aft, none⟩ : Oper)].size) a cs w := by
  show wpOpsSIn F n P _ Q [0] a cs w
  have hrun : (execOp a.eval ⟨dst, .call ⟨.builtin .recover, #[], #[]⟩, ty, pos, aft, none⟩).run P w = .ok .recover w := by
    simp [execOp, resolve, invoke, builtin]
  simp only [wpOpsSIn, List.getElem?_toArray, List.getElem?_cons_zero]
  refine ⟨fun f _ => hF f, ?_⟩
  · rw [if_pos (by simp [Region.wanted]), hrun]
    simp only
    cases hr : recoverD cs with
    | none => rw [hr] at h; exact h
    | some p => obtain ⟨v, cs'⟩ := p; rw [hr] at h; exact h
theorem res28 (tmps : Array Value) (w : World) : (results Tryz.f28 tmps).run Tryz.prog w = .ok (.tuple #[]) w := by
  rw [results_eq, show Tryz.f28.results = #[] from rfl]
  simp
theorem eq_nil {a : Act} {w : World} {x : Operand} {dst : Option Tmp} {ty : TypeId} {pos : String} {aft : Array Edge} (ha : a.eval x = .nilIface) : (execOp a.eval ⟨dst, .binOp .eql 20 x (.const .nilIface) 20, ty, pos, aft, none⟩).run Tryz.prog w = .ok (.value (.bool true)) w := by
  have h1 : a.eval (.const Value.nilIface) = .nilIface := rfl
  simp [execOp, ha, h1, eqGuard, run_eql_nil_nil (P := Tryz.prog) w 20 if20]
set_option maxRecDepth 100000 in
theorem rec_ret (args : Array Value) (w : World) (hn : args.size ≤ 2) : CallsDIn Fence.wide 0 Tryz.prog 28 args .returning w (fun e u' w' => (∃ v, e = .returned v) ∧ u' = .returning ∧ w' = w) := by
  refine callsDIn_of_wpSIn Tryz.func28 rfl trivial fun c0 cs hu => ?_
  refine wpSIn_seq (wpSIn_region (recover_op (fun _ => trivial) ?_))
  have hrec : recoverD (c0 :: cs) = none := by simp [recoverD, hu]
  rw [hrec]
  show Code.wpSIn _ _ _ _ _ _ _ _
  refine wpSIn_of_wpIn rfl ?_
  have hnt : Tryz.f28.ntmps = 11 := rfl
  generalize ha : (Act.put { tmps := args ++ Array.replicate (Tryz.f28.ntmps - args.size) undef, defers := [] } (some 5) .nilIface : Act) = a
  have hsz : a.tmps.size = 11 := by rw [← ha]; simp [Act.put, hnt]; omega
  have h7 : a.eval (.tmp 5) = .nilIface := by rw [← ha]; simp [Act.put, Act.eval, hnt]; omega
  have hd : a.defers = [] := by rw [← ha]; rfl
  refine wpIn_block (wpIn_seq (wpIn_region_lit (list_cons rfl ⟨fun _ _ => trivial, ?_⟩)))
  rw [Oper.semAt_eq _ _ _ (by intro cl h; cases h), eq_nil h7, Oper.uponIn_value]
  show Code.wpIn _ _ _ _ _ _ _
  have h9 : (a.put (some 7) (.bool true)).eval (.tmp 7) = .bool true := by simp [Act.put, Act.eval, hsz]
  refine wpIn_cond_split h9 (fun _ => ?_) (fun h => by cases h)
  refine wpIn_region_lit (list_cons rfl ⟨fun _ _ => trivial, ?_⟩)
  have h4 : (execOp (a.put (some 7) (.bool true)).eval ⟨some 2, .assign (.tmp 5), 20, "sheet.go:124", #[], none⟩).run Tryz.prog w = .ok (.value ((a.put (some 7) (.bool true)).eval (.tmp 5))) w := by simp [execOp]
  rw [Oper.semAt_eq _ _ _ (by intro cl h; cases h), h4, Oper.uponIn_value]
  unfold wpListIn
  simp only [Exit.inBlock, bodyPostS]
  refine ⟨hd, c0.mode, rfl, .tuple #[], res28 _ _, ⟨_, rfl⟩, hu, trivial⟩
/-! ## Read, of a text that Print wrote -/
def rS (t : ByteArray) : St := mkSt 17 [(0, .str t), (2, .box 0 0), (3, .box 1 0)] [.mu [.val (.slice none 0 0)], .mu [i64 0]] []
theorem rS_named (t : ByteArray) : (rS t).named := named_of rfl rfl
set_option maxRecDepth 100000 in
set_option maxHeartbeats 4000000 in
theorem gRead_ok (t : ByteArray) (ht : t.size ≤ 3000) (out : List D) (e0 : Int) (he : e0 = 0) (hR : CallsTo Tryz.prog 29 [.str t] (.list out)) (hF : CallsTo Tryz.prog 24 [.list out] (i64 0)) : CallsTo Tryz.prog 9 [.str t] (.tup [.list out, i64 e0]) := by
  subst he
  have hcalls := Tryz.call9
  unfold CallsTo
  refine ⟨hcalls, fun S M w args hT hS hM hl hrel => ?_⟩
  refine (callsIn_wide (n := 0)).1 (callsIn_of_wp_marks Tryz.func9 rfl trivial ?_)
  have hr := R_init (P := Tryz.prog) (n := 17) hT hS hM hl (by simp) hrel
  have hnt : Tryz.f9.ntmps = 17 := rfl
  rw [hnt]
  generalize ({ tmps := args.toArray ++ Array.replicate (17 - args.toArray.size) undef, defers := [] } : Act) = a0 at hr ⊢
  refine wpIn_seq (abs_wp (c := ⟨Tryz.prog, w, S, M, none, fun b => w.heap.size ≤ b, []⟩) (Q := fun e s => e = .normal ∧ Le s (rS t)) hr (abs_region fun K hK => ?_) ?_)
  · simp -implicitDefEqProofs only [go_sem, bas, basL, Nat.reduceAdd, Nat.reduceSub, Nat.reduceMul, Nat.reduceLT, Nat.reduceLeDiff, Nat.reduceEqDiff, Nat.reduceBEq, Int.reduceLT, Int.reduceLE, Int.reduceToNat, Int.reduceAdd, Int.reduceSub, Int.reduceMul, Int.reduceNeg, Int.reduceEq, reduceCtorEq, eq_self, ne_eq, not_false_eq_true, if_true, reduceIte, Tryz.underlying9]
    exact hK _ ⟨rfl, le_of rfl (by try simp -implicitDefEqProofs only [go_sem, bas, basL, Nat.reduceAdd, Nat.reduceSub, Nat.reduceMul, Nat.reduceLT, Nat.reduceLeDiff, Nat.reduceEqDiff, Nat.reduceBEq, Int.reduceLT, Int.reduceLE, Int.reduceToNat, Int.reduceAdd, Int.reduceSub, Int.reduceMul, Int.reduceNeg, Int.reduceEq, reduceCtorEq, eq_self, ne_eq, not_false_eq_true, if_true, reduceIte, Tryz.underlying9]; try simp) ⟨_, rfl⟩ ⟨_, rfl⟩⟩
  rintro e a1 w1 s1 hr1 ⟨rfl, hle1⟩
  replace hr1 := hr1.le hle1 (rS_named t) (Nat.zero_le _)
  clear hle1 s1 hr
  show Code.wpIn _ _ _ _ _ _ _
  refine wpIn_seq (abs_wp (c := ⟨Tryz.prog, w, S, M, none, fun b => w.heap.size ≤ b, []⟩) (Q := fun e s => e = .normal ∧ Le s (rS t)) hr1 ?_ ?_)
  · simp only [rS, mkSt, List.foldr]
    repeat' (first | refine abs_seq ?_ | refine abs_block ?_ | refine abs_skip ?_ | refine abs_scope ?_ | refine abs_label ?_ | refine abs_exit ?_ | refine abs_ret ?_ | ((first | refine abs_region fun K hK => ?_ | refine abs_draw Tryz.ty.mixed (by kernel_rfl) fun K hK => ?_ | refine abs_if ?_ | show retQ _ _ _ _ _); simp -implicitDefEqProofs only [go_sem, bas, basL, Nat.reduceAdd, Nat.reduceSub, Nat.reduceMul, Nat.reduceLT, Nat.reduceLeDiff, Nat.reduceEqDiff, Nat.reduceBEq, Int.reduceLT, Int.reduceLE, Int.reduceToNat, Int.reduceAdd, Int.reduceSub, Int.reduceMul, Int.reduceNeg, Int.reduceEq, reduceCtorEq, eq_self, ne_eq, not_false_eq_true, if_true, reduceIte, Tryz.underlying9]) | ((first | (refine hK _ ?_; clear hK K) | show thenQ _ _ _ _ | show blockQ _ _ _ _ | show noGoQ _ _ _); simp only [noGoQ, thenQ, blockQ, if_true, Nat.reduceEqDiff, reduceIte]) | (intro hg; first | (exfalso; omega) | (exfalso; contradiction) | skip) | apply And.intro | (with_reducible rfl) | (clear hK; omega) | omega)
    exact le_of (l := [(0, .str t), (2, .box 0 0), (3, .box 1 0)]) rfl (by try simp -implicitDefEqProofs only [go_sem, bas, basL, Nat.reduceAdd, Nat.reduceSub, Nat.reduceMul, Nat.reduceLT, Nat.reduceLeDiff, Nat.reduceEqDiff, Nat.reduceBEq, Int.reduceLT, Int.reduceLE, Int.reduceToNat, Int.reduceAdd, Int.reduceSub, Int.reduceMul, Int.reduceNeg, Int.reduceEq, reduceCtorEq, eq_self, ne_eq, not_false_eq_true, if_true, reduceIte, Tryz.underlying9]; try simp) ⟨_, rfl⟩ ⟨_, rfl⟩
  rintro e a2 w2 s2 hr2 ⟨rfl, hle2⟩
  replace hr2 := hr2.le hle2 (rS_named t) (Nat.zero_le _)
  clear hle2 s2 hr1
  show Code.wpIn _ _ _ _ _ _ _
  obtain ⟨l, hl2⟩ : ∃ l, a2.defers = l := ⟨_, rfl⟩
  have hx2 : RX l l ⟨Tryz.prog, w, S, M, none, fun b => w.heap.size ≤ b, []⟩ (rS t) a2 w2 := ⟨hl2, by
    have : ({ a2 with defers := l } : Act) = a2 := by rw [← hl2]
    rw [this]; exact hr2⟩
  clear hr2
  -- the closure, the deferred call
  refine wpIn_seq (wpIn_region_lit ?_)
  refine rx_list (rest := [_]) (K := fun s' => s' = _) (fun s3 a3 w3 hx3 e3 => ?_) [_] _ a2 w2 rfl hx2 (by
    simp only [rS, mkSt, List.foldr]
    simp -implicitDefEqProofs only [go_sem, bas, basL, Nat.reduceAdd, Nat.reduceSub, Nat.reduceMul, Nat.reduceLT, Nat.reduceLeDiff, Nat.reduceEqDiff, Nat.reduceBEq, Int.reduceLT, Int.reduceLE, Int.reduceToNat, Int.reduceAdd, Int.reduceSub, Int.reduceMul, Int.reduceNeg, Int.reduceEq, reduceCtorEq, eq_self, ne_eq, not_false_eq_true, if_true, reduceIte, Tryz.underlying9]
    exact rfl)
  subst e3
  refine list_cons rfl ⟨fun _ _ => trivial, ?_⟩
  obtain ⟨hd3, g3, hg3⟩ := hx3
  have h9 := hg3.ev (.tmp 8)
  change Rel w3 g3 (a3.eval (.tmp 8)) (.clo 28 [.box 0 0, .box 1 0]) at h9
  generalize hv9 : a3.eval (.tmp 8) = v9 at h9
  cases h9 with
  | clo _ _ vs _ hvl hvr =>
  obtain ⟨vs⟩ := vs
  obtain ⟨p1, p2, rfl⟩ : ∃ p1 p2, vs = [p1, p2] := by
    match vs, hvl with
    | [a, b], _ => exact ⟨a, b, rfl⟩
  clear hvr hvl
  obtain ⟨dd, hdd⟩ : ∃ dd : Deferred, dd = { target := .fn (.func 28) #[p1, p2], args := #[] } := ⟨_, rfl⟩
  have hsd : (Oper.semAt Fence.wide.round a3.eval ⟨none, .defer ⟨.value (.tmp 8), #[], #[]⟩, 0, "sheet.go:123", #[{ on := 0, ground := Go.Ground.data }], none⟩).run Tryz.prog w3 = .ok (.defer dd) w3 := by
    rw [show Fence.wide.round = none from rfl, Oper.semAt_none, hdd]
    simp [execOp, resolve, hv9, Deferred.ofValue]
  rw [hsd, Oper.uponIn_defer]
  unfold wpListIn
  show Code.wpIn _ _ _ _ _ _ _
  have hen := hg3.enterN (a' := { a3 with defers := [] }) rfl hg3.sz hg3.sl
  have hx4 : RX (dd :: l) [] ⟨Tryz.prog, w3, g3.S, g3.M, none, fun b => w3.heap.size ≤ b ∨ (w.heap.size ≤ b ∧ ∃ cs t fz, w3.heap[b]? = some (.cells cs t fz)), g3.β⟩ _ { a3 with defers := dd :: a3.defers } w3 := ⟨by rw [hd3], g3, hen⟩
  generalize ({ a3 with defers := dd :: a3.defers } : Act) = a4 at hx4
  have hinv : ∀ w : World, (invoke dd.target dd.args).run Tryz.prog w = .ok (.enter 28 #[p1, p2]) w := fun w => by
    rw [hdd]; simp [invoke, Tryz.call28]
  have hnm3 : ∀ m, Names 2 0 (put (put (put (put none' 3 (D.box 1 0)) 2 (D.box 0 0)) 0 (D.str t)) 8 (D.clo 28 [D.box 0 0, D.box 1 0]) m) :=
    slots_names (l := [(8, D.clo 28 [D.box 0 0, D.box 1 0]), (0, D.str t), (2, D.box 0 0), (3, D.box 1 0)]) rfl
  have fin : ∀ (s8 : St) (a8 : Act) (w8 : World) (g8 : Gh), RG ⟨Tryz.prog, w3, g3.S, g3.M, none, fun b => w3.heap.size ≤ b ∨ (w.heap.size ≤ b ∧ ∃ cs t fz, w3.heap[b]? = some (.cells cs t fz)), g3.β⟩ s8 { a8 with defers := [] } w8 g8 →
      (resL Tryz.prog s8 Tryz.f9.results.toList fun ds => ds = [.list out, i64 0]) →
      LeavesInM Fence.wide 0 Tryz.prog Tryz.f9 a8.tmps (fun e' w' => ∃ v S' M', e' = .returned v ∧ Grow w S M w' S' M' ∧ Go.Ab.Good w' S' ∧ Rel w' ⟨S', [], [], M'⟩ v (.tup [.list out, i64 0])) l .returning w8 := fun s8 a8 w8 g8 h8 hres => by
    have hb := swapAct (a' := { a8 with defers := l }) (hg3.leaveN h8 hnm3) h8.sz h8.sl rfl
    exact marks_leave (c := ⟨Tryz.prog, w, S, M, none, fun b => w.heap.size ≤ b, []⟩) (fn := Tryz.f9) (ds := [.list out, i64 0]) l { a8 with defers := l } w8 hb rfl hres (fun v w9 h9 hv => ⟨v, g8.S, g8.M, rfl,
      ⟨⟨h9.below.os, h9.below.tape, h9.below.output, h9.below.size, fun k hk hn => h9.below.block k hk (fun h => h.elim (fun h => absurd (show w.heap.size ≤ k from h) (Nat.not_le_of_lt hk)) hn)⟩, h9.S0, h9.from0, h9.df.m0, h9.df.mfrom, h9.df.mok⟩, h9.good, hv⟩)
  -- what is read
  refine absx_wp (c := ⟨Tryz.prog, w3, g3.S, g3.M, none, fun b => w3.heap.size ≤ b ∨ (w.heap.size ≤ b ∧ ∃ cs t fz, w3.heap[b]? = some (.cells cs t fz)), g3.β⟩) (Q := fun e s8 => e = .ret ∧ resL Tryz.prog s8 Tryz.f9.results.toList fun ds => ds = [.list out, i64 0]) hx4 ?_ ?_
  · refine absx_seq (absx_region rfl fun K hK => ?_)
    simp -implicitDefEqProofs only [go_sem, bas, basL, Nat.reduceAdd, Nat.reduceSub, Nat.reduceMul, Nat.reduceLT, Nat.reduceLeDiff, Nat.reduceEqDiff, Nat.reduceBEq, Int.reduceLT, Int.reduceLE, Int.reduceToNat, Int.reduceAdd, Int.reduceSub, Int.reduceMul, Int.reduceNeg, Int.reduceEq, reduceCtorEq, eq_self, ne_eq, not_false_eq_true, if_true, reduceIte, Tryz.underlying9]
    refine callK hR ?_
    simp -implicitDefEqProofs only [go_sem, bas, basL, Nat.reduceAdd, Nat.reduceSub, Nat.reduceMul, Nat.reduceLT, Nat.reduceLeDiff, Nat.reduceEqDiff, Nat.reduceBEq, Int.reduceLT, Int.reduceLE, Int.reduceToNat, Int.reduceAdd, Int.reduceSub, Int.reduceMul, Int.reduceNeg, Int.reduceEq, reduceCtorEq, eq_self, ne_eq, not_false_eq_true, if_true, reduceIte, Tryz.underlying9]
    refine hK _ ?_; clear hK K; simp only [thenQ]
    refine absx_seq ?_
    refine absx_seq (absx_region rfl fun K hK => ?_)
    simp -implicitDefEqProofs only [go_sem, bas, basL, Nat.reduceAdd, Nat.reduceSub, Nat.reduceMul, Nat.reduceLT, Nat.reduceLeDiff, Nat.reduceEqDiff, Nat.reduceBEq, Int.reduceLT, Int.reduceLE, Int.reduceToNat, Int.reduceAdd, Int.reduceSub, Int.reduceMul, Int.reduceNeg, Int.reduceEq, reduceCtorEq, eq_self, ne_eq, not_false_eq_true, if_true, reduceIte, Tryz.underlying9]
    refine callK hF ?_
    simp -implicitDefEqProofs only [go_sem, bas, basL, Nat.reduceAdd, Nat.reduceSub, Nat.reduceMul, Nat.reduceLT, Nat.reduceLeDiff, Nat.reduceEqDiff, Nat.reduceBEq, Int.reduceLT, Int.reduceLE, Int.reduceToNat, Int.reduceAdd, Int.reduceSub, Int.reduceMul, Int.reduceNeg, Int.reduceEq, reduceCtorEq, eq_self, ne_eq, not_false_eq_true, if_true, reduceIte, Tryz.underlying9]
    refine hK _ ?_; clear hK K; simp only [thenQ]
    refine absx_seq (absx_region rfl fun K hK => ?_)
    simp -implicitDefEqProofs only [go_sem, bas, basL, Nat.reduceAdd, Nat.reduceSub, Nat.reduceMul, Nat.reduceLT, Nat.reduceLeDiff, Nat.reduceEqDiff, Nat.reduceBEq, Int.reduceLT, Int.reduceLE, Int.reduceToNat, Int.reduceAdd, Int.reduceSub, Int.reduceMul, Int.reduceNeg, Int.reduceEq, reduceCtorEq, eq_self, ne_eq, not_false_eq_true, if_true, reduceIte, Tryz.underlying9]
    refine hK _ ?_; clear hK K; simp only [thenQ]
    refine absx_if ?_
    simp -implicitDefEqProofs only [go_sem, bas, basL, Nat.reduceAdd, Nat.reduceSub, Nat.reduceMul, Nat.reduceLT, Nat.reduceLeDiff, Nat.reduceEqDiff, Nat.reduceBEq, Int.reduceLT, Int.reduceLE, Int.reduceToNat, Int.reduceAdd, Int.reduceSub, Int.reduceMul, Int.reduceNeg, Int.reduceEq, reduceCtorEq, eq_self, ne_eq, not_false_eq_true, if_true, reduceIte, Tryz.underlying9]
    refine absx_skip ?_
    simp only [thenQ]
    refine absx_seq (absx_region rfl fun K hK => ?_)
    simp -implicitDefEqProofs only [go_sem, bas, basL, Nat.reduceAdd, Nat.reduceSub, Nat.reduceMul, Nat.reduceLT, Nat.reduceLeDiff, Nat.reduceEqDiff, Nat.reduceBEq, Int.reduceLT, Int.reduceLE, Int.reduceToNat, Int.reduceAdd, Int.reduceSub, Int.reduceMul, Int.reduceNeg, Int.reduceEq, reduceCtorEq, eq_self, ne_eq, not_false_eq_true, if_true, reduceIte, Tryz.underlying9]
    refine hK _ ?_; clear hK K; simp only [thenQ]
    refine absx_ret ?_
    refine ⟨rfl, ?_⟩
    show resL Tryz.prog _ [ResultVar.cell 2 22, ResultVar.cell 3 24] _
    simp -implicitDefEqProofs only [go_sem, bas, basL, Nat.reduceAdd, Nat.reduceSub, Nat.reduceMul, Nat.reduceLT, Nat.reduceLeDiff, Nat.reduceEqDiff, Nat.reduceBEq, Int.reduceLT, Int.reduceLE, Int.reduceToNat, Int.reduceAdd, Int.reduceSub, Int.reduceMul, Int.reduceNeg, Int.reduceEq, reduceCtorEq, eq_self, ne_eq, not_false_eq_true, if_true, reduceIte, Tryz.underlying9]
  · rintro e a8 w8 s8 ⟨hd8, g8, hg8⟩ ⟨rfl, hres⟩
    show LeavesInM _ _ _ _ _ _ _ _ _
    rw [hd8]
    refine ⟨by simp, .inr ⟨fun h => (by cases h), .func 28, #[p1, p2], 28, #[p1, p2], by rw [hdd], hinv _, fun _ _ => trivial, ?_⟩⟩
    refine (rec_ret #[p1, p2] w8 (by simp)).mono ?_
    rintro e u' w9 ⟨⟨v, rfl⟩, rfl, rfl⟩
    exact fin s8 a8 _ g8 hg8 hres
end Go.Proofs.YtdbiiegohemahaaGreatDoor
