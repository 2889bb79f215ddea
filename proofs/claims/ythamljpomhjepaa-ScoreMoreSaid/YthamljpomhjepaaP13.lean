import Derived.Test.YthamljpomhjepaaP12
import Derived.Test.YthamljpomhjepaaAbT
set_option linter.unusedVariables false
set_option linter.unusedSimpArgs false
namespace Go.Proofs.Ythamljpomhjepaa
open Go.Ab Go.RowKit Go
attribute [local irreducible] Abs CallK CallR CallsTo AbsP
set_option linter.unusedSimpArgs false

theorem if20 : Try.prog.underlying 20 = some (.interface (Try.prog.methodsAt 20)) := by kernel_rfl

theorem rec_eq_nil {a : Act} {w : World} (ha : a.eval (.tmp 7) = .nilIface) : (execOp a.eval ⟨some 9, .binOp .eql 20 (.tmp 7) (.const .nilIface) 20, 4, "score.go:313", #[], none⟩).run Try.prog w = .ok (.value (.bool true)) w := by
  have h1 : a.eval (.const Value.nilIface) = .nilIface := rfl
  simp [execOp, ha, h1, eqGuard, run_eql_nil_nil (P := Try.prog) w 20 if20]
theorem rec_eq_held {a : Act} {w : World} {t : TypeId} {x : Value} (ha : a.eval (.tmp 7) = .iface t x) : (execOp a.eval ⟨some 9, .binOp .eql 20 (.tmp 7) (.const .nilIface) 20, 4, "score.go:313", #[], none⟩).run Try.prog w = .ok (.value (.bool false)) w := by
  have h1 : a.eval (.const Value.nilIface) = .nilIface := rfl
  simp [execOp, ha, h1, eqGuard, run_eql_held_nil (P := Try.prog) w 20 t x if20]

theorem recover_op {F : Fence} {n : Nat} {P : Program} {Q : Exit → Act → List Frame → World → Prop} {a : Act} {cs : List Frame} {w : World} {dst : Option Tmp} {ty : TypeId} {pos : String} {aft : Array Edge} (hF : ∀ f, F.fn f)
    (h : match recoverD cs with | some (v, cs') => Q .normal (a.put dst v) cs' w | none => Q .normal (a.put dst .nilIface) cs w) :
    wpOpsSIn F n P #[⟨dst, .call ⟨.builtin .recover, #[], #[]⟩, ty, pos, aft, none⟩] Q (List.range #[(⟨dst, .call ⟨.builtin .recover, #[], #[]⟩, ty, pos, aft, none⟩ : Oper)].size) a cs w := by
  show wpOpsSIn F n P _ Q [0] a cs w
  have hrun : (execOp a.eval ⟨dst, .call ⟨.builtin .recover, #[], #[]⟩, ty, pos, aft, none⟩).run P w = .ok .recover w := by
    simp [execOp, resolve, invoke, builtin]
  simp only [wpOpsSIn, List.getElem?_toArray, List.getElem?_cons_zero]
  refine ⟨fun f _ => hF f, ?_⟩
  · rw [if_pos (by simp [Region.wanted]), hrun]
    simp only
    cases hr : recoverD cs with
    | none => rw [hr] at h; exact h
    | some p => obtain ⟨v, cs'⟩ := p; rw [hr] at h; exact h

theorem res90 (tmps : Array Value) (w : World) : (results Try.f90 tmps).run Try.prog w = .ok (.tuple #[]) w := by
  rw [results_eq, show Try.f90.results = #[] from rfl]
  simp

set_option maxRecDepth 100000 in
theorem rec_ret (args : Array Value) (w : World) (hn : args.size ≤ 4) : CallsDIn Fence.wide 0 Try.prog 90 args .returning w (fun e u' w' => (∃ v, e = .returned v) ∧ u' = .returning ∧ w' = w) := by
  refine callsDIn_of_wpSIn Try.func90 rfl trivial fun c0 cs hu => ?_
  refine wpSIn_seq (wpSIn_region (recover_op (fun _ => trivial) ?_))
  have hrec : recoverD (c0 :: cs) = none := by simp [recoverD, hu]
  rw [hrec]
  show Code.wpSIn _ _ _ _ _ _ _ _
  refine wpSIn_of_wpIn rfl ?_
  have hnt : Try.f90.ntmps = 19 := rfl
  generalize ha : (Act.put { tmps := args ++ Array.replicate (Try.f90.ntmps - args.size) undef, defers := [] } (some 7) .nilIface : Act) = a
  have hsz : a.tmps.size = 19 := by rw [← ha]; simp [Act.put, hnt]; omega
  have h7 : a.eval (.tmp 7) = .nilIface := by rw [← ha]; simp [Act.put, Act.eval, hnt]; omega
  have hd : a.defers = [] := by rw [← ha]; rfl
  refine wpIn_block (wpIn_seq (wpIn_region_lit (list_cons rfl ⟨fun _ _ => trivial, ?_⟩)))
  rw [Oper.semAt_eq _ _ _ (by intro cl h; cases h), rec_eq_nil h7, Oper.uponIn_value]
  show Code.wpIn _ _ _ _ _ _ _
  have h9 : (a.put (some 9) (.bool true)).eval (.tmp 9) = .bool true := by simp [Act.put, Act.eval, hsz]
  refine wpIn_cond_split h9 (fun _ => ?_) (fun h => by cases h)
  refine wpIn_region_lit (list_cons rfl ⟨fun _ _ => trivial, ?_⟩)
  have h4 : (execOp (a.put (some 9) (.bool true)).eval ⟨some 4, .assign (.tmp 7), 20, "score.go:313", #[], none⟩).run Try.prog w = .ok (.value ((a.put (some 9) (.bool true)).eval (.tmp 7))) w := by simp [execOp]
  rw [Oper.semAt_eq _ _ _ (by intro cl h; cases h), h4, Oper.uponIn_value]
  unfold wpListIn
  simp only [Exit.inBlock, bodyPostS]
  refine ⟨hd, c0.mode, rfl, .tuple #[], res90 _ _, ⟨_, rfl⟩, hu, trivial⟩

def sl7 (b z : List Int) (m : Int) (L : Nat → Bool) : Nat → D := fun k => match k with
  | 0 => .box 1 0
  | 1 => .box 2 0
  | 2 => .box 3 0
  | 3 => .box 4 0
  | 5 => .box 5 0
  | 13 => bif L 0 then .box 5 0 else .undef
  | 14 => bif L 1 then ints b else .undef
  | 15 => bif L 2 then .box 5 1 else .undef
  | 16 => bif L 3 then ints z else .undef
  | 17 => bif L 4 then .box 5 2 else .undef
  | 18 => bif L 5 then i64 m else .undef
  | _ => .undef
def bx7 (T0 : Bx) (b z : List Int) (m : Int) (L : Nat → Bool) : List Bx := [T0, .mu [bif L 6 then ints b else .val (.slice none 0 0)], .mu [bif L 7 then ints z else .val (.slice none 0 0)], .mu [bif L 8 then i64 m else i64 0], .mu [i64 0], .mu [ints b, ints z, i64 m]]
def st7 (T0 : Bx) (b z : List Int) (m : Int) (L : Nat → Bool) : St := ⟨19, sl7 b z m L, bx7 T0 b z m L, []⟩
/-- The table's box names nothing. -/
def TBx (T0 : Bx) : Prop := ∃ c step P, T0 = .mu [i64 c, i64 step, intss P]
theorem st7_named {T0 : Bx} (hT : TBx T0) (b z : List Int) (m : Int) (L : Nat → Bool) : (st7 T0 b z m L).named := by
  obtain ⟨c, step, P, rfl⟩ := hT
  refine ⟨fun k => ?_, namesBx_of _ ?_⟩
  · apply names_of
    simp only [st7, sl7]
    split <;> first | rfl | (cases L 0 <;> rfl) | (cases L 1 <;> rfl) | (cases L 2 <;> rfl) | (cases L 3 <;> rfl) | (cases L 4 <;> rfl) | (cases L 5 <;> rfl)
  · simp only [st7, bx7]
    cases L 6 <;> cases L 7 <;> cases L 8 <;> rfl

set_option maxRecDepth 100000 in
set_option maxHeartbeats 4000000 in
theorem rec_reg {ops : Array Oper} (hops : ops = opsAt Try.f90 7) (W0 : World) (S0 : Addr → Prop) (M0 : MM) (own : Nat → Prop) (β0 : List Nat) (T0 : Bx) (b z : List Int) (m : Int) (hT : TBx T0) (hβ : β0.length ≤ 5) (Q : Exit → Act → World → Prop) (a : Act) (w : World)
    (hr : RX [] [] ⟨Try.prog, W0, S0, M0, none, own, β0⟩ (st7 T0 b z m (fun _ => false)) a w) (hQ : ∀ a' w', RX [] [] ⟨Try.prog, W0, S0, M0, none, own, β0⟩ (st7 T0 b z m (fun j => decide (j < 10))) a' w' → Q .normal a' w') : (Code.region 7 ops true).wpIn Fence.wide 0 Try.prog Q a w := by
  simp only [opsAt, Option.map_some, Option.getD_some, Try.f90, codeOps, Nat.reduceBEq, Bool.false_eq_true, if_false, if_true, List.nil_append, List.append_nil, List.cons_append, List.headD_cons, reduceIte, eq_self] at hops
  subst hops
  refine wpIn_region_flowB Try.ty.mixed (by kernel_rfl) (fun L a w => RX [] [] ⟨Try.prog, W0, S0, M0, none, own, β0⟩ (st7 T0 b z m L) a w) (RX.tick hr) (fun L i o ho hL hdep a w hI => ?_) (fun L a w hL hI => ?_)
  · match i, ho, hL, hdep with
  | 0, ho, hL, hdep =>
    simp only [List.getElem?_toArray, List.getElem?_cons_zero, List.getElem?_cons_succ, Option.some.injEq] at ho; subst ho
    have e5 : sl7 b z m L 5 = .box 5 0 := by simp only [sl7]
    refine rx_step (c := ⟨Try.prog, W0, S0, M0, none, own, β0⟩) rfl hI (K := fun s' => Le s' (st7 T0 b z m (fun j => decide (j = 0) || L j))) (by
      show stepOp Try.prog _ ⟨19, sl7 b z m L, bx7 T0 b z m L, []⟩ _
      simp only [bx7]
      simp only [go_sem, bas, basL, Nat.reduceAdd, Nat.reduceSub, Nat.reduceMul, Nat.reduceLT, Nat.reduceLeDiff, Nat.reduceEqDiff, Nat.reduceBEq, Int.reduceLT, Int.reduceLE, Int.reduceToNat, Int.reduceAdd, Int.reduceSub, Int.reduceMul, Int.reduceNeg, Int.reduceEq, reduceCtorEq, eq_self, ne_eq, not_false_eq_true, if_true, reduceIte, e5]
      skip
      refine ⟨rfl, fun m => ?_, ⟨[], ?_⟩, ⟨[], rfl⟩⟩
      · simp only [st7, sl7, put, St.put]
        split <;> simp
      · simp [st7, bx7, St.put]) fun s' a' w' hr' hle => hr'.le hle (st7_named hT _ _ _ _) (by show β0.length ≤ 6; omega)
  | 1, ho, hL, hdep =>
    simp only [List.getElem?_toArray, List.getElem?_cons_zero, List.getElem?_cons_succ, Option.some.injEq] at ho; subst ho
    have d0 : L 0 = true := hdep ⟨0, .data⟩ (by simp) rfl
    have e13 : sl7 b z m L 13 = .box 5 0 := by simp only [sl7, d0, cond_true]
    refine rx_step (c := ⟨Try.prog, W0, S0, M0, none, own, β0⟩) rfl hI (K := fun s' => Le s' (st7 T0 b z m (fun j => decide (j = 1) || L j))) (by
      show stepOp Try.prog _ ⟨19, sl7 b z m L, bx7 T0 b z m L, []⟩ _
      simp only [bx7]
      simp only [go_sem, bas, basL, Nat.reduceAdd, Nat.reduceSub, Nat.reduceMul, Nat.reduceLT, Nat.reduceLeDiff, Nat.reduceEqDiff, Nat.reduceBEq, Int.reduceLT, Int.reduceLE, Int.reduceToNat, Int.reduceAdd, Int.reduceSub, Int.reduceMul, Int.reduceNeg, Int.reduceEq, reduceCtorEq, eq_self, ne_eq, not_false_eq_true, if_true, reduceIte, e13]
      skip
      refine ⟨rfl, fun m => ?_, ⟨[], ?_⟩, ⟨[], rfl⟩⟩
      · simp only [st7, sl7, put, St.put]
        split <;> simp [d0]
      · simp [st7, bx7, St.put]) fun s' a' w' hr' hle => hr'.le hle (st7_named hT _ _ _ _) (by show β0.length ≤ 6; omega)
  | 2, ho, hL, hdep =>
    simp only [List.getElem?_toArray, List.getElem?_cons_zero, List.getElem?_cons_succ, Option.some.injEq] at ho; subst ho
    have e5 : sl7 b z m L 5 = .box 5 0 := by simp only [sl7]
    refine rx_step (c := ⟨Try.prog, W0, S0, M0, none, own, β0⟩) rfl hI (K := fun s' => Le s' (st7 T0 b z m (fun j => decide (j = 2) || L j))) (by
      show stepOp Try.prog _ ⟨19, sl7 b z m L, bx7 T0 b z m L, []⟩ _
      simp only [bx7]
      simp only [go_sem, bas, basL, Nat.reduceAdd, Nat.reduceSub, Nat.reduceMul, Nat.reduceLT, Nat.reduceLeDiff, Nat.reduceEqDiff, Nat.reduceBEq, Int.reduceLT, Int.reduceLE, Int.reduceToNat, Int.reduceAdd, Int.reduceSub, Int.reduceMul, Int.reduceNeg, Int.reduceEq, reduceCtorEq, eq_self, ne_eq, not_false_eq_true, if_true, reduceIte, e5]
      skip
      refine ⟨rfl, fun m => ?_, ⟨[], ?_⟩, ⟨[], rfl⟩⟩
      · simp only [st7, sl7, put, St.put]
        split <;> simp
      · simp [st7, bx7, St.put]) fun s' a' w' hr' hle => hr'.le hle (st7_named hT _ _ _ _) (by show β0.length ≤ 6; omega)
  | 3, ho, hL, hdep =>
    simp only [List.getElem?_toArray, List.getElem?_cons_zero, List.getElem?_cons_succ, Option.some.injEq] at ho; subst ho
    have d2 : L 2 = true := hdep ⟨2, .data⟩ (by simp) rfl
    have e15 : sl7 b z m L 15 = .box 5 1 := by simp only [sl7, d2, cond_true]
    refine rx_step (c := ⟨Try.prog, W0, S0, M0, none, own, β0⟩) rfl hI (K := fun s' => Le s' (st7 T0 b z m (fun j => decide (j = 3) || L j))) (by
      show stepOp Try.prog _ ⟨19, sl7 b z m L, bx7 T0 b z m L, []⟩ _
      simp only [bx7]
      simp only [go_sem, bas, basL, Nat.reduceAdd, Nat.reduceSub, Nat.reduceMul, Nat.reduceLT, Nat.reduceLeDiff, Nat.reduceEqDiff, Nat.reduceBEq, Int.reduceLT, Int.reduceLE, Int.reduceToNat, Int.reduceAdd, Int.reduceSub, Int.reduceMul, Int.reduceNeg, Int.reduceEq, reduceCtorEq, eq_self, ne_eq, not_false_eq_true, if_true, reduceIte, e15]
      skip
      refine ⟨rfl, fun m => ?_, ⟨[], ?_⟩, ⟨[], rfl⟩⟩
      · simp only [st7, sl7, put, St.put]
        split <;> simp [d2]
      · simp [st7, bx7, St.put]) fun s' a' w' hr' hle => hr'.le hle (st7_named hT _ _ _ _) (by show β0.length ≤ 6; omega)
  | 4, ho, hL, hdep =>
    simp only [List.getElem?_toArray, List.getElem?_cons_zero, List.getElem?_cons_succ, Option.some.injEq] at ho; subst ho
    have e5 : sl7 b z m L 5 = .box 5 0 := by simp only [sl7]
    refine rx_step (c := ⟨Try.prog, W0, S0, M0, none, own, β0⟩) rfl hI (K := fun s' => Le s' (st7 T0 b z m (fun j => decide (j = 4) || L j))) (by
      show stepOp Try.prog _ ⟨19, sl7 b z m L, bx7 T0 b z m L, []⟩ _
      simp only [bx7]
      simp only [go_sem, bas, basL, Nat.reduceAdd, Nat.reduceSub, Nat.reduceMul, Nat.reduceLT, Nat.reduceLeDiff, Nat.reduceEqDiff, Nat.reduceBEq, Int.reduceLT, Int.reduceLE, Int.reduceToNat, Int.reduceAdd, Int.reduceSub, Int.reduceMul, Int.reduceNeg, Int.reduceEq, reduceCtorEq, eq_self, ne_eq, not_false_eq_true, if_true, reduceIte, e5]
      skip
      refine ⟨rfl, fun m => ?_, ⟨[], ?_⟩, ⟨[], rfl⟩⟩
      · simp only [st7, sl7, put, St.put]
        split <;> simp
      · simp [st7, bx7, St.put]) fun s' a' w' hr' hle => hr'.le hle (st7_named hT _ _ _ _) (by show β0.length ≤ 6; omega)
  | 5, ho, hL, hdep =>
    simp only [List.getElem?_toArray, List.getElem?_cons_zero, List.getElem?_cons_succ, Option.some.injEq] at ho; subst ho
    have d4 : L 4 = true := hdep ⟨4, .data⟩ (by simp) rfl
    have e17 : sl7 b z m L 17 = .box 5 2 := by simp only [sl7, d4, cond_true]
    refine rx_step (c := ⟨Try.prog, W0, S0, M0, none, own, β0⟩) rfl hI (K := fun s' => Le s' (st7 T0 b z m (fun j => decide (j = 5) || L j))) (by
      show stepOp Try.prog _ ⟨19, sl7 b z m L, bx7 T0 b z m L, []⟩ _
      simp only [bx7]
      simp only [go_sem, bas, basL, Nat.reduceAdd, Nat.reduceSub, Nat.reduceMul, Nat.reduceLT, Nat.reduceLeDiff, Nat.reduceEqDiff, Nat.reduceBEq, Int.reduceLT, Int.reduceLE, Int.reduceToNat, Int.reduceAdd, Int.reduceSub, Int.reduceMul, Int.reduceNeg, Int.reduceEq, reduceCtorEq, eq_self, ne_eq, not_false_eq_true, if_true, reduceIte, e17]
      skip
      refine ⟨rfl, fun m => ?_, ⟨[], ?_⟩, ⟨[], rfl⟩⟩
      · simp only [st7, sl7, put, St.put]
        split <;> simp [d4]
      · simp [st7, bx7, St.put]) fun s' a' w' hr' hle => hr'.le hle (st7_named hT _ _ _ _) (by show β0.length ≤ 6; omega)
  | 6, ho, hL, hdep =>
    simp only [List.getElem?_toArray, List.getElem?_cons_zero, List.getElem?_cons_succ, Option.some.injEq] at ho; subst ho
    have d1 : L 1 = true := hdep ⟨1, .data⟩ (by simp) rfl
    have e0 : sl7 b z m L 0 = .box 1 0 := by simp only [sl7, d1, cond_true]
    have e14 : sl7 b z m L 14 = ints b := by simp only [sl7, d1, cond_true]
    refine rx_step (c := ⟨Try.prog, W0, S0, M0, none, own, β0⟩) rfl hI (K := fun s' => Le s' (st7 T0 b z m (fun j => decide (j = 6) || L j))) (by
      show stepOp Try.prog _ ⟨19, sl7 b z m L, bx7 T0 b z m L, []⟩ _
      simp only [bx7]
      simp only [go_sem, bas, basL, Nat.reduceAdd, Nat.reduceSub, Nat.reduceMul, Nat.reduceLT, Nat.reduceLeDiff, Nat.reduceEqDiff, Nat.reduceBEq, Int.reduceLT, Int.reduceLE, Int.reduceToNat, Int.reduceAdd, Int.reduceSub, Int.reduceMul, Int.reduceNeg, Int.reduceEq, reduceCtorEq, eq_self, ne_eq, not_false_eq_true, if_true, reduceIte, e0, e14]
      skip
      refine ⟨rfl, fun m => ?_, ⟨[], ?_⟩, ⟨[], rfl⟩⟩
      · simp only [st7, sl7, put, St.put]
        split <;> simp [d1]
      · simp [st7, bx7, St.put]) fun s' a' w' hr' hle => hr'.le hle (st7_named hT _ _ _ _) (by show β0.length ≤ 6; omega)
  | 7, ho, hL, hdep =>
    simp only [List.getElem?_toArray, List.getElem?_cons_zero, List.getElem?_cons_succ, Option.some.injEq] at ho; subst ho
    have d3 : L 3 = true := hdep ⟨3, .data⟩ (by simp) rfl
    have e1 : sl7 b z m L 1 = .box 2 0 := by simp only [sl7, d3, cond_true]
    have e16 : sl7 b z m L 16 = ints z := by simp only [sl7, d3, cond_true]
    refine rx_step (c := ⟨Try.prog, W0, S0, M0, none, own, β0⟩) rfl hI (K := fun s' => Le s' (st7 T0 b z m (fun j => decide (j = 7) || L j))) (by
      show stepOp Try.prog _ ⟨19, sl7 b z m L, bx7 T0 b z m L, []⟩ _
      simp only [bx7]
      simp only [go_sem, bas, basL, Nat.reduceAdd, Nat.reduceSub, Nat.reduceMul, Nat.reduceLT, Nat.reduceLeDiff, Nat.reduceEqDiff, Nat.reduceBEq, Int.reduceLT, Int.reduceLE, Int.reduceToNat, Int.reduceAdd, Int.reduceSub, Int.reduceMul, Int.reduceNeg, Int.reduceEq, reduceCtorEq, eq_self, ne_eq, not_false_eq_true, if_true, reduceIte, e1, e16]
      skip
      refine ⟨rfl, fun m => ?_, ⟨[], ?_⟩, ⟨[], rfl⟩⟩
      · simp only [st7, sl7, put, St.put]
        split <;> simp [d3]
      · simp [st7, bx7, St.put]) fun s' a' w' hr' hle => hr'.le hle (st7_named hT _ _ _ _) (by show β0.length ≤ 6; omega)
  | 8, ho, hL, hdep =>
    simp only [List.getElem?_toArray, List.getElem?_cons_zero, List.getElem?_cons_succ, Option.some.injEq] at ho; subst ho
    have d5 : L 5 = true := hdep ⟨5, .data⟩ (by simp) rfl
    have e2 : sl7 b z m L 2 = .box 3 0 := by simp only [sl7, d5, cond_true]
    have e18 : sl7 b z m L 18 = i64 m := by simp only [sl7, d5, cond_true]
    refine rx_step (c := ⟨Try.prog, W0, S0, M0, none, own, β0⟩) rfl hI (K := fun s' => Le s' (st7 T0 b z m (fun j => decide (j = 8) || L j))) (by
      show stepOp Try.prog _ ⟨19, sl7 b z m L, bx7 T0 b z m L, []⟩ _
      simp only [bx7]
      simp only [go_sem, bas, basL, Nat.reduceAdd, Nat.reduceSub, Nat.reduceMul, Nat.reduceLT, Nat.reduceLeDiff, Nat.reduceEqDiff, Nat.reduceBEq, Int.reduceLT, Int.reduceLE, Int.reduceToNat, Int.reduceAdd, Int.reduceSub, Int.reduceMul, Int.reduceNeg, Int.reduceEq, reduceCtorEq, eq_self, ne_eq, not_false_eq_true, if_true, reduceIte, e2, e18]
      skip
      refine ⟨rfl, fun m => ?_, ⟨[], ?_⟩, ⟨[], rfl⟩⟩
      · simp only [st7, sl7, put, St.put]
        split <;> simp [d5]
      · simp [st7, bx7, St.put]) fun s' a' w' hr' hle => hr'.le hle (st7_named hT _ _ _ _) (by show β0.length ≤ 6; omega)
  | 9, ho, hL, hdep =>
    simp only [List.getElem?_toArray, List.getElem?_cons_zero, List.getElem?_cons_succ, Option.some.injEq] at ho; subst ho
    have e3 : sl7 b z m L 3 = .box 4 0 := by simp only [sl7]
    refine rx_step (c := ⟨Try.prog, W0, S0, M0, none, own, β0⟩) rfl hI (K := fun s' => Le s' (st7 T0 b z m (fun j => decide (j = 9) || L j))) (by
      show stepOp Try.prog _ ⟨19, sl7 b z m L, bx7 T0 b z m L, []⟩ _
      simp only [bx7]
      simp only [go_sem, bas, basL, Nat.reduceAdd, Nat.reduceSub, Nat.reduceMul, Nat.reduceLT, Nat.reduceLeDiff, Nat.reduceEqDiff, Nat.reduceBEq, Int.reduceLT, Int.reduceLE, Int.reduceToNat, Int.reduceAdd, Int.reduceSub, Int.reduceMul, Int.reduceNeg, Int.reduceEq, reduceCtorEq, eq_self, ne_eq, not_false_eq_true, if_true, reduceIte, e3]
      skip
      refine ⟨rfl, fun m => ?_, ⟨[], ?_⟩, ⟨[], rfl⟩⟩
      · simp only [st7, sl7, put, St.put]
        split <;> simp
      · simp [st7, bx7, St.put]) fun s' a' w' hr' hle => hr'.le hle (st7_named hT _ _ _ _) (by show β0.length ≤ 6; omega)
  | i + 10, ho, hL, hdep => simp at ho
  · have e : st7 T0 b z m L = st7 T0 b z m (fun j => decide (j < 10)) := by
      have hs : sl7 b z m L = sl7 b z m (fun j => decide (j < 10)) := by
        funext k
        simp only [sl7, hL 0 (by decide), hL 1 (by decide), hL 2 (by decide), hL 3 (by decide), hL 4 (by decide), hL 5 (by decide)]
        split <;> rfl
      have hb : bx7 T0 b z m L = bx7 T0 b z m (fun j => decide (j < 10)) := by
        simp only [bx7, hL 6 (by decide), hL 7 (by decide), hL 8 (by decide)]
        rfl
      simp only [st7, hs, hb]
    exact hQ _ _ (e ▸ hI)

theorem run_assert {P : Program} {t : TypeId} (h : aggO P t = some true) (x : Value) (u : TypeId) (w : World) : (Instr.typeAssert (.iface t x) u t true).run P w = .ok (.tuple #[x, .bool true]) w := by
  unfold aggO at h
  split at h <;> first | (cases h; done) | (rename_i hu; simp [Instr.typeAssert, run_underlying hu])

theorem rxbool {l1 l2 : List Deferred} {c : Ctx} {s : St} {a : Act} {w : World} {x : Operand} {b : Bool} (h : RX l1 l2 c s a w) (hs : s.ev x = .bool b) : a.eval x = .bool b := by
  obtain ⟨_, g, hg⟩ := h
  have hv := hg.ev x
  rw [hs] at hv
  exact hv.asBool

set_option maxRecDepth 100000 in
set_option maxHeartbeats 4000000 in
theorem rec_pan (W0 : World) (S0 : Addr → Prop) (M0 : MM) (own0 : Nat → Prop) (β00 : List Nat) (st : St) (a : Act) (W : World) (g : Gh) (T0 : Bx) (b z : List Int) (m : Int) (x p1 p2 p3 p4 : Value) (hT : TBx T0)
    (hg : RG ⟨Try.prog, W0, S0, M0, none, own0, β00⟩ st a W g) (hbx : st.bx = [T0, .mu [.val (.slice none 0 0)], .mu [.val (.slice none 0 0)], .mu [i64 0], .mu [i64 0]]) (hrw : st.rw = [])
    (hx : Rel W g x (.agg [ints b, ints z, i64 m])) (h1 : Rel W g p1 (.box 1 0)) (h2 : Rel W g p2 (.box 2 0)) (h3 : Rel W g p3 (.box 3 0)) (h4 : Rel W g p4 (.box 4 0)) :
    CallsDIn Fence.wide 0 Try.prog 90 #[p1, p2, p3, p4] (.panicking [{ v := .iface 115 x, recovered := false }]) W (fun e u' w' => (∃ v, e = .returned v) ∧ u' = .panicking [{ v := .iface 115 x, recovered := true }] ∧
      ∃ a2 g2, RG ⟨Try.prog, W, g.S, g.M, none, fun b => W.heap.size ≤ b ∨ (own0 b ∧ ∃ cs t fz, W.heap[b]? = some (.cells cs t fz)), g.β⟩ (st7 T0 b z m (fun j => decide (j < 10))) a2 w' g2) := by
  refine callsDIn_of_wpSIn Try.func90 rfl trivial fun c0 cs hu => ?_
  refine wpSIn_seq (wpSIn_region (recover_op (fun _ => trivial) ?_))
  have hrec : recoverD (c0 :: cs) = some (.iface 115 x, { c0 with mode := .panicking [{ v := .iface 115 x, recovered := true }] } :: cs) := by simp [recoverD, hu]
  rw [hrec]
  show Code.wpSIn _ _ _ _ _ _ _ _
  refine wpSIn_of_wpIn rfl ?_
  have hnt : Try.f90.ntmps = 19 := rfl
  generalize ha : (Act.put { tmps := #[p1, p2, p3, p4] ++ Array.replicate (Try.f90.ntmps - #[p1, p2, p3, p4].size) undef, defers := [] } (some 7) (.iface 115 x) : Act) = a0
  have hsz : a0.tmps.size = 19 := by rw [← ha]; simp [Act.put, hnt]
  have h7 : a0.eval (.tmp 7) = .iface 115 x := by rw [← ha]; simp [Act.put, Act.eval, hnt]
  have hd : a0.defers = [] := by rw [← ha]; rfl
  have hp : a0.tmps.getD 0 undef = p1 ∧ a0.tmps.getD 1 undef = p2 ∧ a0.tmps.getD 2 undef = p3 ∧ a0.tmps.getD 3 undef = p4 := by rw [← ha]; refine ⟨?_, ?_, ?_, ?_⟩ <;> simp [Act.put, hnt]
  refine wpIn_block (wpIn_seq (wpIn_region_lit (list_cons rfl ⟨fun _ _ => trivial, ?_⟩)))
  rw [Oper.semAt_eq _ _ _ (by intro cl h; cases h), rec_eq_held h7, Oper.uponIn_value]
  show Code.wpIn _ _ _ _ _ _ _
  have h9 : (a0.put (some 9) (.bool false)).eval (.tmp 9) = .bool false := by simp [Act.put, Act.eval, hsz]
  refine wpIn_cond_split h9 (fun h => by cases h) (fun _ => ?_)
  refine wpIn_seq (wpIn_region_lit (list_cons rfl ⟨fun _ _ => trivial, ?_⟩))
  have h7' : (a0.put (some 9) (.bool false)).eval (.tmp 7) = .iface 115 x := by
    have := h7
    simp [Act.put, Act.eval, hsz] at this ⊢
    exact this
  have h10 : (execOp (a0.put (some 9) (.bool false)).eval ⟨some 10, .typeAssert (.tmp 7) 20 115 true, 0, "score.go:313", #[], none⟩).run Try.prog W = .ok (.value (.tuple #[x, .bool true])) W := by
    simp [execOp, h7', run_assert Try.ty.ag115]
  rw [Oper.semAt_eq _ _ _ (by intro cl h; cases h), h10, Oper.uponIn_value]
  -- from here on the layer speaks
  generalize ha1 : (a0.put (some 9) (.bool false)).put (some 10) (.tuple #[x, .bool true]) = a1
  have hsz1 : a1.tmps.size = 19 := by rw [← ha1]; simp [Act.put, hsz]
  have hd1 : a1.defers = [] := by rw [← ha1]; exact hd
  have hg1 := hg.enterN (a' := a1) (n := 19) (sl := fun k => match k with | 0 => .box 1 0 | 1 => .box 2 0 | 2 => .box 3 0 | 3 => .box 4 0 | 10 => .tup [.agg [ints b, ints z, i64 m], .bool true] | _ => .undef) hd1 hsz1 (fun k => by
    have hget : ∀ k, k ≠ 9 → k ≠ 10 → a1.tmps.getD k undef = a0.tmps.getD k undef := fun k h9 h10 => by
      rw [← ha1]
      simp [Act.put, Array.getElem?_setIfInBounds, Ne.symm h9, Ne.symm h10]
    split
    · rw [hget 0 (by decide) (by decide), hp.1]; exact h1
    · rw [hget 1 (by decide) (by decide), hp.2.1]; exact h2
    · rw [hget 2 (by decide) (by decide), hp.2.2.1]; exact h3
    · rw [hget 3 (by decide) (by decide), hp.2.2.2]; exact h4
    · have : a1.tmps.getD 10 undef = .tuple #[x, .bool true] := by rw [← ha1]; simp [Act.put, hsz]
      rw [this]
      refine .tup _ _ _ rfl (fun q d hd => ?_)
      match q, hd with
      | 0, hd => cases hd; exact hx
      | 1, hd => cases hd; exact .bool _ _
    · exact .undef _ _)
  rw [hbx, hrw] at hg1
  have hβ : g.β.length ≤ 5 := by rw [hg.lβ, hbx]; simp
  have hr1 : RX [] [] ⟨Try.prog, W, g.S, g.M, none, fun b => W.heap.size ≤ b ∨ (own0 b ∧ ∃ cs t fz, W.heap[b]? = some (.cells cs t fz)), g.β⟩ _ a1 W := ⟨hd1, g, by
    have : ({ a1 with defers := [] } : Act) = a1 := by rw [← hd1]
    rw [this]; exact hg1⟩
  generalize hsl : (fun k => match k with | 0 => D.box 1 0 | 1 => .box 2 0 | 2 => .box 3 0 | 3 => .box 4 0 | 10 => .tup [.agg [ints b, ints z, i64 m], .bool true] | _ => .undef : Nat → D) = sl0 at hr1
  have s0 : sl0 0 = .box 1 0 := congrFun hsl.symm 0
  have s1 : sl0 1 = .box 2 0 := congrFun hsl.symm 1
  have s2 : sl0 2 = .box 3 0 := congrFun hsl.symm 2
  have s3 : sl0 3 = .box 4 0 := congrFun hsl.symm 3
  have s10 : sl0 10 = .tup [.agg [ints b, ints z, i64 m], .bool true] := congrFun hsl.symm 10
  obtain ⟨TC, TS, TP, rfl⟩ := hT
  refine rx_list (rest := []) (K := fun s' => s' = _) (fun s2' a2 w2 hr2 e2 => ?_) [_, _] _ a1 W rfl hr1 (by
    simp only [go_sem, bas, basL, Nat.reduceAdd, Nat.reduceSub, Nat.reduceMul, Nat.reduceLT, Nat.reduceLeDiff, Nat.reduceEqDiff, Nat.reduceBEq, Int.reduceLT, Int.reduceLE, Int.reduceToNat, Int.reduceAdd, Int.reduceSub, Int.reduceMul, Int.reduceNeg, Int.reduceEq, reduceCtorEq, eq_self, ne_eq, not_false_eq_true, if_true, reduceIte, s0, s1, s2, s3, s10]
    exact rfl)
  subst e2
  unfold wpListIn
  show Code.wpIn _ _ _ _ _ _ _
  have h11 := rxbool hr2 (x := .tmp 11) (b := true) rfl
  refine wpIn_cond_split h11 (fun _ => ?_) (fun h => by cases h)
  refine wpIn_seq (wpIn_region_lit ?_)
  refine rx_list (rest := []) (K := fun s' => s' = _) (fun s3' a3 w3 hr3 e3 => ?_) [_, _] _ a2 w2 rfl hr2 (by
    simp only [go_sem, bas, basL, Nat.reduceAdd, Nat.reduceSub, Nat.reduceMul, Nat.reduceLT, Nat.reduceLeDiff, Nat.reduceEqDiff, Nat.reduceBEq, Int.reduceLT, Int.reduceLE, Int.reduceToNat, Int.reduceAdd, Int.reduceSub, Int.reduceMul, Int.reduceNeg, Int.reduceEq, reduceCtorEq, eq_self, ne_eq, not_false_eq_true, if_true, reduceIte, s0, s1, s2, s3, s10]
    exact rfl)
  subst e3
  unfold wpListIn
  show Code.wpIn _ _ _ _ _ _ _
  refine rec_reg (by kernel_rfl) W g.S g.M _ g.β (.mu [i64 TC, i64 TS, intss TP]) b z m ⟨TC, TS, TP, rfl⟩ hβ _ a3 w3 (hr3.le ⟨rfl, fun k => ?_, ⟨[], rfl⟩, ⟨[], rfl⟩⟩ (st7_named ⟨TC, TS, TP, rfl⟩ _ _ _ _) (by show g.β.length ≤ 6; omega)) (fun a4 w4 hr4 => ?_)
  · simp only [st7, sl7, cond_false]
    split <;> first | exact .inl rfl | exact .inr rfl | (right; simp [put, s0, s1, s2, s3]; done)
  · obtain ⟨hd4, g4, hg4⟩ := hr4
    have e4 : ({ a4 with defers := [] } : Act) = a4 := by rw [← hd4]
    rw [e4] at hg4
    simp only [Exit.inBlock, bodyPostS]
    exact ⟨hd4, .panicking [{ v := .iface 115 x, recovered := true }], rfl, .tuple #[], res90 _ _, ⟨_, rfl⟩, rfl, a4, g4, hg4⟩
end Go.Proofs.Ythamljpomhjepaa
