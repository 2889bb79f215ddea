import Derived.Test.YthamljpomhjepaaS1
import Derived.Test.YthamljpomhjepaaAbW
set_option linter.unusedVariables false
set_option linter.unusedSimpArgs false
namespace Go.Proofs.Ythamljpomhjepaa
open Go.Ab
attribute [local irreducible] Abs CallK CallR CallsTo

theorem up_eq {L : Nat → Bool} {j : Nat} : (fun q => decide (q = j) || L q) j = true := by simp
theorem le_refl_of (s : St) : Le s s := ⟨rfl, fun _ => .inr rfl, ⟨[], by simp⟩, ⟨[], by simp⟩⟩
/-- Not done, as what waits for it would be. -/
theorem not_done {l : List Oper} {L : Nat → Bool} (hC : closedL l.toArray L) {j k : Nat} {o : Oper} (ho : l[k]? = some o) (he : o.after.any (fun e => Region.binds .any e && e.on == j) = true) (hj : L j = false) : L k = false := by
  cases h : L k with
  | false => rfl
  | true =>
    obtain ⟨e, he, hb⟩ := Array.any_eq_true'.1 he
    simp only [Bool.and_eq_true, beq_iff_eq] at hb
    have := hC k o (by simpa using ho) h e he hb.1
    rw [hb.2, hj] at this; cases this

section
variable (F G T : D) (dy i : Int) (bX bY : Nat) (ow : List Int) (rwl : List (List Int))
def sl18 (L : Nat → Bool) : Nat → D := fun m => match m with
  | 1 => F
  | 2 => G
  | 3 => T
  | 4 => i64 dy
  | 5 => .box 0 0
  | 11 => .box bX 0
  | 12 => .box bY 0
  | 13 => bif L 9 then .own 2 else bif L 3 then .undef else .own 2
  | 14 => i64 i
  | 15 => .own 3
  | 16 => .own 4
  | 116 => bif L 0 then (bif L 3 then .undef else .own 2) else .undef
  | 117 => bif L 1 then .own 4 else .undef
  | 118 => bif L 2 then .list [intss rwl] else .undef
  | 119 => bif L 3 then .own 2 else .undef
  | 120 => bif L 4 then .box bY 2 else .undef
  | 121 => bif L 5 then (bif L 8 then .undef else .own 1) else .undef
  | 122 => bif L 6 then .own 3 else .undef
  | 123 => bif L 7 then .list [ints ow] else .undef
  | 124 => bif L 8 then .own 1 else .undef
  | 125 => bif L 10 then .box bY 2 else .undef
  | _ => .undef
end
def rw18 (R0 : Row) (ys rt : List D) (ow : List Int) (rwl : List (List Int)) (L : Nat → Bool) : List Row := [R0, ⟨true, 22, 1, bif L 8 then ys ++ [ints ow] else ys⟩, ⟨true, 40, 1, bif L 3 then rt ++ [intss rwl] else rt⟩, ⟨true, 3, 1, ow.map (D.int .i64)⟩, ⟨true, 22, 1, rwl.map ints⟩]

def bx18A (c : Int) (W : List Int) (S : List (List Int)) (L : Nat → Bool) : List Bx := [.mu [i64 c, ints W, intss S], .mu [i64 c, ints W, .own 0], .mu [i64 c, ints W, bif L 8 then (bif L 11 then .own 1 else .undef) else .own 1]]
def st18A (c : Int) (W : List Int) (S : List (List Int)) (F G T : D) (dy i : Int) (R0 : Row) (ys rt : List D) (ow : List Int) (rwl : List (List Int)) (L : Nat → Bool) : St := ⟨224, sl18 F G T dy i 1 2 ow rwl L, bx18A c W S L, rw18 R0 ys rt ow rwl L⟩

theorem st18A_named (c : Int) (W : List Int) (S : List (List Int)) (f g t : List D) (dy i : Int) (R0 : Row) (ys rt : List D) (ow : List Int) (rwl : List (List Int)) (L : Nat → Bool) : (st18A c W S (.list f) (.list g) (.list t) dy i R0 ys rt ow rwl L).named := by
  refine ⟨fun m => ?_, namesBx_of _ (by
      simp only [st18A, bx18A]
      cases L 8 <;> cases L 11 <;> rfl)⟩
  apply names_of
  simp only [st18A, sl18]
  split <;> first | rfl | (cases L 0 <;> cases L 3 <;> rfl) | (cases L 9 <;> cases L 3 <;> rfl) | (cases L 1 <;> rfl) | (cases L 2 <;> rfl) | (cases L 3 <;> rfl) | (cases L 4 <;> rfl) | (cases L 5 <;> cases L 8 <;> rfl) | (cases L 6 <;> rfl) | (cases L 7 <;> rfl) | (cases L 8 <;> rfl) | (cases L 10 <;> rfl)
set_option maxRecDepth 100000 in
set_option maxHeartbeats 4000000 in
theorem reg18A {ops : Array Oper} (hops : ops = opsAt Try.f16 18) (w0 : World) (S0 : Addr → Prop) (M0 : MM) (c : Int) (W : List Int) (S : List (List Int)) (f g t : List D) (dy i : Int) (R0 : Row) (ys rt : List D) (ow : List Int) (rwl : List (List Int))
    (hy : ys.length ≤ 1000000) (hr : rt.length ≤ 1000000) {Q : Exit → St → Prop} (hQ : ∀ L, (∀ j, j < 12 → L j = true) → Q .normal (st18A c W S (.list f) (.list g) (.list t) dy i R0 ys rt ow rwl L)) :
    Abs ⟨Try.prog, w0, S0, M0, none, fun b => w0.heap.size ≤ b, []⟩ (.region 18 ops true) Q (st18A c W S (.list f) (.list g) (.list t) dy i R0 ys rt ow rwl (fun _ => false)) := by
  simp only [opsAt, Option.map_some, Option.getD_some, Try.f16, codeOps, Nat.reduceBEq, Bool.false_eq_true, if_false, if_true, List.nil_append, List.append_nil, List.cons_append, List.headD_cons, reduceIte, eq_self] at hops
  subst hops
  refine abs_flow (ι := Unit) Try.ty.mixed rfl (by kernel_rfl) (fun _ => st18A c W S (.list f) (.list g) (.list t) dy i R0 ys rt ow rwl) (fun _ _ => True) (fun _ L => st18A_named _ _ _ _ _ _ _ _ _ _ _ _ _ L) (fun _ _ => Nat.zero_le _) () trivial (le_refl_of _) (fun _ L j o hC _ ho hL hdep => ?_) (fun _ L _ hL => hQ L hL)
  match j, hC, ho, hL, hdep with
  | 0, hC, ho, hL, hdep =>
    simp only [List.getElem?_cons_zero, List.getElem?_cons_succ, Option.some.injEq] at ho; subst ho
    have n3 : L 3 = false := not_done hC (k := 3) (j := 0) rfl (by kernel_rfl) hL
    have n9 : L 9 = false := not_done hC (k := 9) (j := 3) rfl (by kernel_rfl) n3
    have e13 : sl18 (.list f) (.list g) (.list t) dy i 1 2 ow rwl L 13 = .own 2 := by simp only [sl18, n3, n9, hL, cond_true, cond_false]
    show stepOp Try.prog _ ⟨224, sl18 (.list f) (.list g) (.list t) dy i 1 2 ow rwl L, bx18A c W S L, rw18 R0 ys rt ow rwl L⟩ _
    simp only [bx18A, rw18, n3, n9, hL, cond_true, cond_false]
    simp -implicitDefEqProofs only [go_sem, bas, basL, Nat.reduceAdd, Nat.reduceSub, Nat.reduceMul, Nat.reduceLT, Nat.reduceLeDiff, Nat.reduceEqDiff, Nat.reduceBEq, Int.reduceLT, Int.reduceLE, Int.reduceToNat, Int.reduceAdd, Int.reduceSub, Int.reduceMul, Int.reduceNeg, Int.reduceEq, reduceCtorEq, eq_self, ne_eq, not_false_eq_true, if_true, reduceIte, e13]
    skip
    refine ⟨(), rfl, fun m => ?_, ⟨[], ?_⟩, ⟨[], ?_⟩⟩
    · simp only [st18A, sl18, put, purgeS]
      split <;> first | (simp [n3, n9, hL, purge, D.men, menL]; done)
    · first | (simp [st18A, bx18A, n3, n9, hL, purgeB, purge, D.men, menL]; done) | (simp only [st18A, bx18A]; cases L 8 <;> cases L 11 <;> simp [n3, n9, hL, purgeB, purge, D.men, menL])
    · simp [st18A, rw18, n3, n9, hL]
  | 1, hC, ho, hL, hdep =>
    simp only [List.getElem?_cons_zero, List.getElem?_cons_succ, Option.some.injEq] at ho; subst ho
    have e16 : sl18 (.list f) (.list g) (.list t) dy i 1 2 ow rwl L 16 = .own 4 := by simp only [sl18, hL, cond_true, cond_false]
    show stepOp Try.prog _ ⟨224, sl18 (.list f) (.list g) (.list t) dy i 1 2 ow rwl L, bx18A c W S L, rw18 R0 ys rt ow rwl L⟩ _
    simp only [bx18A, rw18, hL, cond_true, cond_false]
    simp -implicitDefEqProofs only [go_sem, bas, basL, Nat.reduceAdd, Nat.reduceSub, Nat.reduceMul, Nat.reduceLT, Nat.reduceLeDiff, Nat.reduceEqDiff, Nat.reduceBEq, Int.reduceLT, Int.reduceLE, Int.reduceToNat, Int.reduceAdd, Int.reduceSub, Int.reduceMul, Int.reduceNeg, Int.reduceEq, reduceCtorEq, eq_self, ne_eq, not_false_eq_true, if_true, reduceIte, e16]
    skip
    refine ⟨(), rfl, fun m => ?_, ⟨[], ?_⟩, ⟨[], ?_⟩⟩
    · simp only [st18A, sl18, put, purgeS]
      split <;> first | (simp [hL, purge, D.men, menL]; done)
    · first | (simp [st18A, bx18A, hL, purgeB, purge, D.men, menL]; done) | (simp only [st18A, bx18A]; cases L 8 <;> cases L 11 <;> simp [hL, purgeB, purge, D.men, menL])
    · simp [st18A, rw18, hL]
  | 2, hC, ho, hL, hdep =>
    simp only [List.getElem?_cons_zero, List.getElem?_cons_succ, Option.some.injEq] at ho; subst ho
    have d1 : L 1 = true := hdep ⟨1, .data⟩ (by simp) rfl
    have e117 : sl18 (.list f) (.list g) (.list t) dy i 1 2 ow rwl L 117 = .own 4 := by simp only [sl18, d1, hL, cond_true, cond_false]
    show stepOp Try.prog _ ⟨224, sl18 (.list f) (.list g) (.list t) dy i 1 2 ow rwl L, bx18A c W S L, rw18 R0 ys rt ow rwl L⟩ _
    simp only [bx18A, rw18, d1, hL, cond_true, cond_false]
    simp -implicitDefEqProofs only [go_sem, bas, basL, Nat.reduceAdd, Nat.reduceSub, Nat.reduceMul, Nat.reduceLT, Nat.reduceLeDiff, Nat.reduceEqDiff, Nat.reduceBEq, Int.reduceLT, Int.reduceLE, Int.reduceToNat, Int.reduceAdd, Int.reduceSub, Int.reduceMul, Int.reduceNeg, Int.reduceEq, reduceCtorEq, eq_self, ne_eq, not_false_eq_true, if_true, reduceIte, e117]
    skip
    refine ⟨(), rfl, fun m => ?_, ⟨[], ?_⟩, ⟨[], ?_⟩⟩
    · simp only [st18A, sl18, put, purgeS]
      split <;> first | (simp [d1, hL, purge, D.men, menL]; done)
    · first | (simp [st18A, bx18A, d1, hL, purgeB, purge, D.men, menL]; done) | (simp only [st18A, bx18A]; cases L 8 <;> cases L 11 <;> simp [d1, hL, purgeB, purge, D.men, menL])
    · simp [st18A, rw18, d1, hL]
  | 3, hC, ho, hL, hdep =>
    simp only [List.getElem?_cons_zero, List.getElem?_cons_succ, Option.some.injEq] at ho; subst ho
    have d0 : L 0 = true := hdep ⟨0, .data⟩ (by simp) rfl
    have d2 : L 2 = true := hdep ⟨2, .data⟩ (by simp) rfl
    have n9 : L 9 = false := not_done hC (k := 9) (j := 3) rfl (by kernel_rfl) hL
    have e116 : sl18 (.list f) (.list g) (.list t) dy i 1 2 ow rwl L 116 = .own 2 := by simp only [sl18, d0, d2, n9, hL, cond_true, cond_false]
    have e118 : sl18 (.list f) (.list g) (.list t) dy i 1 2 ow rwl L 118 = .list [intss rwl] := by simp only [sl18, d0, d2, n9, hL, cond_true, cond_false]
    show stepOp Try.prog _ ⟨224, sl18 (.list f) (.list g) (.list t) dy i 1 2 ow rwl L, bx18A c W S L, rw18 R0 ys rt ow rwl L⟩ _
    simp only [bx18A, rw18, d0, d2, n9, hL, cond_true, cond_false]
    simp -implicitDefEqProofs only [go_sem, bas, basL, Nat.reduceAdd, Nat.reduceSub, Nat.reduceMul, Nat.reduceLT, Nat.reduceLeDiff, Nat.reduceEqDiff, Nat.reduceBEq, Int.reduceLT, Int.reduceLE, Int.reduceToNat, Int.reduceAdd, Int.reduceSub, Int.reduceMul, Int.reduceNeg, Int.reduceEq, reduceCtorEq, eq_self, ne_eq, not_false_eq_true, if_true, reduceIte, e116, e118]
    refine ⟨by omega, by omega, ?_⟩
    refine ⟨(), rfl, fun m => ?_, ⟨[], ?_⟩, ⟨[], ?_⟩⟩
    · simp only [st18A, sl18, put, purgeS]
      split <;> first | (simp [d0, d2, n9, hL, purge, D.men, menL]; done) | (cases L 1 <;> simp [d0, d2, n9, hL, purge, D.men, menL]; done) | (cases L 2 <;> simp [d0, d2, n9, hL, purge, D.men, menL]; done) | (cases L 3 <;> simp [d0, d2, n9, hL, purge, D.men, menL]; done) | (cases L 4 <;> simp [d0, d2, n9, hL, purge, D.men, menL]; done) | (cases L 6 <;> simp [d0, d2, n9, hL, purge, D.men, menL]; done) | (cases L 7 <;> simp [d0, d2, n9, hL, purge, D.men, menL]; done) | (cases L 8 <;> simp [d0, d2, n9, hL, purge, D.men, menL]; done) | (cases L 10 <;> simp [d0, d2, n9, hL, purge, D.men, menL]; done) | (cases L 0 <;> cases L 3 <;> simp [d0, d2, n9, hL, purge, D.men, menL]; done) | (cases L 9 <;> cases L 3 <;> simp [d0, d2, n9, hL, purge, D.men, menL]; done) | (cases L 5 <;> cases L 8 <;> simp [d0, d2, n9, hL, purge, D.men, menL]; done)
    · first | (simp [st18A, bx18A, d0, d2, n9, hL, purgeB, purge, D.men, menL]; done) | (simp only [st18A, bx18A]; cases L 8 <;> cases L 11 <;> simp [d0, d2, n9, hL, purgeB, purge, D.men, menL])
    · simp [st18A, rw18, d0, d2, n9, hL]
  | 4, hC, ho, hL, hdep =>
    simp only [List.getElem?_cons_zero, List.getElem?_cons_succ, Option.some.injEq] at ho; subst ho
    have e12 : sl18 (.list f) (.list g) (.list t) dy i 1 2 ow rwl L 12 = .box 2 0 := by simp only [sl18, hL, cond_true, cond_false]
    show stepOp Try.prog _ ⟨224, sl18 (.list f) (.list g) (.list t) dy i 1 2 ow rwl L, bx18A c W S L, rw18 R0 ys rt ow rwl L⟩ _
    simp only [bx18A, rw18, hL, cond_true, cond_false]
    simp -implicitDefEqProofs only [go_sem, bas, basL, Nat.reduceAdd, Nat.reduceSub, Nat.reduceMul, Nat.reduceLT, Nat.reduceLeDiff, Nat.reduceEqDiff, Nat.reduceBEq, Int.reduceLT, Int.reduceLE, Int.reduceToNat, Int.reduceAdd, Int.reduceSub, Int.reduceMul, Int.reduceNeg, Int.reduceEq, reduceCtorEq, eq_self, ne_eq, not_false_eq_true, if_true, reduceIte, e12]
    skip
    refine ⟨(), rfl, fun m => ?_, ⟨[], ?_⟩, ⟨[], ?_⟩⟩
    · simp only [st18A, sl18, put, purgeS]
      split <;> first | (simp [hL, purge, D.men, menL]; done)
    · first | (simp [st18A, bx18A, hL, purgeB, purge, D.men, menL]; done) | (simp only [st18A, bx18A]; cases L 8 <;> cases L 11 <;> simp [hL, purgeB, purge, D.men, menL])
    · simp [st18A, rw18, hL]
  | 5, hC, ho, hL, hdep =>
    simp only [List.getElem?_cons_zero, List.getElem?_cons_succ, Option.some.injEq] at ho; subst ho
    have d4 : L 4 = true := hdep ⟨4, .data⟩ (by simp) rfl
    have n8 : L 8 = false := not_done hC (k := 8) (j := 5) rfl (by kernel_rfl) hL
    have n11 : L 11 = false := not_done hC (k := 11) (j := 8) rfl (by kernel_rfl) n8
    have e120 : sl18 (.list f) (.list g) (.list t) dy i 1 2 ow rwl L 120 = .box 2 2 := by simp only [sl18, d4, n8, n11, hL, cond_true, cond_false]
    show stepOp Try.prog _ ⟨224, sl18 (.list f) (.list g) (.list t) dy i 1 2 ow rwl L, bx18A c W S L, rw18 R0 ys rt ow rwl L⟩ _
    simp only [bx18A, rw18, d4, n8, n11, hL, cond_true, cond_false]
    simp -implicitDefEqProofs only [go_sem, bas, basL, Nat.reduceAdd, Nat.reduceSub, Nat.reduceMul, Nat.reduceLT, Nat.reduceLeDiff, Nat.reduceEqDiff, Nat.reduceBEq, Int.reduceLT, Int.reduceLE, Int.reduceToNat, Int.reduceAdd, Int.reduceSub, Int.reduceMul, Int.reduceNeg, Int.reduceEq, reduceCtorEq, eq_self, ne_eq, not_false_eq_true, if_true, reduceIte, e120]
    skip
    refine ⟨(), rfl, fun m => ?_, ⟨[], ?_⟩, ⟨[], ?_⟩⟩
    · simp only [st18A, sl18, put, purgeS]
      split <;> first | (simp [d4, n8, n11, hL, purge, D.men, menL]; done)
    · first | (simp [st18A, bx18A, d4, n8, n11, hL, purgeB, purge, D.men, menL]; done) | (simp only [st18A, bx18A]; cases L 8 <;> cases L 11 <;> simp [d4, n8, n11, hL, purgeB, purge, D.men, menL])
    · simp [st18A, rw18, d4, n8, n11, hL]
  | 6, hC, ho, hL, hdep =>
    simp only [List.getElem?_cons_zero, List.getElem?_cons_succ, Option.some.injEq] at ho; subst ho
    have e15 : sl18 (.list f) (.list g) (.list t) dy i 1 2 ow rwl L 15 = .own 3 := by simp only [sl18, hL, cond_true, cond_false]
    show stepOp Try.prog _ ⟨224, sl18 (.list f) (.list g) (.list t) dy i 1 2 ow rwl L, bx18A c W S L, rw18 R0 ys rt ow rwl L⟩ _
    simp only [bx18A, rw18, hL, cond_true, cond_false]
    simp -implicitDefEqProofs only [go_sem, bas, basL, Nat.reduceAdd, Nat.reduceSub, Nat.reduceMul, Nat.reduceLT, Nat.reduceLeDiff, Nat.reduceEqDiff, Nat.reduceBEq, Int.reduceLT, Int.reduceLE, Int.reduceToNat, Int.reduceAdd, Int.reduceSub, Int.reduceMul, Int.reduceNeg, Int.reduceEq, reduceCtorEq, eq_self, ne_eq, not_false_eq_true, if_true, reduceIte, e15]
    skip
    refine ⟨(), rfl, fun m => ?_, ⟨[], ?_⟩, ⟨[], ?_⟩⟩
    · simp only [st18A, sl18, put, purgeS]
      split <;> first | (simp [hL, purge, D.men, menL]; done)
    · first | (simp [st18A, bx18A, hL, purgeB, purge, D.men, menL]; done) | (simp only [st18A, bx18A]; cases L 8 <;> cases L 11 <;> simp [hL, purgeB, purge, D.men, menL])
    · simp [st18A, rw18, hL]
  | 7, hC, ho, hL, hdep =>
    simp only [List.getElem?_cons_zero, List.getElem?_cons_succ, Option.some.injEq] at ho; subst ho
    have d6 : L 6 = true := hdep ⟨6, .data⟩ (by simp) rfl
    have e122 : sl18 (.list f) (.list g) (.list t) dy i 1 2 ow rwl L 122 = .own 3 := by simp only [sl18, d6, hL, cond_true, cond_false]
    show stepOp Try.prog _ ⟨224, sl18 (.list f) (.list g) (.list t) dy i 1 2 ow rwl L, bx18A c W S L, rw18 R0 ys rt ow rwl L⟩ _
    simp only [bx18A, rw18, d6, hL, cond_true, cond_false]
    simp -implicitDefEqProofs only [go_sem, bas, basL, Nat.reduceAdd, Nat.reduceSub, Nat.reduceMul, Nat.reduceLT, Nat.reduceLeDiff, Nat.reduceEqDiff, Nat.reduceBEq, Int.reduceLT, Int.reduceLE, Int.reduceToNat, Int.reduceAdd, Int.reduceSub, Int.reduceMul, Int.reduceNeg, Int.reduceEq, reduceCtorEq, eq_self, ne_eq, not_false_eq_true, if_true, reduceIte, e122]
    skip
    refine ⟨(), rfl, fun m => ?_, ⟨[], ?_⟩, ⟨[], ?_⟩⟩
    · simp only [st18A, sl18, put, purgeS]
      split <;> first | (simp [d6, hL, purge, D.men, menL]; done)
    · first | (simp [st18A, bx18A, d6, hL, purgeB, purge, D.men, menL]; done) | (simp only [st18A, bx18A]; cases L 8 <;> cases L 11 <;> simp [d6, hL, purgeB, purge, D.men, menL])
    · simp [st18A, rw18, d6, hL]
  | 8, hC, ho, hL, hdep =>
    simp only [List.getElem?_cons_zero, List.getElem?_cons_succ, Option.some.injEq] at ho; subst ho
    have d5 : L 5 = true := hdep ⟨5, .data⟩ (by simp) rfl
    have d7 : L 7 = true := hdep ⟨7, .data⟩ (by simp) rfl
    have n11 : L 11 = false := not_done hC (k := 11) (j := 8) rfl (by kernel_rfl) hL
    have e121 : sl18 (.list f) (.list g) (.list t) dy i 1 2 ow rwl L 121 = .own 1 := by simp only [sl18, d5, d7, n11, hL, cond_true, cond_false]
    have e123 : sl18 (.list f) (.list g) (.list t) dy i 1 2 ow rwl L 123 = .list [ints ow] := by simp only [sl18, d5, d7, n11, hL, cond_true, cond_false]
    show stepOp Try.prog _ ⟨224, sl18 (.list f) (.list g) (.list t) dy i 1 2 ow rwl L, bx18A c W S L, rw18 R0 ys rt ow rwl L⟩ _
    simp only [bx18A, rw18, d5, d7, n11, hL, cond_true, cond_false]
    simp -implicitDefEqProofs only [go_sem, bas, basL, Nat.reduceAdd, Nat.reduceSub, Nat.reduceMul, Nat.reduceLT, Nat.reduceLeDiff, Nat.reduceEqDiff, Nat.reduceBEq, Int.reduceLT, Int.reduceLE, Int.reduceToNat, Int.reduceAdd, Int.reduceSub, Int.reduceMul, Int.reduceNeg, Int.reduceEq, reduceCtorEq, eq_self, ne_eq, not_false_eq_true, if_true, reduceIte, e121, e123]
    refine ⟨by omega, by omega, ?_⟩
    refine ⟨(), rfl, fun m => ?_, ⟨[], ?_⟩, ⟨[], ?_⟩⟩
    · simp only [st18A, sl18, put, purgeS]
      split <;> first | (simp [d5, d7, n11, hL, purge, D.men, menL]; done) | (cases L 1 <;> simp [d5, d7, n11, hL, purge, D.men, menL]; done) | (cases L 2 <;> simp [d5, d7, n11, hL, purge, D.men, menL]; done) | (cases L 3 <;> simp [d5, d7, n11, hL, purge, D.men, menL]; done) | (cases L 4 <;> simp [d5, d7, n11, hL, purge, D.men, menL]; done) | (cases L 6 <;> simp [d5, d7, n11, hL, purge, D.men, menL]; done) | (cases L 7 <;> simp [d5, d7, n11, hL, purge, D.men, menL]; done) | (cases L 8 <;> simp [d5, d7, n11, hL, purge, D.men, menL]; done) | (cases L 10 <;> simp [d5, d7, n11, hL, purge, D.men, menL]; done) | (cases L 0 <;> cases L 3 <;> simp [d5, d7, n11, hL, purge, D.men, menL]; done) | (cases L 9 <;> cases L 3 <;> simp [d5, d7, n11, hL, purge, D.men, menL]; done) | (cases L 5 <;> cases L 8 <;> simp [d5, d7, n11, hL, purge, D.men, menL]; done)
    · first | (simp [st18A, bx18A, d5, d7, n11, hL, purgeB, purge, D.men, menL]; done) | (simp only [st18A, bx18A]; cases L 8 <;> cases L 11 <;> simp [d5, d7, n11, hL, purgeB, purge, D.men, menL])
    · simp [st18A, rw18, d5, d7, n11, hL]
  | 9, hC, ho, hL, hdep =>
    simp only [List.getElem?_cons_zero, List.getElem?_cons_succ, Option.some.injEq] at ho; subst ho
    have d3 : L 3 = true := hdep ⟨3, .data⟩ (by simp) rfl
    have e119 : sl18 (.list f) (.list g) (.list t) dy i 1 2 ow rwl L 119 = .own 2 := by simp only [sl18, d3, hL, cond_true, cond_false]
    show stepOp Try.prog _ ⟨224, sl18 (.list f) (.list g) (.list t) dy i 1 2 ow rwl L, bx18A c W S L, rw18 R0 ys rt ow rwl L⟩ _
    simp only [bx18A, rw18, d3, hL, cond_true, cond_false]
    simp -implicitDefEqProofs only [go_sem, bas, basL, Nat.reduceAdd, Nat.reduceSub, Nat.reduceMul, Nat.reduceLT, Nat.reduceLeDiff, Nat.reduceEqDiff, Nat.reduceBEq, Int.reduceLT, Int.reduceLE, Int.reduceToNat, Int.reduceAdd, Int.reduceSub, Int.reduceMul, Int.reduceNeg, Int.reduceEq, reduceCtorEq, eq_self, ne_eq, not_false_eq_true, if_true, reduceIte, e119]
    skip
    refine ⟨(), rfl, fun m => ?_, ⟨[], ?_⟩, ⟨[], ?_⟩⟩
    · simp only [st18A, sl18, put, purgeS]
      split <;> first | (simp [d3, hL, purge, D.men, menL]; done)
    · first | (simp [st18A, bx18A, d3, hL, purgeB, purge, D.men, menL]; done) | (simp only [st18A, bx18A]; cases L 8 <;> cases L 11 <;> simp [d3, hL, purgeB, purge, D.men, menL])
    · simp [st18A, rw18, d3, hL]
  | 10, hC, ho, hL, hdep =>
    simp only [List.getElem?_cons_zero, List.getElem?_cons_succ, Option.some.injEq] at ho; subst ho
    have e12 : sl18 (.list f) (.list g) (.list t) dy i 1 2 ow rwl L 12 = .box 2 0 := by simp only [sl18, hL, cond_true, cond_false]
    show stepOp Try.prog _ ⟨224, sl18 (.list f) (.list g) (.list t) dy i 1 2 ow rwl L, bx18A c W S L, rw18 R0 ys rt ow rwl L⟩ _
    simp only [bx18A, rw18, hL, cond_true, cond_false]
    simp -implicitDefEqProofs only [go_sem, bas, basL, Nat.reduceAdd, Nat.reduceSub, Nat.reduceMul, Nat.reduceLT, Nat.reduceLeDiff, Nat.reduceEqDiff, Nat.reduceBEq, Int.reduceLT, Int.reduceLE, Int.reduceToNat, Int.reduceAdd, Int.reduceSub, Int.reduceMul, Int.reduceNeg, Int.reduceEq, reduceCtorEq, eq_self, ne_eq, not_false_eq_true, if_true, reduceIte, e12]
    skip
    refine ⟨(), rfl, fun m => ?_, ⟨[], ?_⟩, ⟨[], ?_⟩⟩
    · simp only [st18A, sl18, put, purgeS]
      split <;> first | (simp [hL, purge, D.men, menL]; done)
    · first | (simp [st18A, bx18A, hL, purgeB, purge, D.men, menL]; done) | (simp only [st18A, bx18A]; cases L 8 <;> cases L 11 <;> simp [hL, purgeB, purge, D.men, menL])
    · simp [st18A, rw18, hL]
  | 11, hC, ho, hL, hdep =>
    simp only [List.getElem?_cons_zero, List.getElem?_cons_succ, Option.some.injEq] at ho; subst ho
    have d8 : L 8 = true := hdep ⟨8, .data⟩ (by simp) rfl
    have d10 : L 10 = true := hdep ⟨10, .data⟩ (by simp) rfl
    have e125 : sl18 (.list f) (.list g) (.list t) dy i 1 2 ow rwl L 125 = .box 2 2 := by simp only [sl18, d8, d10, hL, cond_true, cond_false]
    have e124 : sl18 (.list f) (.list g) (.list t) dy i 1 2 ow rwl L 124 = .own 1 := by simp only [sl18, d8, d10, hL, cond_true, cond_false]
    show stepOp Try.prog _ ⟨224, sl18 (.list f) (.list g) (.list t) dy i 1 2 ow rwl L, bx18A c W S L, rw18 R0 ys rt ow rwl L⟩ _
    simp only [bx18A, rw18, d8, d10, hL, cond_true, cond_false]
    simp -implicitDefEqProofs only [go_sem, bas, basL, Nat.reduceAdd, Nat.reduceSub, Nat.reduceMul, Nat.reduceLT, Nat.reduceLeDiff, Nat.reduceEqDiff, Nat.reduceBEq, Int.reduceLT, Int.reduceLE, Int.reduceToNat, Int.reduceAdd, Int.reduceSub, Int.reduceMul, Int.reduceNeg, Int.reduceEq, reduceCtorEq, eq_self, ne_eq, not_false_eq_true, if_true, reduceIte, e125, e124]
    skip
    refine ⟨(), rfl, fun m => ?_, ⟨[], ?_⟩, ⟨[], ?_⟩⟩
    · simp only [st18A, sl18, put, purgeS]
      split <;> first | (simp [d8, d10, hL, purge, D.men, menL]; done)
    · first | (simp [st18A, bx18A, d8, d10, hL, purgeB, purge, D.men, menL]; done) | (simp only [st18A, bx18A]; cases L 8 <;> cases L 11 <;> simp [d8, d10, hL, purgeB, purge, D.men, menL])
    · simp [st18A, rw18, d8, d10, hL]
  | j + 12, hC, ho, hL, hdep => simp at ho

def bx18B (c : Int) (W : List Int) (S : List (List Int)) (L : Nat → Bool) : List Bx := [.mu [i64 c, ints W, intss S], .mu [i64 c, ints W, bif L 8 then (bif L 11 then .own 1 else .undef) else .own 1], .mu [i64 c, ints W, .own 0]]
def st18B (c : Int) (W : List Int) (S : List (List Int)) (F G T : D) (dy i : Int) (R0 : Row) (ys rt : List D) (ow : List Int) (rwl : List (List Int)) (L : Nat → Bool) : St := ⟨224, sl18 F G T dy i 2 1 ow rwl L, bx18B c W S L, rw18 R0 ys rt ow rwl L⟩

theorem st18B_named (c : Int) (W : List Int) (S : List (List Int)) (f g t : List D) (dy i : Int) (R0 : Row) (ys rt : List D) (ow : List Int) (rwl : List (List Int)) (L : Nat → Bool) : (st18B c W S (.list f) (.list g) (.list t) dy i R0 ys rt ow rwl L).named := by
  refine ⟨fun m => ?_, namesBx_of _ (by
      simp only [st18B, bx18B]
      cases L 8 <;> cases L 11 <;> rfl)⟩
  apply names_of
  simp only [st18B, sl18]
  split <;> first | rfl | (cases L 0 <;> cases L 3 <;> rfl) | (cases L 9 <;> cases L 3 <;> rfl) | (cases L 1 <;> rfl) | (cases L 2 <;> rfl) | (cases L 3 <;> rfl) | (cases L 4 <;> rfl) | (cases L 5 <;> cases L 8 <;> rfl) | (cases L 6 <;> rfl) | (cases L 7 <;> rfl) | (cases L 8 <;> rfl) | (cases L 10 <;> rfl)
set_option maxRecDepth 100000 in
set_option maxHeartbeats 4000000 in
theorem reg18B {ops : Array Oper} (hops : ops = opsAt Try.f16 18) (w0 : World) (S0 : Addr → Prop) (M0 : MM) (c : Int) (W : List Int) (S : List (List Int)) (f g t : List D) (dy i : Int) (R0 : Row) (ys rt : List D) (ow : List Int) (rwl : List (List Int))
    (hy : ys.length ≤ 1000000) (hr : rt.length ≤ 1000000) {Q : Exit → St → Prop} (hQ : ∀ L, (∀ j, j < 12 → L j = true) → Q .normal (st18B c W S (.list f) (.list g) (.list t) dy i R0 ys rt ow rwl L)) :
    Abs ⟨Try.prog, w0, S0, M0, none, fun b => w0.heap.size ≤ b, []⟩ (.region 18 ops true) Q (st18B c W S (.list f) (.list g) (.list t) dy i R0 ys rt ow rwl (fun _ => false)) := by
  simp only [opsAt, Option.map_some, Option.getD_some, Try.f16, codeOps, Nat.reduceBEq, Bool.false_eq_true, if_false, if_true, List.nil_append, List.append_nil, List.cons_append, List.headD_cons, reduceIte, eq_self] at hops
  subst hops
  refine abs_flow (ι := Unit) Try.ty.mixed rfl (by kernel_rfl) (fun _ => st18B c W S (.list f) (.list g) (.list t) dy i R0 ys rt ow rwl) (fun _ _ => True) (fun _ L => st18B_named _ _ _ _ _ _ _ _ _ _ _ _ _ L) (fun _ _ => Nat.zero_le _) () trivial (le_refl_of _) (fun _ L j o hC _ ho hL hdep => ?_) (fun _ L _ hL => hQ L hL)
  match j, hC, ho, hL, hdep with
  | 0, hC, ho, hL, hdep =>
    simp only [List.getElem?_cons_zero, List.getElem?_cons_succ, Option.some.injEq] at ho; subst ho
    have n3 : L 3 = false := not_done hC (k := 3) (j := 0) rfl (by kernel_rfl) hL
    have n9 : L 9 = false := not_done hC (k := 9) (j := 3) rfl (by kernel_rfl) n3
    have e13 : sl18 (.list f) (.list g) (.list t) dy i 2 1 ow rwl L 13 = .own 2 := by simp only [sl18, n3, n9, hL, cond_true, cond_false]
    show stepOp Try.prog _ ⟨224, sl18 (.list f) (.list g) (.list t) dy i 2 1 ow rwl L, bx18B c W S L, rw18 R0 ys rt ow rwl L⟩ _
    simp only [bx18B, rw18, n3, n9, hL, cond_true, cond_false]
    simp -implicitDefEqProofs only [go_sem, bas, basL, Nat.reduceAdd, Nat.reduceSub, Nat.reduceMul, Nat.reduceLT, Nat.reduceLeDiff, Nat.reduceEqDiff, Nat.reduceBEq, Int.reduceLT, Int.reduceLE, Int.reduceToNat, Int.reduceAdd, Int.reduceSub, Int.reduceMul, Int.reduceNeg, Int.reduceEq, reduceCtorEq, eq_self, ne_eq, not_false_eq_true, if_true, reduceIte, e13]
    skip
    refine ⟨(), rfl, fun m => ?_, ⟨[], ?_⟩, ⟨[], ?_⟩⟩
    · simp only [st18B, sl18, put, purgeS]
      split <;> first | (simp [n3, n9, hL, purge, D.men, menL]; done)
    · first | (simp [st18B, bx18B, n3, n9, hL, purgeB, purge, D.men, menL]; done) | (simp only [st18B, bx18B]; cases L 8 <;> cases L 11 <;> simp [n3, n9, hL, purgeB, purge, D.men, menL])
    · simp [st18B, rw18, n3, n9, hL]
  | 1, hC, ho, hL, hdep =>
    simp only [List.getElem?_cons_zero, List.getElem?_cons_succ, Option.some.injEq] at ho; subst ho
    have e16 : sl18 (.list f) (.list g) (.list t) dy i 2 1 ow rwl L 16 = .own 4 := by simp only [sl18, hL, cond_true, cond_false]
    show stepOp Try.prog _ ⟨224, sl18 (.list f) (.list g) (.list t) dy i 2 1 ow rwl L, bx18B c W S L, rw18 R0 ys rt ow rwl L⟩ _
    simp only [bx18B, rw18, hL, cond_true, cond_false]
    simp -implicitDefEqProofs only [go_sem, bas, basL, Nat.reduceAdd, Nat.reduceSub, Nat.reduceMul, Nat.reduceLT, Nat.reduceLeDiff, Nat.reduceEqDiff, Nat.reduceBEq, Int.reduceLT, Int.reduceLE, Int.reduceToNat, Int.reduceAdd, Int.reduceSub, Int.reduceMul, Int.reduceNeg, Int.reduceEq, reduceCtorEq, eq_self, ne_eq, not_false_eq_true, if_true, reduceIte, e16]
    skip
    refine ⟨(), rfl, fun m => ?_, ⟨[], ?_⟩, ⟨[], ?_⟩⟩
    · simp only [st18B, sl18, put, purgeS]
      split <;> first | (simp [hL, purge, D.men, menL]; done)
    · first | (simp [st18B, bx18B, hL, purgeB, purge, D.men, menL]; done) | (simp only [st18B, bx18B]; cases L 8 <;> cases L 11 <;> simp [hL, purgeB, purge, D.men, menL])
    · simp [st18B, rw18, hL]
  | 2, hC, ho, hL, hdep =>
    simp only [List.getElem?_cons_zero, List.getElem?_cons_succ, Option.some.injEq] at ho; subst ho
    have d1 : L 1 = true := hdep ⟨1, .data⟩ (by simp) rfl
    have e117 : sl18 (.list f) (.list g) (.list t) dy i 2 1 ow rwl L 117 = .own 4 := by simp only [sl18, d1, hL, cond_true, cond_false]
    show stepOp Try.prog _ ⟨224, sl18 (.list f) (.list g) (.list t) dy i 2 1 ow rwl L, bx18B c W S L, rw18 R0 ys rt ow rwl L⟩ _
    simp only [bx18B, rw18, d1, hL, cond_true, cond_false]
    simp -implicitDefEqProofs only [go_sem, bas, basL, Nat.reduceAdd, Nat.reduceSub, Nat.reduceMul, Nat.reduceLT, Nat.reduceLeDiff, Nat.reduceEqDiff, Nat.reduceBEq, Int.reduceLT, Int.reduceLE, Int.reduceToNat, Int.reduceAdd, Int.reduceSub, Int.reduceMul, Int.reduceNeg, Int.reduceEq, reduceCtorEq, eq_self, ne_eq, not_false_eq_true, if_true, reduceIte, e117]
    skip
    refine ⟨(), rfl, fun m => ?_, ⟨[], ?_⟩, ⟨[], ?_⟩⟩
    · simp only [st18B, sl18, put, purgeS]
      split <;> first | (simp [d1, hL, purge, D.men, menL]; done)
    · first | (simp [st18B, bx18B, d1, hL, purgeB, purge, D.men, menL]; done) | (simp only [st18B, bx18B]; cases L 8 <;> cases L 11 <;> simp [d1, hL, purgeB, purge, D.men, menL])
    · simp [st18B, rw18, d1, hL]
  | 3, hC, ho, hL, hdep =>
    simp only [List.getElem?_cons_zero, List.getElem?_cons_succ, Option.some.injEq] at ho; subst ho
    have d0 : L 0 = true := hdep ⟨0, .data⟩ (by simp) rfl
    have d2 : L 2 = true := hdep ⟨2, .data⟩ (by simp) rfl
    have n9 : L 9 = false := not_done hC (k := 9) (j := 3) rfl (by kernel_rfl) hL
    have e116 : sl18 (.list f) (.list g) (.list t) dy i 2 1 ow rwl L 116 = .own 2 := by simp only [sl18, d0, d2, n9, hL, cond_true, cond_false]
    have e118 : sl18 (.list f) (.list g) (.list t) dy i 2 1 ow rwl L 118 = .list [intss rwl] := by simp only [sl18, d0, d2, n9, hL, cond_true, cond_false]
    show stepOp Try.prog _ ⟨224, sl18 (.list f) (.list g) (.list t) dy i 2 1 ow rwl L, bx18B c W S L, rw18 R0 ys rt ow rwl L⟩ _
    simp only [bx18B, rw18, d0, d2, n9, hL, cond_true, cond_false]
    simp -implicitDefEqProofs only [go_sem, bas, basL, Nat.reduceAdd, Nat.reduceSub, Nat.reduceMul, Nat.reduceLT, Nat.reduceLeDiff, Nat.reduceEqDiff, Nat.reduceBEq, Int.reduceLT, Int.reduceLE, Int.reduceToNat, Int.reduceAdd, Int.reduceSub, Int.reduceMul, Int.reduceNeg, Int.reduceEq, reduceCtorEq, eq_self, ne_eq, not_false_eq_true, if_true, reduceIte, e116, e118]
    refine ⟨by omega, by omega, ?_⟩
    refine ⟨(), rfl, fun m => ?_, ⟨[], ?_⟩, ⟨[], ?_⟩⟩
    · simp only [st18B, sl18, put, purgeS]
      split <;> first | (simp [d0, d2, n9, hL, purge, D.men, menL]; done) | (cases L 1 <;> simp [d0, d2, n9, hL, purge, D.men, menL]; done) | (cases L 2 <;> simp [d0, d2, n9, hL, purge, D.men, menL]; done) | (cases L 3 <;> simp [d0, d2, n9, hL, purge, D.men, menL]; done) | (cases L 4 <;> simp [d0, d2, n9, hL, purge, D.men, menL]; done) | (cases L 6 <;> simp [d0, d2, n9, hL, purge, D.men, menL]; done) | (cases L 7 <;> simp [d0, d2, n9, hL, purge, D.men, menL]; done) | (cases L 8 <;> simp [d0, d2, n9, hL, purge, D.men, menL]; done) | (cases L 10 <;> simp [d0, d2, n9, hL, purge, D.men, menL]; done) | (cases L 0 <;> cases L 3 <;> simp [d0, d2, n9, hL, purge, D.men, menL]; done) | (cases L 9 <;> cases L 3 <;> simp [d0, d2, n9, hL, purge, D.men, menL]; done) | (cases L 5 <;> cases L 8 <;> simp [d0, d2, n9, hL, purge, D.men, menL]; done)
    · first | (simp [st18B, bx18B, d0, d2, n9, hL, purgeB, purge, D.men, menL]; done) | (simp only [st18B, bx18B]; cases L 8 <;> cases L 11 <;> simp [d0, d2, n9, hL, purgeB, purge, D.men, menL])
    · simp [st18B, rw18, d0, d2, n9, hL]
  | 4, hC, ho, hL, hdep =>
    simp only [List.getElem?_cons_zero, List.getElem?_cons_succ, Option.some.injEq] at ho; subst ho
    have e12 : sl18 (.list f) (.list g) (.list t) dy i 2 1 ow rwl L 12 = .box 1 0 := by simp only [sl18, hL, cond_true, cond_false]
    show stepOp Try.prog _ ⟨224, sl18 (.list f) (.list g) (.list t) dy i 2 1 ow rwl L, bx18B c W S L, rw18 R0 ys rt ow rwl L⟩ _
    simp only [bx18B, rw18, hL, cond_true, cond_false]
    simp -implicitDefEqProofs only [go_sem, bas, basL, Nat.reduceAdd, Nat.reduceSub, Nat.reduceMul, Nat.reduceLT, Nat.reduceLeDiff, Nat.reduceEqDiff, Nat.reduceBEq, Int.reduceLT, Int.reduceLE, Int.reduceToNat, Int.reduceAdd, Int.reduceSub, Int.reduceMul, Int.reduceNeg, Int.reduceEq, reduceCtorEq, eq_self, ne_eq, not_false_eq_true, if_true, reduceIte, e12]
    skip
    refine ⟨(), rfl, fun m => ?_, ⟨[], ?_⟩, ⟨[], ?_⟩⟩
    · simp only [st18B, sl18, put, purgeS]
      split <;> first | (simp [hL, purge, D.men, menL]; done)
    · first | (simp [st18B, bx18B, hL, purgeB, purge, D.men, menL]; done) | (simp only [st18B, bx18B]; cases L 8 <;> cases L 11 <;> simp [hL, purgeB, purge, D.men, menL])
    · simp [st18B, rw18, hL]
  | 5, hC, ho, hL, hdep =>
    simp only [List.getElem?_cons_zero, List.getElem?_cons_succ, Option.some.injEq] at ho; subst ho
    have d4 : L 4 = true := hdep ⟨4, .data⟩ (by simp) rfl
    have n8 : L 8 = false := not_done hC (k := 8) (j := 5) rfl (by kernel_rfl) hL
    have n11 : L 11 = false := not_done hC (k := 11) (j := 8) rfl (by kernel_rfl) n8
    have e120 : sl18 (.list f) (.list g) (.list t) dy i 2 1 ow rwl L 120 = .box 1 2 := by simp only [sl18, d4, n8, n11, hL, cond_true, cond_false]
    show stepOp Try.prog _ ⟨224, sl18 (.list f) (.list g) (.list t) dy i 2 1 ow rwl L, bx18B c W S L, rw18 R0 ys rt ow rwl L⟩ _
    simp only [bx18B, rw18, d4, n8, n11, hL, cond_true, cond_false]
    simp -implicitDefEqProofs only [go_sem, bas, basL, Nat.reduceAdd, Nat.reduceSub, Nat.reduceMul, Nat.reduceLT, Nat.reduceLeDiff, Nat.reduceEqDiff, Nat.reduceBEq, Int.reduceLT, Int.reduceLE, Int.reduceToNat, Int.reduceAdd, Int.reduceSub, Int.reduceMul, Int.reduceNeg, Int.reduceEq, reduceCtorEq, eq_self, ne_eq, not_false_eq_true, if_true, reduceIte, e120]
    skip
    refine ⟨(), rfl, fun m => ?_, ⟨[], ?_⟩, ⟨[], ?_⟩⟩
    · simp only [st18B, sl18, put, purgeS]
      split <;> first | (simp [d4, n8, n11, hL, purge, D.men, menL]; done)
    · first | (simp [st18B, bx18B, d4, n8, n11, hL, purgeB, purge, D.men, menL]; done) | (simp only [st18B, bx18B]; cases L 8 <;> cases L 11 <;> simp [d4, n8, n11, hL, purgeB, purge, D.men, menL])
    · simp [st18B, rw18, d4, n8, n11, hL]
  | 6, hC, ho, hL, hdep =>
    simp only [List.getElem?_cons_zero, List.getElem?_cons_succ, Option.some.injEq] at ho; subst ho
    have e15 : sl18 (.list f) (.list g) (.list t) dy i 2 1 ow rwl L 15 = .own 3 := by simp only [sl18, hL, cond_true, cond_false]
    show stepOp Try.prog _ ⟨224, sl18 (.list f) (.list g) (.list t) dy i 2 1 ow rwl L, bx18B c W S L, rw18 R0 ys rt ow rwl L⟩ _
    simp only [bx18B, rw18, hL, cond_true, cond_false]
    simp -implicitDefEqProofs only [go_sem, bas, basL, Nat.reduceAdd, Nat.reduceSub, Nat.reduceMul, Nat.reduceLT, Nat.reduceLeDiff, Nat.reduceEqDiff, Nat.reduceBEq, Int.reduceLT, Int.reduceLE, Int.reduceToNat, Int.reduceAdd, Int.reduceSub, Int.reduceMul, Int.reduceNeg, Int.reduceEq, reduceCtorEq, eq_self, ne_eq, not_false_eq_true, if_true, reduceIte, e15]
    skip
    refine ⟨(), rfl, fun m => ?_, ⟨[], ?_⟩, ⟨[], ?_⟩⟩
    · simp only [st18B, sl18, put, purgeS]
      split <;> first | (simp [hL, purge, D.men, menL]; done)
    · first | (simp [st18B, bx18B, hL, purgeB, purge, D.men, menL]; done) | (simp only [st18B, bx18B]; cases L 8 <;> cases L 11 <;> simp [hL, purgeB, purge, D.men, menL])
    · simp [st18B, rw18, hL]
  | 7, hC, ho, hL, hdep =>
    simp only [List.getElem?_cons_zero, List.getElem?_cons_succ, Option.some.injEq] at ho; subst ho
    have d6 : L 6 = true := hdep ⟨6, .data⟩ (by simp) rfl
    have e122 : sl18 (.list f) (.list g) (.list t) dy i 2 1 ow rwl L 122 = .own 3 := by simp only [sl18, d6, hL, cond_true, cond_false]
    show stepOp Try.prog _ ⟨224, sl18 (.list f) (.list g) (.list t) dy i 2 1 ow rwl L, bx18B c W S L, rw18 R0 ys rt ow rwl L⟩ _
    simp only [bx18B, rw18, d6, hL, cond_true, cond_false]
    simp -implicitDefEqProofs only [go_sem, bas, basL, Nat.reduceAdd, Nat.reduceSub, Nat.reduceMul, Nat.reduceLT, Nat.reduceLeDiff, Nat.reduceEqDiff, Nat.reduceBEq, Int.reduceLT, Int.reduceLE, Int.reduceToNat, Int.reduceAdd, Int.reduceSub, Int.reduceMul, Int.reduceNeg, Int.reduceEq, reduceCtorEq, eq_self, ne_eq, not_false_eq_true, if_true, reduceIte, e122]
    skip
    refine ⟨(), rfl, fun m => ?_, ⟨[], ?_⟩, ⟨[], ?_⟩⟩
    · simp only [st18B, sl18, put, purgeS]
      split <;> first | (simp [d6, hL, purge, D.men, menL]; done)
    · first | (simp [st18B, bx18B, d6, hL, purgeB, purge, D.men, menL]; done) | (simp only [st18B, bx18B]; cases L 8 <;> cases L 11 <;> simp [d6, hL, purgeB, purge, D.men, menL])
    · simp [st18B, rw18, d6, hL]
  | 8, hC, ho, hL, hdep =>
    simp only [List.getElem?_cons_zero, List.getElem?_cons_succ, Option.some.injEq] at ho; subst ho
    have d5 : L 5 = true := hdep ⟨5, .data⟩ (by simp) rfl
    have d7 : L 7 = true := hdep ⟨7, .data⟩ (by simp) rfl
    have n11 : L 11 = false := not_done hC (k := 11) (j := 8) rfl (by kernel_rfl) hL
    have e121 : sl18 (.list f) (.list g) (.list t) dy i 2 1 ow rwl L 121 = .own 1 := by simp only [sl18, d5, d7, n11, hL, cond_true, cond_false]
    have e123 : sl18 (.list f) (.list g) (.list t) dy i 2 1 ow rwl L 123 = .list [ints ow] := by simp only [sl18, d5, d7, n11, hL, cond_true, cond_false]
    show stepOp Try.prog _ ⟨224, sl18 (.list f) (.list g) (.list t) dy i 2 1 ow rwl L, bx18B c W S L, rw18 R0 ys rt ow rwl L⟩ _
    simp only [bx18B, rw18, d5, d7, n11, hL, cond_true, cond_false]
    simp -implicitDefEqProofs only [go_sem, bas, basL, Nat.reduceAdd, Nat.reduceSub, Nat.reduceMul, Nat.reduceLT, Nat.reduceLeDiff, Nat.reduceEqDiff, Nat.reduceBEq, Int.reduceLT, Int.reduceLE, Int.reduceToNat, Int.reduceAdd, Int.reduceSub, Int.reduceMul, Int.reduceNeg, Int.reduceEq, reduceCtorEq, eq_self, ne_eq, not_false_eq_true, if_true, reduceIte, e121, e123]
    refine ⟨by omega, by omega, ?_⟩
    refine ⟨(), rfl, fun m => ?_, ⟨[], ?_⟩, ⟨[], ?_⟩⟩
    · simp only [st18B, sl18, put, purgeS]
      split <;> first | (simp [d5, d7, n11, hL, purge, D.men, menL]; done) | (cases L 1 <;> simp [d5, d7, n11, hL, purge, D.men, menL]; done) | (cases L 2 <;> simp [d5, d7, n11, hL, purge, D.men, menL]; done) | (cases L 3 <;> simp [d5, d7, n11, hL, purge, D.men, menL]; done) | (cases L 4 <;> simp [d5, d7, n11, hL, purge, D.men, menL]; done) | (cases L 6 <;> simp [d5, d7, n11, hL, purge, D.men, menL]; done) | (cases L 7 <;> simp [d5, d7, n11, hL, purge, D.men, menL]; done) | (cases L 8 <;> simp [d5, d7, n11, hL, purge, D.men, menL]; done) | (cases L 10 <;> simp [d5, d7, n11, hL, purge, D.men, menL]; done) | (cases L 0 <;> cases L 3 <;> simp [d5, d7, n11, hL, purge, D.men, menL]; done) | (cases L 9 <;> cases L 3 <;> simp [d5, d7, n11, hL, purge, D.men, menL]; done) | (cases L 5 <;> cases L 8 <;> simp [d5, d7, n11, hL, purge, D.men, menL]; done)
    · first | (simp [st18B, bx18B, d5, d7, n11, hL, purgeB, purge, D.men, menL]; done) | (simp only [st18B, bx18B]; cases L 8 <;> cases L 11 <;> simp [d5, d7, n11, hL, purgeB, purge, D.men, menL])
    · simp [st18B, rw18, d5, d7, n11, hL]
  | 9, hC, ho, hL, hdep =>
    simp only [List.getElem?_cons_zero, List.getElem?_cons_succ, Option.some.injEq] at ho; subst ho
    have d3 : L 3 = true := hdep ⟨3, .data⟩ (by simp) rfl
    have e119 : sl18 (.list f) (.list g) (.list t) dy i 2 1 ow rwl L 119 = .own 2 := by simp only [sl18, d3, hL, cond_true, cond_false]
    show stepOp Try.prog _ ⟨224, sl18 (.list f) (.list g) (.list t) dy i 2 1 ow rwl L, bx18B c W S L, rw18 R0 ys rt ow rwl L⟩ _
    simp only [bx18B, rw18, d3, hL, cond_true, cond_false]
    simp -implicitDefEqProofs only [go_sem, bas, basL, Nat.reduceAdd, Nat.reduceSub, Nat.reduceMul, Nat.reduceLT, Nat.reduceLeDiff, Nat.reduceEqDiff, Nat.reduceBEq, Int.reduceLT, Int.reduceLE, Int.reduceToNat, Int.reduceAdd, Int.reduceSub, Int.reduceMul, Int.reduceNeg, Int.reduceEq, reduceCtorEq, eq_self, ne_eq, not_false_eq_true, if_true, reduceIte, e119]
    skip
    refine ⟨(), rfl, fun m => ?_, ⟨[], ?_⟩, ⟨[], ?_⟩⟩
    · simp only [st18B, sl18, put, purgeS]
      split <;> first | (simp [d3, hL, purge, D.men, menL]; done)
    · first | (simp [st18B, bx18B, d3, hL, purgeB, purge, D.men, menL]; done) | (simp only [st18B, bx18B]; cases L 8 <;> cases L 11 <;> simp [d3, hL, purgeB, purge, D.men, menL])
    · simp [st18B, rw18, d3, hL]
  | 10, hC, ho, hL, hdep =>
    simp only [List.getElem?_cons_zero, List.getElem?_cons_succ, Option.some.injEq] at ho; subst ho
    have e12 : sl18 (.list f) (.list g) (.list t) dy i 2 1 ow rwl L 12 = .box 1 0 := by simp only [sl18, hL, cond_true, cond_false]
    show stepOp Try.prog _ ⟨224, sl18 (.list f) (.list g) (.list t) dy i 2 1 ow rwl L, bx18B c W S L, rw18 R0 ys rt ow rwl L⟩ _
    simp only [bx18B, rw18, hL, cond_true, cond_false]
    simp -implicitDefEqProofs only [go_sem, bas, basL, Nat.reduceAdd, Nat.reduceSub, Nat.reduceMul, Nat.reduceLT, Nat.reduceLeDiff, Nat.reduceEqDiff, Nat.reduceBEq, Int.reduceLT, Int.reduceLE, Int.reduceToNat, Int.reduceAdd, Int.reduceSub, Int.reduceMul, Int.reduceNeg, Int.reduceEq, reduceCtorEq, eq_self, ne_eq, not_false_eq_true, if_true, reduceIte, e12]
    skip
    refine ⟨(), rfl, fun m => ?_, ⟨[], ?_⟩, ⟨[], ?_⟩⟩
    · simp only [st18B, sl18, put, purgeS]
      split <;> first | (simp [hL, purge, D.men, menL]; done)
    · first | (simp [st18B, bx18B, hL, purgeB, purge, D.men, menL]; done) | (simp only [st18B, bx18B]; cases L 8 <;> cases L 11 <;> simp [hL, purgeB, purge, D.men, menL])
    · simp [st18B, rw18, hL]
  | 11, hC, ho, hL, hdep =>
    simp only [List.getElem?_cons_zero, List.getElem?_cons_succ, Option.some.injEq] at ho; subst ho
    have d8 : L 8 = true := hdep ⟨8, .data⟩ (by simp) rfl
    have d10 : L 10 = true := hdep ⟨10, .data⟩ (by simp) rfl
    have e125 : sl18 (.list f) (.list g) (.list t) dy i 2 1 ow rwl L 125 = .box 1 2 := by simp only [sl18, d8, d10, hL, cond_true, cond_false]
    have e124 : sl18 (.list f) (.list g) (.list t) dy i 2 1 ow rwl L 124 = .own 1 := by simp only [sl18, d8, d10, hL, cond_true, cond_false]
    show stepOp Try.prog _ ⟨224, sl18 (.list f) (.list g) (.list t) dy i 2 1 ow rwl L, bx18B c W S L, rw18 R0 ys rt ow rwl L⟩ _
    simp only [bx18B, rw18, d8, d10, hL, cond_true, cond_false]
    simp -implicitDefEqProofs only [go_sem, bas, basL, Nat.reduceAdd, Nat.reduceSub, Nat.reduceMul, Nat.reduceLT, Nat.reduceLeDiff, Nat.reduceEqDiff, Nat.reduceBEq, Int.reduceLT, Int.reduceLE, Int.reduceToNat, Int.reduceAdd, Int.reduceSub, Int.reduceMul, Int.reduceNeg, Int.reduceEq, reduceCtorEq, eq_self, ne_eq, not_false_eq_true, if_true, reduceIte, e125, e124]
    skip
    refine ⟨(), rfl, fun m => ?_, ⟨[], ?_⟩, ⟨[], ?_⟩⟩
    · simp only [st18B, sl18, put, purgeS]
      split <;> first | (simp [d8, d10, hL, purge, D.men, menL]; done)
    · first | (simp [st18B, bx18B, d8, d10, hL, purgeB, purge, D.men, menL]; done) | (simp only [st18B, bx18B]; cases L 8 <;> cases L 11 <;> simp [d8, d10, hL, purgeB, purge, D.men, menL])
    · simp [st18B, rw18, d8, d10, hL]
  | j + 12, hC, ho, hL, hdep => simp at ho

section
variable (c : Int) (W : List Int) (S : List (List Int)) (F G T : D) (dy : Int)
def sl3 (fl : Bool) (L : Nat → Bool) : Nat → D := fun m => match m with
  | 1 => F
  | 2 => G
  | 3 => T
  | 4 => i64 dy
  | 5 => .box 0 0
  | 71 => bif L 0 then .agg [i64 c, ints W, intss S] else .undef
  | 72 => bif L 1 then .agg [i64 c, ints W, intss S] else .undef
  | 11 => bif L 2 then (bif fl then .box 1 0 else bif L 3 then .box 2 0 else .undef) else .undef
  | 12 => bif L 3 then (bif fl then (bif L 2 then .box 2 0 else .undef) else .box 1 0) else .undef
  | _ => .undef
def sx3 (b : Bool) : Bx := .mu (bif b then [i64 c, ints W, intss S] else [i64 0, .val (.slice none 0 0), .val (.slice none 0 0)])
def bx3 (fl : Bool) (L : Nat → Bool) : List Bx := .mu [i64 c, ints W, intss S] :: (bif fl then (bif L 2 then sx3 c W S (L 4) :: (bif L 3 then [sx3 c W S (L 5)] else []) else []) else (bif L 3 then sx3 c W S (L 5) :: (bif L 2 then [sx3 c W S (L 4)] else []) else []))
def st3 (fl : Bool) (L : Nat → Bool) : St := ⟨224, sl3 c W S F G T dy fl L, bx3 c W S fl L, []⟩
def ok3 (fl : Bool) (L : Nat → Bool) : Prop := bif fl then (L 3 = true → L 2 = true) else (L 2 = true → L 3 = true)
end

theorem st3_named (c : Int) (W : List Int) (S : List (List Int)) (f g t : List D) (dy : Int) (fl : Bool) (L : Nat → Bool) : (st3 c W S (.list f) (.list g) (.list t) dy fl L).named := by
  refine ⟨fun m => ?_, namesBx_of _ (by
      simp only [st3, bx3, sx3]
      cases fl <;> cases L 2 <;> cases L 3 <;> cases L 4 <;> cases L 5 <;> rfl)⟩
  apply names_of
  simp only [st3, sl3, bx3]
  split <;> first | rfl | (cases L 0 <;> rfl) | (cases L 1 <;> rfl) | (cases fl <;> cases L 2 <;> cases L 3 <;> rfl)
set_option maxRecDepth 100000 in
set_option maxHeartbeats 4000000 in
theorem reg3 {ops : Array Oper} (hops : ops = opsAt Try.f16 3) (w0 : World) (S0 : Addr → Prop) (M0 : MM) (c : Int) (W : List Int) (S : List (List Int)) (f g t : List D) (dy : Int)
    {Q : Exit → St → Prop} (hQ : ∀ fl L, (∀ j, j < 6 → L j = true) → Q .normal (st3 c W S (.list f) (.list g) (.list t) dy fl L)) :
    Abs ⟨Try.prog, w0, S0, M0, none, fun b => w0.heap.size ≤ b, []⟩ (.region 3 ops true) Q (st3 c W S (.list f) (.list g) (.list t) dy true (fun _ => false)) := by
  simp only [opsAt, Option.map_some, Option.getD_some, Try.f16, codeOps, Nat.reduceBEq, Bool.false_eq_true, if_false, if_true, List.nil_append, List.append_nil, List.cons_append, List.headD_cons, reduceIte, eq_self] at hops
  subst hops
  refine abs_flow (ι := Bool) Try.ty.mixed rfl (by kernel_rfl) (st3 c W S (.list f) (.list g) (.list t) dy) ok3 (fun fl L => st3_named _ _ _ _ _ _ _ fl L) (fun _ _ => Nat.zero_le _) true (by intro h; cases h) (le_refl_of _) (fun fl L j o hC hok ho hL hdep => ?_) (fun fl L _ hL => hQ fl L hL)
  have c4 : L 4 = true → L 2 = true ∧ L 3 = true := fun h => ⟨hC 4 _ rfl h ⟨2, .data⟩ (by simp) rfl, hC 4 _ rfl h ⟨3, .phase⟩ (by simp) rfl⟩
  have c5 : L 5 = true → L 2 = true ∧ L 3 = true := fun h => ⟨hC 5 _ rfl h ⟨2, .phase⟩ (by simp) rfl, hC 5 _ rfl h ⟨3, .data⟩ (by simp) rfl⟩
  match j, hC, ho, hL, hdep with
  | 0, hC, ho, hL, hdep =>
    simp only [List.getElem?_cons_zero, List.getElem?_cons_succ, Option.some.injEq] at ho; subst ho
    cases fl
    · cases h2 : L 2 <;> cases h3 : L 3 <;> cases h4 : L 4 <;> cases h5 : L 5 <;> first
        | (exfalso; simp_all [ok3]; done)
        | (have e5 : sl3 c W S (.list f) (.list g) (.list t) dy false L 5 = .box 0 0 := by simp only [sl3, h2, h3, cond_true, cond_false]
           show stepOp Try.prog _ ⟨224, sl3 c W S (.list f) (.list g) (.list t) dy false L, bx3 c W S false L, []⟩ _
           simp only [bx3, sx3, h2, h3, h4, h5, cond_true, cond_false]
           simp -implicitDefEqProofs only [go_sem, bas, basL, Nat.reduceAdd, Nat.reduceSub, Nat.reduceMul, Nat.reduceLT, Nat.reduceLeDiff, Nat.reduceEqDiff, Nat.reduceBEq, Int.reduceLT, Int.reduceLE, Int.reduceToNat, Int.reduceAdd, Int.reduceSub, Int.reduceMul, Int.reduceNeg, Int.reduceEq, reduceCtorEq, eq_self, ne_eq, not_false_eq_true, if_true, reduceIte, e5]
           refine ⟨false, by simp_all [ok3], rfl, fun m => ?_, ⟨[], ?_⟩, ⟨[], rfl⟩⟩
           · simp only [st3, sl3, put]
             split <;> simp [h2, h3, h4, h5]
           · simp [st3, bx3, sx3, h2, h3, h4, h5])
    · cases h2 : L 2 <;> cases h3 : L 3 <;> cases h4 : L 4 <;> cases h5 : L 5 <;> first
        | (exfalso; simp_all [ok3]; done)
        | (have e5 : sl3 c W S (.list f) (.list g) (.list t) dy true L 5 = .box 0 0 := by simp only [sl3, h2, h3, cond_true, cond_false]
           show stepOp Try.prog _ ⟨224, sl3 c W S (.list f) (.list g) (.list t) dy true L, bx3 c W S true L, []⟩ _
           simp only [bx3, sx3, h2, h3, h4, h5, cond_true, cond_false]
           simp -implicitDefEqProofs only [go_sem, bas, basL, Nat.reduceAdd, Nat.reduceSub, Nat.reduceMul, Nat.reduceLT, Nat.reduceLeDiff, Nat.reduceEqDiff, Nat.reduceBEq, Int.reduceLT, Int.reduceLE, Int.reduceToNat, Int.reduceAdd, Int.reduceSub, Int.reduceMul, Int.reduceNeg, Int.reduceEq, reduceCtorEq, eq_self, ne_eq, not_false_eq_true, if_true, reduceIte, e5]
           refine ⟨true, by simp_all [ok3], rfl, fun m => ?_, ⟨[], ?_⟩, ⟨[], rfl⟩⟩
           · simp only [st3, sl3, put]
             split <;> simp [h2, h3, h4, h5]
           · simp [st3, bx3, sx3, h2, h3, h4, h5])
  | 1, hC, ho, hL, hdep =>
    simp only [List.getElem?_cons_zero, List.getElem?_cons_succ, Option.some.injEq] at ho; subst ho
    cases fl
    · cases h2 : L 2 <;> cases h3 : L 3 <;> cases h4 : L 4 <;> cases h5 : L 5 <;> first
        | (exfalso; simp_all [ok3]; done)
        | (have e5 : sl3 c W S (.list f) (.list g) (.list t) dy false L 5 = .box 0 0 := by simp only [sl3, h2, h3, cond_true, cond_false]
           show stepOp Try.prog _ ⟨224, sl3 c W S (.list f) (.list g) (.list t) dy false L, bx3 c W S false L, []⟩ _
           simp only [bx3, sx3, h2, h3, h4, h5, cond_true, cond_false]
           simp -implicitDefEqProofs only [go_sem, bas, basL, Nat.reduceAdd, Nat.reduceSub, Nat.reduceMul, Nat.reduceLT, Nat.reduceLeDiff, Nat.reduceEqDiff, Nat.reduceBEq, Int.reduceLT, Int.reduceLE, Int.reduceToNat, Int.reduceAdd, Int.reduceSub, Int.reduceMul, Int.reduceNeg, Int.reduceEq, reduceCtorEq, eq_self, ne_eq, not_false_eq_true, if_true, reduceIte, e5]
           refine ⟨false, by simp_all [ok3], rfl, fun m => ?_, ⟨[], ?_⟩, ⟨[], rfl⟩⟩
           · simp only [st3, sl3, put]
             split <;> simp [h2, h3, h4, h5]
           · simp [st3, bx3, sx3, h2, h3, h4, h5])
    · cases h2 : L 2 <;> cases h3 : L 3 <;> cases h4 : L 4 <;> cases h5 : L 5 <;> first
        | (exfalso; simp_all [ok3]; done)
        | (have e5 : sl3 c W S (.list f) (.list g) (.list t) dy true L 5 = .box 0 0 := by simp only [sl3, h2, h3, cond_true, cond_false]
           show stepOp Try.prog _ ⟨224, sl3 c W S (.list f) (.list g) (.list t) dy true L, bx3 c W S true L, []⟩ _
           simp only [bx3, sx3, h2, h3, h4, h5, cond_true, cond_false]
           simp -implicitDefEqProofs only [go_sem, bas, basL, Nat.reduceAdd, Nat.reduceSub, Nat.reduceMul, Nat.reduceLT, Nat.reduceLeDiff, Nat.reduceEqDiff, Nat.reduceBEq, Int.reduceLT, Int.reduceLE, Int.reduceToNat, Int.reduceAdd, Int.reduceSub, Int.reduceMul, Int.reduceNeg, Int.reduceEq, reduceCtorEq, eq_self, ne_eq, not_false_eq_true, if_true, reduceIte, e5]
           refine ⟨true, by simp_all [ok3], rfl, fun m => ?_, ⟨[], ?_⟩, ⟨[], rfl⟩⟩
           · simp only [st3, sl3, put]
             split <;> simp [h2, h3, h4, h5]
           · simp [st3, bx3, sx3, h2, h3, h4, h5])
  | 2, hC, ho, hL, hdep =>
    simp only [List.getElem?_cons_zero, List.getElem?_cons_succ, Option.some.injEq] at ho; subst ho
    cases fl
    · cases h2 : L 2 <;> cases h3 : L 3 <;> cases h4 : L 4 <;> cases h5 : L 5 <;> first
        | (exfalso; simp_all [ok3]; done)
        | (skip
           show stepOp Try.prog _ ⟨224, sl3 c W S (.list f) (.list g) (.list t) dy false L, bx3 c W S false L, []⟩ _
           simp only [bx3, sx3, h2, h3, h4, h5, cond_true, cond_false]
           simp -implicitDefEqProofs only [go_sem, bas, basL, Nat.reduceAdd, Nat.reduceSub, Nat.reduceMul, Nat.reduceLT, Nat.reduceLeDiff, Nat.reduceEqDiff, Nat.reduceBEq, Int.reduceLT, Int.reduceLE, Int.reduceToNat, Int.reduceAdd, Int.reduceSub, Int.reduceMul, Int.reduceNeg, Int.reduceEq, reduceCtorEq, eq_self, ne_eq, not_false_eq_true, if_true, reduceIte]
           refine ⟨!(L 3), by simp_all [ok3], rfl, fun m => ?_, ⟨[], ?_⟩, ⟨[], rfl⟩⟩
           · simp only [st3, sl3, put]
             split <;> simp [h2, h3, h4, h5]
           · simp [st3, bx3, sx3, h2, h3, h4, h5])
    · cases h2 : L 2 <;> cases h3 : L 3 <;> cases h4 : L 4 <;> cases h5 : L 5 <;> first
        | (exfalso; simp_all [ok3]; done)
        | (skip
           show stepOp Try.prog _ ⟨224, sl3 c W S (.list f) (.list g) (.list t) dy true L, bx3 c W S true L, []⟩ _
           simp only [bx3, sx3, h2, h3, h4, h5, cond_true, cond_false]
           simp -implicitDefEqProofs only [go_sem, bas, basL, Nat.reduceAdd, Nat.reduceSub, Nat.reduceMul, Nat.reduceLT, Nat.reduceLeDiff, Nat.reduceEqDiff, Nat.reduceBEq, Int.reduceLT, Int.reduceLE, Int.reduceToNat, Int.reduceAdd, Int.reduceSub, Int.reduceMul, Int.reduceNeg, Int.reduceEq, reduceCtorEq, eq_self, ne_eq, not_false_eq_true, if_true, reduceIte]
           refine ⟨!(L 3), by simp_all [ok3], rfl, fun m => ?_, ⟨[], ?_⟩, ⟨[], rfl⟩⟩
           · simp only [st3, sl3, put]
             split <;> simp [h2, h3, h4, h5]
           · simp [st3, bx3, sx3, h2, h3, h4, h5])
  | 3, hC, ho, hL, hdep =>
    simp only [List.getElem?_cons_zero, List.getElem?_cons_succ, Option.some.injEq] at ho; subst ho
    cases fl
    · cases h2 : L 2 <;> cases h3 : L 3 <;> cases h4 : L 4 <;> cases h5 : L 5 <;> first
        | (exfalso; simp_all [ok3]; done)
        | (skip
           show stepOp Try.prog _ ⟨224, sl3 c W S (.list f) (.list g) (.list t) dy false L, bx3 c W S false L, []⟩ _
           simp only [bx3, sx3, h2, h3, h4, h5, cond_true, cond_false]
           simp -implicitDefEqProofs only [go_sem, bas, basL, Nat.reduceAdd, Nat.reduceSub, Nat.reduceMul, Nat.reduceLT, Nat.reduceLeDiff, Nat.reduceEqDiff, Nat.reduceBEq, Int.reduceLT, Int.reduceLE, Int.reduceToNat, Int.reduceAdd, Int.reduceSub, Int.reduceMul, Int.reduceNeg, Int.reduceEq, reduceCtorEq, eq_self, ne_eq, not_false_eq_true, if_true, reduceIte]
           refine ⟨L 2, by simp_all [ok3], rfl, fun m => ?_, ⟨[], ?_⟩, ⟨[], rfl⟩⟩
           · simp only [st3, sl3, put]
             split <;> simp [h2, h3, h4, h5]
           · simp [st3, bx3, sx3, h2, h3, h4, h5])
    · cases h2 : L 2 <;> cases h3 : L 3 <;> cases h4 : L 4 <;> cases h5 : L 5 <;> first
        | (exfalso; simp_all [ok3]; done)
        | (skip
           show stepOp Try.prog _ ⟨224, sl3 c W S (.list f) (.list g) (.list t) dy true L, bx3 c W S true L, []⟩ _
           simp only [bx3, sx3, h2, h3, h4, h5, cond_true, cond_false]
           simp -implicitDefEqProofs only [go_sem, bas, basL, Nat.reduceAdd, Nat.reduceSub, Nat.reduceMul, Nat.reduceLT, Nat.reduceLeDiff, Nat.reduceEqDiff, Nat.reduceBEq, Int.reduceLT, Int.reduceLE, Int.reduceToNat, Int.reduceAdd, Int.reduceSub, Int.reduceMul, Int.reduceNeg, Int.reduceEq, reduceCtorEq, eq_self, ne_eq, not_false_eq_true, if_true, reduceIte]
           refine ⟨L 2, by simp_all [ok3], rfl, fun m => ?_, ⟨[], ?_⟩, ⟨[], rfl⟩⟩
           · simp only [st3, sl3, put]
             split <;> simp [h2, h3, h4, h5]
           · simp [st3, bx3, sx3, h2, h3, h4, h5])
  | 4, hC, ho, hL, hdep =>
    simp only [List.getElem?_cons_zero, List.getElem?_cons_succ, Option.some.injEq] at ho; subst ho
    have d0 : L 0 = true := hdep ⟨0, .data⟩ (by simp) rfl
    have d2 : L 2 = true := hdep ⟨2, .data⟩ (by simp) rfl
    have d3 : L 3 = true := hdep ⟨3, .phase⟩ (by simp) rfl
    cases fl
    · cases h2 : L 2 <;> cases h3 : L 3 <;> cases h4 : L 4 <;> cases h5 : L 5 <;> first
        | (exfalso; simp_all [ok3]; done)
        | (have e71 : sl3 c W S (.list f) (.list g) (.list t) dy false L 71 = .agg [i64 c, ints W, intss S] := by simp only [sl3, d0, d2, d3, h2, h3, cond_true, cond_false]
           have e11 : sl3 c W S (.list f) (.list g) (.list t) dy false L 11 = .box 2 0 := by simp only [sl3, d0, d2, d3, h2, h3, cond_true, cond_false]
           show stepOp Try.prog _ ⟨224, sl3 c W S (.list f) (.list g) (.list t) dy false L, bx3 c W S false L, []⟩ _
           simp only [bx3, sx3, h2, h3, h4, h5, cond_true, cond_false]
           simp -implicitDefEqProofs only [go_sem, bas, basL, Nat.reduceAdd, Nat.reduceSub, Nat.reduceMul, Nat.reduceLT, Nat.reduceLeDiff, Nat.reduceEqDiff, Nat.reduceBEq, Int.reduceLT, Int.reduceLE, Int.reduceToNat, Int.reduceAdd, Int.reduceSub, Int.reduceMul, Int.reduceNeg, Int.reduceEq, reduceCtorEq, eq_self, ne_eq, not_false_eq_true, if_true, reduceIte, e71, e11]
           refine ⟨false, by simp_all [ok3], rfl, fun m => ?_, ⟨[], ?_⟩, ⟨[], rfl⟩⟩
           · simp only [st3, sl3, put]
             split <;> simp [h2, h3, h4, h5]
           · simp [st3, bx3, sx3, h2, h3, h4, h5])
    · cases h2 : L 2 <;> cases h3 : L 3 <;> cases h4 : L 4 <;> cases h5 : L 5 <;> first
        | (exfalso; simp_all [ok3]; done)
        | (have e71 : sl3 c W S (.list f) (.list g) (.list t) dy true L 71 = .agg [i64 c, ints W, intss S] := by simp only [sl3, d0, d2, d3, h2, h3, cond_true, cond_false]
           have e11 : sl3 c W S (.list f) (.list g) (.list t) dy true L 11 = .box 1 0 := by simp only [sl3, d0, d2, d3, h2, h3, cond_true, cond_false]
           show stepOp Try.prog _ ⟨224, sl3 c W S (.list f) (.list g) (.list t) dy true L, bx3 c W S true L, []⟩ _
           simp only [bx3, sx3, h2, h3, h4, h5, cond_true, cond_false]
           simp -implicitDefEqProofs only [go_sem, bas, basL, Nat.reduceAdd, Nat.reduceSub, Nat.reduceMul, Nat.reduceLT, Nat.reduceLeDiff, Nat.reduceEqDiff, Nat.reduceBEq, Int.reduceLT, Int.reduceLE, Int.reduceToNat, Int.reduceAdd, Int.reduceSub, Int.reduceMul, Int.reduceNeg, Int.reduceEq, reduceCtorEq, eq_self, ne_eq, not_false_eq_true, if_true, reduceIte, e71, e11]
           refine ⟨true, by simp_all [ok3], rfl, fun m => ?_, ⟨[], ?_⟩, ⟨[], rfl⟩⟩
           · simp only [st3, sl3, put]
             split <;> simp [h2, h3, h4, h5]
           · simp [st3, bx3, sx3, h2, h3, h4, h5])
  | 5, hC, ho, hL, hdep =>
    simp only [List.getElem?_cons_zero, List.getElem?_cons_succ, Option.some.injEq] at ho; subst ho
    have d1 : L 1 = true := hdep ⟨1, .data⟩ (by simp) rfl
    have d2 : L 2 = true := hdep ⟨2, .phase⟩ (by simp) rfl
    have d3 : L 3 = true := hdep ⟨3, .data⟩ (by simp) rfl
    have d4 : L 4 = true := hdep ⟨4, .chain⟩ (by simp) rfl
    cases fl
    · cases h2 : L 2 <;> cases h3 : L 3 <;> cases h4 : L 4 <;> cases h5 : L 5 <;> first
        | (exfalso; simp_all [ok3]; done)
        | (have e72 : sl3 c W S (.list f) (.list g) (.list t) dy false L 72 = .agg [i64 c, ints W, intss S] := by simp only [sl3, d1, d2, d3, d4, h2, h3, cond_true, cond_false]
           have e12 : sl3 c W S (.list f) (.list g) (.list t) dy false L 12 = .box 1 0 := by simp only [sl3, d1, d2, d3, d4, h2, h3, cond_true, cond_false]
           show stepOp Try.prog _ ⟨224, sl3 c W S (.list f) (.list g) (.list t) dy false L, bx3 c W S false L, []⟩ _
           simp only [bx3, sx3, h2, h3, h4, h5, cond_true, cond_false]
           simp -implicitDefEqProofs only [go_sem, bas, basL, Nat.reduceAdd, Nat.reduceSub, Nat.reduceMul, Nat.reduceLT, Nat.reduceLeDiff, Nat.reduceEqDiff, Nat.reduceBEq, Int.reduceLT, Int.reduceLE, Int.reduceToNat, Int.reduceAdd, Int.reduceSub, Int.reduceMul, Int.reduceNeg, Int.reduceEq, reduceCtorEq, eq_self, ne_eq, not_false_eq_true, if_true, reduceIte, e72, e12]
           refine ⟨false, by simp_all [ok3], rfl, fun m => ?_, ⟨[], ?_⟩, ⟨[], rfl⟩⟩
           · simp only [st3, sl3, put]
             split <;> simp [h2, h3, h4, h5]
           · simp [st3, bx3, sx3, h2, h3, h4, h5])
    · cases h2 : L 2 <;> cases h3 : L 3 <;> cases h4 : L 4 <;> cases h5 : L 5 <;> first
        | (exfalso; simp_all [ok3]; done)
        | (have e72 : sl3 c W S (.list f) (.list g) (.list t) dy true L 72 = .agg [i64 c, ints W, intss S] := by simp only [sl3, d1, d2, d3, d4, h2, h3, cond_true, cond_false]
           have e12 : sl3 c W S (.list f) (.list g) (.list t) dy true L 12 = .box 2 0 := by simp only [sl3, d1, d2, d3, d4, h2, h3, cond_true, cond_false]
           show stepOp Try.prog _ ⟨224, sl3 c W S (.list f) (.list g) (.list t) dy true L, bx3 c W S true L, []⟩ _
           simp only [bx3, sx3, h2, h3, h4, h5, cond_true, cond_false]
           simp -implicitDefEqProofs only [go_sem, bas, basL, Nat.reduceAdd, Nat.reduceSub, Nat.reduceMul, Nat.reduceLT, Nat.reduceLeDiff, Nat.reduceEqDiff, Nat.reduceBEq, Int.reduceLT, Int.reduceLE, Int.reduceToNat, Int.reduceAdd, Int.reduceSub, Int.reduceMul, Int.reduceNeg, Int.reduceEq, reduceCtorEq, eq_self, ne_eq, not_false_eq_true, if_true, reduceIte, e72, e12]
           refine ⟨true, by simp_all [ok3], rfl, fun m => ?_, ⟨[], ?_⟩, ⟨[], rfl⟩⟩
           · simp only [st3, sl3, put]
             split <;> simp [h2, h3, h4, h5]
           · simp [st3, bx3, sx3, h2, h3, h4, h5])
  | j + 6, hC, ho, hL, hdep => simp at ho
theorem r3_use {ops : Array Oper} {w0 : World} {S0 : Addr → Prop} {M0 : MM} {c : Int} {W : List Int} {S : List (List Int)} {f g : List (List (List Int))} {t : List (List Int)} {dy : Int} {rest : Code} {Q Q' : Exit → St → Prop} {s : St} (hops : ops = opsAt Try.f16 3)
    (hle : Le s ⟨224, slots [(1, intsss f), (2, intsss g), (3, intss t), (4, i64 dy), (5, .box 0 0)], [.mu [i64 c, ints W, intss S]], []⟩)
    (hB : Abs ⟨Try.prog, w0, S0, M0, none, fun b => w0.heap.size ≤ b, []⟩ rest Q ⟨224, slots [(1, intsss f), (2, intsss g), (3, intss t), (4, i64 dy), (5, .box 0 0), (11, .box 2 0), (12, .box 1 0)], [.mu [i64 c, ints W, intss S], .mu [i64 c, ints W, intss S], .mu [i64 c, ints W, intss S]], []⟩)
    (hA : Abs ⟨Try.prog, w0, S0, M0, none, fun b => w0.heap.size ≤ b, []⟩ rest Q ⟨224, slots [(1, intsss f), (2, intsss g), (3, intss t), (4, i64 dy), (5, .box 0 0), (11, .box 1 0), (12, .box 2 0)], [.mu [i64 c, ints W, intss S], .mu [i64 c, ints W, intss S], .mu [i64 c, ints W, intss S]], []⟩) :
    Abs ⟨Try.prog, w0, S0, M0, none, fun b => w0.heap.size ≤ b, []⟩ (.region 3 ops true) (thenQ (Abs ⟨Try.prog, w0, S0, M0, none, fun b => w0.heap.size ≤ b, []⟩ rest Q) Q') s := by
  refine abs_le (st3 c W S (intsss f) (intsss g) (intss t) dy true (fun _ => false)) ⟨hle.n, fun m => ?_, ?_, hle.rw⟩ (st3_named _ _ _ _ _ _ _ _ _) (Nat.zero_le _) (reg3 hops w0 S0 M0 c W S (f.map intss) (g.map intss) (t.map ints) dy (fun fl L hL => ?_))
  · have h := hle.sl m
    simp only [slots_cons, slots_nil, put] at h
    simp only [st3, sl3, cond_false]
    split <;> first | (left; rfl) | (rcases h with h | h <;> first | (cases h; done) | (right; exact h))
  · obtain ⟨tl, h⟩ := hle.bx
    exact ⟨tl, by rw [h]; simp [st3, bx3]⟩
  have y0 := hL 0 (by decide); have y1 := hL 1 (by decide); have y2 := hL 2 (by decide); have y3 := hL 3 (by decide); have y4 := hL 4 (by decide); have y5 := hL 5 (by decide)
  show thenQ _ _ _ _
  simp only [thenQ]
  cases fl
  · refine abs_le _ ?_ (named_of rfl rfl) (Nat.zero_le _) hB
    exact le_slots rfl (by simp [st3, sl3, y2, y3]) ⟨[], by simp [st3, bx3, sx3, y2, y3, y4, y5]⟩ ⟨[], rfl⟩
  · refine abs_le _ ?_ (named_of rfl rfl) (Nat.zero_le _) hA
    exact le_slots rfl (by simp [st3, sl3, y2, y3]) ⟨[], by simp [st3, bx3, sx3, y2, y3, y4, y5]⟩ ⟨[], rfl⟩

theorem r18A_use {ops : Array Oper} {w0 : World} {S0 : Addr → Prop} {M0 : MM} {c : Int} {W : List Int} {S : List (List Int)} {f g : List (List (List Int))} {t : List (List Int)} {dy i : Int} {R0 : Row} {ys rt : List D} {ow : List Int} {rwl : List (List Int)} {rest : Code} {Q Q' : Exit → St → Prop} {s : St} (hops : ops = opsAt Try.f16 18)
    (hle : Le s ⟨224, slots [(1, intsss f), (2, intsss g), (3, intss t), (4, i64 dy), (5, .box 0 0), (11, .box 1 0), (12, .box 2 0), (13, .own 2), (14, i64 i), (15, .own 3), (16, .own 4)], [.mu [i64 c, ints W, intss S], .mu [i64 c, ints W, .own 0], .mu [i64 c, ints W, .own 1]], [R0, ⟨true, 22, 1, ys⟩, ⟨true, 40, 1, rt⟩, ⟨true, 3, 1, ow.map (D.int .i64)⟩, ⟨true, 22, 1, rwl.map ints⟩]⟩) (hy : ys.length ≤ 1000000) (hr : rt.length ≤ 1000000)
    (hA : Abs ⟨Try.prog, w0, S0, M0, none, fun b => w0.heap.size ≤ b, []⟩ rest Q ⟨224, slots [(1, intsss f), (2, intsss g), (3, intss t), (4, i64 dy), (5, .box 0 0), (11, .box 1 0), (12, .box 2 0), (13, .own 2), (14, i64 i), (15, .own 3)], [.mu [i64 c, ints W, intss S], .mu [i64 c, ints W, .own 0], .mu [i64 c, ints W, .own 1]], [R0, ⟨true, 22, 1, ys ++ [ints ow]⟩, ⟨true, 40, 1, rt ++ [intss rwl]⟩, ⟨true, 3, 1, ow.map (D.int .i64)⟩]⟩) :
    Abs ⟨Try.prog, w0, S0, M0, none, fun b => w0.heap.size ≤ b, []⟩ (.region 18 ops true) (thenQ (Abs ⟨Try.prog, w0, S0, M0, none, fun b => w0.heap.size ≤ b, []⟩ rest Q) Q') s := by
  refine abs_le (st18A c W S (intsss f) (intsss g) (intss t) dy i R0 ys rt ow rwl (fun _ => false)) ⟨hle.n, fun m => ?_, ?_, ?_⟩ (st18A_named _ _ _ _ _ _ _ _ _ _ _ _ _ _) (Nat.zero_le _) (reg18A hops w0 S0 M0 c W S (f.map intss) (g.map intss) (t.map ints) dy i R0 ys rt ow rwl hy hr (fun L hL => ?_))
  · have h := hle.sl m
    simp only [slots_cons, slots_nil, put] at h
    simp only [st18A, sl18, cond_false]
    split <;> first | (left; rfl) | (rcases h with h | h <;> first | (cases h; done) | (right; exact h))
  · obtain ⟨tl, h⟩ := hle.bx
    exact ⟨tl, by rw [h]; simp [st18A, bx18A]⟩
  · obtain ⟨tl, h⟩ := hle.rw
    exact ⟨tl, by rw [h]; simp [st18A, rw18]⟩
  have y3 := hL 3 (by decide); have y8 := hL 8 (by decide); have y9 := hL 9 (by decide); have y11 := hL 11 (by decide)
  show thenQ _ _ _ _
  simp only [thenQ]
  refine abs_le _ ?_ (named_of rfl rfl) (Nat.zero_le _) hA
  exact le_slots rfl (by simp [st18A, sl18, y9]) ⟨[], by simp [st18A, bx18A, y8, y11]⟩ ⟨[⟨true, 22, 1, rwl.map ints⟩], by simp [st18A, rw18, y3, y8]⟩

theorem r18B_use {ops : Array Oper} {w0 : World} {S0 : Addr → Prop} {M0 : MM} {c : Int} {W : List Int} {S : List (List Int)} {f g : List (List (List Int))} {t : List (List Int)} {dy i : Int} {R0 : Row} {ys rt : List D} {ow : List Int} {rwl : List (List Int)} {rest : Code} {Q Q' : Exit → St → Prop} {s : St} (hops : ops = opsAt Try.f16 18)
    (hle : Le s ⟨224, slots [(1, intsss f), (2, intsss g), (3, intss t), (4, i64 dy), (5, .box 0 0), (11, .box 2 0), (12, .box 1 0), (13, .own 2), (14, i64 i), (15, .own 3), (16, .own 4)], [.mu [i64 c, ints W, intss S], .mu [i64 c, ints W, .own 1], .mu [i64 c, ints W, .own 0]], [R0, ⟨true, 22, 1, ys⟩, ⟨true, 40, 1, rt⟩, ⟨true, 3, 1, ow.map (D.int .i64)⟩, ⟨true, 22, 1, rwl.map ints⟩]⟩) (hy : ys.length ≤ 1000000) (hr : rt.length ≤ 1000000)
    (hA : Abs ⟨Try.prog, w0, S0, M0, none, fun b => w0.heap.size ≤ b, []⟩ rest Q ⟨224, slots [(1, intsss f), (2, intsss g), (3, intss t), (4, i64 dy), (5, .box 0 0), (11, .box 2 0), (12, .box 1 0), (13, .own 2), (14, i64 i), (15, .own 3)], [.mu [i64 c, ints W, intss S], .mu [i64 c, ints W, .own 1], .mu [i64 c, ints W, .own 0]], [R0, ⟨true, 22, 1, ys ++ [ints ow]⟩, ⟨true, 40, 1, rt ++ [intss rwl]⟩, ⟨true, 3, 1, ow.map (D.int .i64)⟩]⟩) :
    Abs ⟨Try.prog, w0, S0, M0, none, fun b => w0.heap.size ≤ b, []⟩ (.region 18 ops true) (thenQ (Abs ⟨Try.prog, w0, S0, M0, none, fun b => w0.heap.size ≤ b, []⟩ rest Q) Q') s := by
  refine abs_le (st18B c W S (intsss f) (intsss g) (intss t) dy i R0 ys rt ow rwl (fun _ => false)) ⟨hle.n, fun m => ?_, ?_, ?_⟩ (st18B_named _ _ _ _ _ _ _ _ _ _ _ _ _ _) (Nat.zero_le _) (reg18B hops w0 S0 M0 c W S (f.map intss) (g.map intss) (t.map ints) dy i R0 ys rt ow rwl hy hr (fun L hL => ?_))
  · have h := hle.sl m
    simp only [slots_cons, slots_nil, put] at h
    simp only [st18B, sl18, cond_false]
    split <;> first | (left; rfl) | (rcases h with h | h <;> first | (cases h; done) | (right; exact h))
  · obtain ⟨tl, h⟩ := hle.bx
    exact ⟨tl, by rw [h]; simp [st18B, bx18B]⟩
  · obtain ⟨tl, h⟩ := hle.rw
    exact ⟨tl, by rw [h]; simp [st18B, rw18]⟩
  have y3 := hL 3 (by decide); have y8 := hL 8 (by decide); have y9 := hL 9 (by decide); have y11 := hL 11 (by decide)
  show thenQ _ _ _ _
  simp only [thenQ]
  refine abs_le _ ?_ (named_of rfl rfl) (Nat.zero_le _) hA
  exact le_slots rfl (by simp [st18B, sl18, y9]) ⟨[], by simp [st18B, bx18B, y8, y11]⟩ ⟨[⟨true, 22, 1, rwl.map ints⟩], by simp [st18B, rw18, y3, y8]⟩
end Go.Proofs.Ythamljpomhjepaa
