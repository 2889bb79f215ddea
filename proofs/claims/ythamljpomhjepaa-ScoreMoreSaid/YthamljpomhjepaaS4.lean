import Derived.Test.YthamljpomhjepaaS3
set_option linter.unusedVariables false
set_option linter.unusedSimpArgs false
namespace Go.Proofs.Ythamljpomhjepaa
open Go.Ab
attribute [local irreducible] Abs CallK CallR CallsTo GA
set_option linter.unusedSimpArgs false

def sl6 (l : Nat) (v v' : Value) (xs : List Int) (left cl step : Int) (F : Value) (n : Int) (L : Nat → Bool) (b : Bool) : Nat → D := fun m => match m with
  | 0 => .val v
  | 1 => i64 left
  | 2 => .ro [i64 cl]
  | 3 => .ro [.val (.func (.yield l) #[] #[])]
  | 4 => .ro [i64 step]
  | 5 => .ro [.val F]
  | 9 => i64 n
  | 28 => bif L 0 then .val F else .undef
  | 29 => bif L 1 then .val v else .undef
  | 30 => bif L 2 then i64 n else .undef
  | 31 => bif L 3 then .list [i64 n] else .undef
  | 32 => bif L 4 then .val v' else .undef
  | 33 => bif L 5 then i64 left else .undef
  | 34 => bif L 6 then i64 n else .undef
  | 35 => bif L 7 then i64 (left - n) else .undef
  | 36 => bif L 8 then .bool b else .undef
  | 37 => bif L 8 && L 9 then .bool (!b) else .undef
  | _ => .undef
def st6 (l : Nat) (v v' : Value) (xs : List Int) (left cl step : Int) (F : Value) (n : Int) (L : Nat → Bool) (b : Bool) : St := ⟨38, sl6 l v v' xs left cl step F n L b, [], []⟩

theorem st6_named (l : Nat) (v v' : Value) (xs : List Int) (left cl step : Int) (F : Value) (n : Int) (L : Nat → Bool) (b : Bool) : (st6 l v v' xs left cl step F n L b).named := by
  refine ⟨fun m => ?_, fun i cs h => by simp [st6] at h⟩
  apply names_of
  simp only [st6, sl6]
  split <;> first | rfl | (cases L 0 <;> rfl) | (cases L 1 <;> rfl) | (cases L 2 <;> rfl) | (cases L 3 <;> rfl) | (cases L 4 <;> rfl) | (cases L 5 <;> rfl) | (cases L 6 <;> rfl) | (cases L 7 <;> rfl) | (cases L 8 <;> rfl) | (cases L 8 <;> cases L 9 <;> rfl)

set_option maxRecDepth 100000 in
set_option maxHeartbeats 4000000 in
theorem node_reg {ops : Array Oper} (hops : ops = opsAt Try.f103 6) (l : Nat) (xss : List (List D)) (J Jx : Nat → Inv) (cl step left : Int) (lb : List Value) (T0 : Nat → Prop) (S0 : Addr → Prop) (M0 : MM) (w0 : World) (v : Value) (ys : List Int) (k base cnt : Nat) (n : Int) (out : List (List D))
    (hE : SEnv.Ok ⟨⟨Try.prog, l, xss, J, Jx⟩, T0, S0, M0, w0, 3, v, ys⟩) (hyl : ys.length ≤ 2) (hl : 0 ≤ left ∧ left ≤ 100) (hn : 0 ≤ n ∧ n ≤ left) (hlb : lb.length = 4) (hcnt : out.length = cnt)
    (hS : SearchC ⟨Try.prog, l, xss, J, Jx⟩ 103 3 lb [.ro [i64 cl], .ro [.val (.func (.yield l) #[] #[])], .ro [i64 step], .ro [.val (.func (.func 103) #[] ⟨lb⟩)]] (ys ++ [n]) (left - n) out)
    (hrel : ∀ (q : Nat) (x : D), [D.ro [i64 cl], .ro [.val (.func (.yield l) #[] #[])], .ro [i64 step], .ro [.val (.func (.func 103) #[] ⟨lb⟩)]][q]? = some x → Rel w0 ⟨S0, [], [], M0⟩ (lb.getD q Go.undef) x)
    (hout : ∀ q, q < out.length → xss[k + base + q]? = out[q]?) (Q : Exit → Ix → St → Prop)
    (hQ : ∀ (b : Bool) k' v', (b = true → k' = k + base + cnt) → Q .normal (b, k') (st6 l v v' ys left cl step (.func (.func 103) #[] ⟨lb⟩) n (fun j => decide (j < 10)) b)) :
    GA Try.prog (RS ⟨⟨Try.prog, l, xss, J, Jx⟩, T0, S0, M0, w0, 3, v, ys⟩ none) (Code.region 6 ops true) Q (true, k + base) (st6 l v v ys left cl step (.func (.func 103) #[] ⟨lb⟩) n (fun _ => false) true) := by
  simp only [opsAt, Option.map_some, Option.getD_some, Try.f103, codeOps, Nat.reduceBEq, Bool.false_eq_true, if_false, if_true, List.nil_append, List.append_nil, List.cons_append, List.headD_cons, reduceIte, eq_self] at hops
  subst hops
  generalize hF : (Value.func (.func 103) #[] ⟨lb⟩) = F at *
  refine ga_intro fun a w hr => ?_
  refine wpIn_region_flowB Try.ty.mixed (by kernel_rfl) (fun L a w => (L 4 = false → L 8 = false) ∧ (L 8 = false → L 9 = false) ∧ ∃ (b : Bool) (k' : Nat) (v' : Value), (L 8 = false → b = true ∧ k' = k + base) ∧ (L 8 = true → b = true → k' = k + base + cnt) ∧ RS ⟨⟨Try.prog, l, xss, J, Jx⟩, T0, S0, M0, w0, 3, v, ys⟩ (bif L 4 && !L 8 then some (v', ys ++ [n]) else none) (b, k') (st6 l v v' ys left cl step F n L b) a w)
    ⟨fun _ => rfl, fun _ => rfl, true, k + base, v, fun _ => ⟨rfl, rfl⟩, fun h _ => (by cases h), ga_tick (rs_ok hE) hr⟩ (fun L i o ho hL hdep a w hI => ?_) (fun L a w hL hI => ?_)
  · match i, ho, hL, hdep with
  | 0, ho, hL, hdep =>
    simp only [List.getElem?_toArray, List.getElem?_cons_zero, List.getElem?_cons_succ, Option.some.injEq] at ho; subst ho
    obtain ⟨hc, hc9, b, k', v', hb, hk, hI⟩ := hI
    have e5 : sl6 l v v' ys left cl step F n L b 5 = .ro [.val F] := by simp only [sl6]
    refine ga_step (rs_ok hE) hI (K := fun s' => Le s' (st6 l v v' ys left cl step F n (fun j => decide (j = 0) || L j) b)) (by
      show stepOp Try.prog _ ⟨38, sl6 l v v' ys left cl step F n L b, [], []⟩ _
      simp only [go_sem, bas, basL, Nat.reduceAdd, Nat.reduceSub, Nat.reduceMul, Nat.reduceLT, Nat.reduceLeDiff, Nat.reduceEqDiff, Nat.reduceBEq, Int.reduceLT, Int.reduceLE, Int.reduceToNat, Int.reduceAdd, Int.reduceSub, Int.reduceMul, Int.reduceNeg, Int.reduceEq, reduceCtorEq, eq_self, ne_eq, not_false_eq_true, if_true, reduceIte, e5]
      skip
      refine ⟨rfl, fun m => ?_, ⟨[], rfl⟩, ⟨[], rfl⟩⟩
      simp only [st6, sl6, put, St.put]
      split <;> simp) fun s' a' w' hr' hle => ⟨by simpa using hc, by simpa using hc9, b, k', v', by simpa using hb, by simpa using hk, by simpa using (rs_ok hE).le hr' hle (st6_named _ _ _ _ _ _ _ _ _ _ _)⟩
  | 1, ho, hL, hdep =>
    simp only [List.getElem?_toArray, List.getElem?_cons_zero, List.getElem?_cons_succ, Option.some.injEq] at ho; subst ho
    obtain ⟨hc, hc9, b, k', v', hb, hk, hI⟩ := hI
    have e0 : sl6 l v v' ys left cl step F n L b 0 = .val v := by simp only [sl6]
    refine ga_step (rs_ok hE) hI (K := fun s' => Le s' (st6 l v v' ys left cl step F n (fun j => decide (j = 1) || L j) b)) (by
      show stepOp Try.prog _ ⟨38, sl6 l v v' ys left cl step F n L b, [], []⟩ _
      simp only [go_sem, bas, basL, Nat.reduceAdd, Nat.reduceSub, Nat.reduceMul, Nat.reduceLT, Nat.reduceLeDiff, Nat.reduceEqDiff, Nat.reduceBEq, Int.reduceLT, Int.reduceLE, Int.reduceToNat, Int.reduceAdd, Int.reduceSub, Int.reduceMul, Int.reduceNeg, Int.reduceEq, reduceCtorEq, eq_self, ne_eq, not_false_eq_true, if_true, reduceIte, e0]
      skip
      refine ⟨rfl, fun m => ?_, ⟨[], rfl⟩, ⟨[], rfl⟩⟩
      simp only [st6, sl6, put, St.put]
      split <;> simp) fun s' a' w' hr' hle => ⟨by simpa using hc, by simpa using hc9, b, k', v', by simpa using hb, by simpa using hk, by simpa using (rs_ok hE).le hr' hle (st6_named _ _ _ _ _ _ _ _ _ _ _)⟩
  | 2, ho, hL, hdep =>
    simp only [List.getElem?_toArray, List.getElem?_cons_zero, List.getElem?_cons_succ, Option.some.injEq] at ho; subst ho
    obtain ⟨hc, hc9, b, k', v', hb, hk, hI⟩ := hI
    have e9 : sl6 l v v' ys left cl step F n L b 9 = i64 n := by simp only [sl6]
    refine ga_step (rs_ok hE) hI (K := fun s' => Le s' (st6 l v v' ys left cl step F n (fun j => decide (j = 2) || L j) b)) (by
      show stepOp Try.prog _ ⟨38, sl6 l v v' ys left cl step F n L b, [], []⟩ _
      simp only [go_sem, bas, basL, Nat.reduceAdd, Nat.reduceSub, Nat.reduceMul, Nat.reduceLT, Nat.reduceLeDiff, Nat.reduceEqDiff, Nat.reduceBEq, Int.reduceLT, Int.reduceLE, Int.reduceToNat, Int.reduceAdd, Int.reduceSub, Int.reduceMul, Int.reduceNeg, Int.reduceEq, reduceCtorEq, eq_self, ne_eq, not_false_eq_true, if_true, reduceIte, e9]
      skip
      refine ⟨rfl, fun m => ?_, ⟨[], rfl⟩, ⟨[], rfl⟩⟩
      simp only [st6, sl6, put, St.put]
      split <;> simp) fun s' a' w' hr' hle => ⟨by simpa using hc, by simpa using hc9, b, k', v', by simpa using hb, by simpa using hk, by simpa using (rs_ok hE).le hr' hle (st6_named _ _ _ _ _ _ _ _ _ _ _)⟩
  | 3, ho, hL, hdep =>
    simp only [List.getElem?_toArray, List.getElem?_cons_zero, List.getElem?_cons_succ, Option.some.injEq] at ho; subst ho
    obtain ⟨hc, hc9, b, k', v', hb, hk, hI⟩ := hI
    have d2 : L 2 = true := hdep ⟨2, .data⟩ (by simp) rfl
    have e30 : sl6 l v v' ys left cl step F n L b 30 = i64 n := by simp only [sl6, d2, cond_true]
    refine ga_step (rs_ok hE) hI (K := fun s' => Le s' (st6 l v v' ys left cl step F n (fun j => decide (j = 3) || L j) b)) (by
      show stepOp Try.prog _ ⟨38, sl6 l v v' ys left cl step F n L b, [], []⟩ _
      simp only [go_sem, bas, basL, Nat.reduceAdd, Nat.reduceSub, Nat.reduceMul, Nat.reduceLT, Nat.reduceLeDiff, Nat.reduceEqDiff, Nat.reduceBEq, Int.reduceLT, Int.reduceLE, Int.reduceToNat, Int.reduceAdd, Int.reduceSub, Int.reduceMul, Int.reduceNeg, Int.reduceEq, reduceCtorEq, eq_self, ne_eq, not_false_eq_true, if_true, reduceIte, e30]
      skip
      refine ⟨rfl, fun m => ?_, ⟨[], rfl⟩, ⟨[], rfl⟩⟩
      simp only [st6, sl6, put, St.put]
      split <;> simp [d2]) fun s' a' w' hr' hle => ⟨by simpa using hc, by simpa using hc9, b, k', v', by simpa using hb, by simpa using hk, by simpa using (rs_ok hE).le hr' hle (st6_named _ _ _ _ _ _ _ _ _ _ _)⟩
  | 4, ho, hL, hdep =>
    simp only [List.getElem?_toArray, List.getElem?_cons_zero, List.getElem?_cons_succ, Option.some.injEq] at ho; subst ho
    obtain ⟨hc, hc9, b, k', v', hb, hk, hI⟩ := hI
    have d1 : L 1 = true := hdep ⟨1, .data⟩ (by simp) rfl
    have d3 : L 3 = true := hdep ⟨3, .data⟩ (by simp) rfl
    have h4 : L 4 = false := hL
    have h8 : L 8 = false := hc h4
    have e29 : sl6 l v v' ys left cl step F n L b 29 = .val v := by simp only [sl6, d1, cond_true]
    have e31 : sl6 l v v' ys left cl step F n L b 31 = .list [i64 n] := by simp only [sl6, d3, cond_true]
    have hI2 : RS ⟨⟨Try.prog, l, xss, J, Jx⟩, T0, S0, M0, w0, 3, v, ys⟩ none (b, k') (st6 l v v' ys left cl step F n L b) a w := by simpa [h4] using hI
    refine rs_append hE (n := n) rfl hI2 e29 e31 Try.ty.el22 Try.ty.sz3 (by show (zeroD Try.prog 3).isSome = true; rw [Try.ty.ze3]; rfl) (by show ys.length + 1 ≤ _; omega) (by show (ys.length + 1) * bytesOf Try.prog 3 ≤ _; rw [Try.ty.by3]; omega) (by show (_ : Nat) < 38; decide)
      fun v2 a' w' hr' => ⟨by simp, by simpa using hc9, b, k', v2, by simpa using hb, by simpa using hk, ?_⟩
    have := (rs_ok hE).le hr' (s' := st6 l v v2 ys left cl step F n (fun j => decide (j = 4) || L j) b) (by
      refine ⟨rfl, fun m => ?_, ⟨[], rfl⟩, ⟨[], rfl⟩⟩
      simp only [st6, sl6, put, St.put]
      split <;> simp [h4]) (st6_named _ _ _ _ _ _ _ _ _ _ _)
    simpa [h8] using this
  | 5, ho, hL, hdep =>
    simp only [List.getElem?_toArray, List.getElem?_cons_zero, List.getElem?_cons_succ, Option.some.injEq] at ho; subst ho
    obtain ⟨hc, hc9, b, k', v', hb, hk, hI⟩ := hI
    have e1 : sl6 l v v' ys left cl step F n L b 1 = i64 left := by simp only [sl6]
    refine ga_step (rs_ok hE) hI (K := fun s' => Le s' (st6 l v v' ys left cl step F n (fun j => decide (j = 5) || L j) b)) (by
      show stepOp Try.prog _ ⟨38, sl6 l v v' ys left cl step F n L b, [], []⟩ _
      simp only [go_sem, bas, basL, Nat.reduceAdd, Nat.reduceSub, Nat.reduceMul, Nat.reduceLT, Nat.reduceLeDiff, Nat.reduceEqDiff, Nat.reduceBEq, Int.reduceLT, Int.reduceLE, Int.reduceToNat, Int.reduceAdd, Int.reduceSub, Int.reduceMul, Int.reduceNeg, Int.reduceEq, reduceCtorEq, eq_self, ne_eq, not_false_eq_true, if_true, reduceIte, e1]
      skip
      refine ⟨rfl, fun m => ?_, ⟨[], rfl⟩, ⟨[], rfl⟩⟩
      simp only [st6, sl6, put, St.put]
      split <;> simp) fun s' a' w' hr' hle => ⟨by simpa using hc, by simpa using hc9, b, k', v', by simpa using hb, by simpa using hk, by simpa using (rs_ok hE).le hr' hle (st6_named _ _ _ _ _ _ _ _ _ _ _)⟩
  | 6, ho, hL, hdep =>
    simp only [List.getElem?_toArray, List.getElem?_cons_zero, List.getElem?_cons_succ, Option.some.injEq] at ho; subst ho
    obtain ⟨hc, hc9, b, k', v', hb, hk, hI⟩ := hI
    have e9 : sl6 l v v' ys left cl step F n L b 9 = i64 n := by simp only [sl6]
    refine ga_step (rs_ok hE) hI (K := fun s' => Le s' (st6 l v v' ys left cl step F n (fun j => decide (j = 6) || L j) b)) (by
      show stepOp Try.prog _ ⟨38, sl6 l v v' ys left cl step F n L b, [], []⟩ _
      simp only [go_sem, bas, basL, Nat.reduceAdd, Nat.reduceSub, Nat.reduceMul, Nat.reduceLT, Nat.reduceLeDiff, Nat.reduceEqDiff, Nat.reduceBEq, Int.reduceLT, Int.reduceLE, Int.reduceToNat, Int.reduceAdd, Int.reduceSub, Int.reduceMul, Int.reduceNeg, Int.reduceEq, reduceCtorEq, eq_self, ne_eq, not_false_eq_true, if_true, reduceIte, e9]
      skip
      refine ⟨rfl, fun m => ?_, ⟨[], rfl⟩, ⟨[], rfl⟩⟩
      simp only [st6, sl6, put, St.put]
      split <;> simp) fun s' a' w' hr' hle => ⟨by simpa using hc, by simpa using hc9, b, k', v', by simpa using hb, by simpa using hk, by simpa using (rs_ok hE).le hr' hle (st6_named _ _ _ _ _ _ _ _ _ _ _)⟩
  | 7, ho, hL, hdep =>
    simp only [List.getElem?_toArray, List.getElem?_cons_zero, List.getElem?_cons_succ, Option.some.injEq] at ho; subst ho
    obtain ⟨hc, hc9, b, k', v', hb, hk, hI⟩ := hI
    have d5 : L 5 = true := hdep ⟨5, .data⟩ (by simp) rfl
    have d6 : L 6 = true := hdep ⟨6, .data⟩ (by simp) rfl
    have e33 : sl6 l v v' ys left cl step F n L b 33 = i64 left := by simp only [sl6, d5, d6, cond_true]
    have e34 : sl6 l v v' ys left cl step F n L b 34 = i64 n := by simp only [sl6, d5, d6, cond_true]
    refine ga_step (rs_ok hE) hI (K := fun s' => Le s' (st6 l v v' ys left cl step F n (fun j => decide (j = 7) || L j) b)) (by
      show stepOp Try.prog _ ⟨38, sl6 l v v' ys left cl step F n L b, [], []⟩ _
      simp only [go_sem, bas, basL, Nat.reduceAdd, Nat.reduceSub, Nat.reduceMul, Nat.reduceLT, Nat.reduceLeDiff, Nat.reduceEqDiff, Nat.reduceBEq, Int.reduceLT, Int.reduceLE, Int.reduceToNat, Int.reduceAdd, Int.reduceSub, Int.reduceMul, Int.reduceNeg, Int.reduceEq, reduceCtorEq, eq_self, ne_eq, not_false_eq_true, if_true, reduceIte, e33, e34]
      refine ⟨by simp only [InR]; omega, ?_⟩
      refine ⟨rfl, fun m => ?_, ⟨[], rfl⟩, ⟨[], rfl⟩⟩
      simp only [st6, sl6, put, St.put]
      split <;> simp [d5, d6]) fun s' a' w' hr' hle => ⟨by simpa using hc, by simpa using hc9, b, k', v', by simpa using hb, by simpa using hk, by simpa using (rs_ok hE).le hr' hle (st6_named _ _ _ _ _ _ _ _ _ _ _)⟩
  | 8, ho, hL, hdep =>
    simp only [List.getElem?_toArray, List.getElem?_cons_zero, List.getElem?_cons_succ, Option.some.injEq] at ho; subst ho
    obtain ⟨hc, hc9, b, k', v', hb, hk, hI⟩ := hI
    have d0 : L 0 = true := hdep ⟨0, .data⟩ (by simp) rfl
    have d4 : L 4 = true := hdep ⟨4, .data⟩ (by simp) rfl
    have d7 : L 7 = true := hdep ⟨7, .data⟩ (by simp) rfl
    have h8 : L 8 = false := hL
    obtain ⟨rfl, rfl⟩ := hb h8
    have e28 : sl6 l v v' ys left cl step F n L true 28 = .val F := by simp only [sl6, d0, cond_true]
    have e32 : sl6 l v v' ys left cl step F n L true 32 = .val v' := by simp only [sl6, d4, cond_true]
    have e35 : sl6 l v v' ys left cl step F n L true 35 = i64 (left - n) := by simp only [sl6, d7, cond_true]
    have hI2 : RS ⟨⟨Try.prog, l, xss, J, Jx⟩, T0, S0, M0, w0, 3, v, ys⟩ (some (v', ys ++ [n])) (true, k + base) (st6 l v v' ys left cl step F n L true) a w := by simpa [d4, h8] using hI
    refine rs_call hE (f := 103) (lb := lb) (out := out) rfl hI2 (by rw [hF]; exact e28) e32 e35 Try.call103 hS hrel hout (by show (_ : Nat) < 38; decide)
      fun b2 k2 a' w' hk2 hr' => ⟨by simp [d4], by simp, b2, k2, v', by simp, fun _ h => by rw [hk2 h, hcnt], ?_⟩
    have := (rs_ok hE).le hr' (s' := st6 l v v' ys left cl step F n (fun j => decide (j = 8) || L j) b2) (by
      refine ⟨rfl, fun m => ?_, ⟨[], rfl⟩, ⟨[], rfl⟩⟩
      simp only [st6, sl6, put, St.put]
      split <;> simp [h8, hc9 h8]) (st6_named _ _ _ _ _ _ _ _ _ _ _)
    simpa [d4] using this
  | 9, ho, hL, hdep =>
    simp only [List.getElem?_toArray, List.getElem?_cons_zero, List.getElem?_cons_succ, Option.some.injEq] at ho; subst ho
    obtain ⟨hc, hc9, b, k', v', hb, hk, hI⟩ := hI
    have d8 : L 8 = true := hdep ⟨8, .data⟩ (by simp) rfl
    have e36 : sl6 l v v' ys left cl step F n L b 36 = .bool b := by simp only [sl6, d8, cond_true]
    refine ga_step (rs_ok hE) hI (K := fun s' => Le s' (st6 l v v' ys left cl step F n (fun j => decide (j = 9) || L j) b)) (by
      show stepOp Try.prog _ ⟨38, sl6 l v v' ys left cl step F n L b, [], []⟩ _
      simp only [go_sem, bas, basL, Nat.reduceAdd, Nat.reduceSub, Nat.reduceMul, Nat.reduceLT, Nat.reduceLeDiff, Nat.reduceEqDiff, Nat.reduceBEq, Int.reduceLT, Int.reduceLE, Int.reduceToNat, Int.reduceAdd, Int.reduceSub, Int.reduceMul, Int.reduceNeg, Int.reduceEq, reduceCtorEq, eq_self, ne_eq, not_false_eq_true, if_true, reduceIte, e36]
      skip
      refine ⟨rfl, fun m => ?_, ⟨[], rfl⟩, ⟨[], rfl⟩⟩
      simp only [st6, sl6, put, St.put]
      split <;> simp [d8]) fun s' a' w' hr' hle => ⟨by simpa using hc, by simp [d8], b, k', v', by simpa using hb, by simpa using hk, by simpa using (rs_ok hE).le hr' hle (st6_named _ _ _ _ _ _ _ _ _ _ _)⟩
  | i + 10, ho, hL, hdep => simp at ho
  · obtain ⟨_, _, b, k', v', _, hk, hI⟩ := hI
    have l8 := hL 8 (by decide)
    have hI2 : RS ⟨⟨Try.prog, l, xss, J, Jx⟩, T0, S0, M0, w0, 3, v, ys⟩ none (b, k') (st6 l v v' ys left cl step F n L b) a w := by simpa [l8] using hI
    refine ⟨_, _, (rs_ok hE).le hI2 (s' := st6 l v v' ys left cl step F n (fun j => decide (j < 10)) b) ?_ (st6_named _ _ _ _ _ _ _ _ _ _ _), hQ b k' v' (hk l8)⟩
    refine ⟨rfl, fun m => ?_, ⟨[], rfl⟩, ⟨[], rfl⟩⟩
    simp only [st6, sl6, hL 0 (by decide), hL 1 (by decide), hL 2 (by decide), hL 3 (by decide), hL 4 (by decide), hL 5 (by decide), hL 6 (by decide), hL 7 (by decide), hL 8 (by decide), hL 9 (by decide)]
    split <;> simp
end Go.Proofs.Ythamljpomhjepaa
