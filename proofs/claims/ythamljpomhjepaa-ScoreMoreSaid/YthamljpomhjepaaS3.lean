import Derived.Test.YthamljpomhjepaaS2
set_option linter.unusedVariables false
set_option linter.unusedSimpArgs false
namespace Go.Ab
open Go.RowKit
theorem ga_intro {P : Program} {ι : Type} {RR : ι → St → Act → World → Prop} {code : Code} {Q : Exit → ι → St → Prop} {i : ι} {s : St} (h : ∀ a w, RR i s a w → code.wpIn Fence.wide 0 P (fun e a' w' => ∃ i' s', RR i' s' a' w' ∧ Q e i' s') a w) : GA P RR code Q i s := h
theorem list_cons {P : Program} {ops : Array Oper} {Q : Exit → Act → World → Prop} {o : Oper} {rest : List Oper} {a : Act} {w : World} (hg : o.guard = none) (h : o.wpIn Fence.wide 0 P a w (wpListIn Fence.wide 0 P ops Q rest) Q) :
    wpListIn Fence.wide 0 P ops Q (o :: rest) a w := by
  unfold wpListIn
  rw [if_pos (by simp [Region.wanted, hg])]
  exact h
theorem rs_len {E : SEnv} (hE : E.Ok) {o : Oper} {x : Operand} {t e : TypeId} {i : Ix} {s : St} {a : Act} {w : World} {N : Act → World → Prop} {Q : Exit → Act → World → Prop}
    (ho : o.op = .call ⟨.builtin .len, #[x], #[t]⟩) (hr : RS E none i s a w) (hx : s.ev x = .val E.v) (he : elemOf E.c.P t = some e) (hdst : dstOk s o.dst)
    (hN : ∀ a' w', RS E none i (s.put o.dst (.int .i64 E.xs.length)) a' w' → N a' w') : o.wpIn Fence.wide 0 E.c.P a w N Q := by
  have hpin : Pin w E.e E.v E.xs := by obtain ⟨_, _, _, _, _, _, _, _, hp, _⟩ := hr; exact hp
  obtain ⟨w0, S0, M0, own, ⟨g, hg⟩, hcl⟩ := rs_ok hE i s a w hr
  have hxr := hg.ev x
  rw [hx] at hxr
  have hvx : a.eval x = E.v := by
    generalize a.eval x = vx at hxr
    cases hxr; rfl
  obtain ⟨A, cp, hv⟩ : ∃ A cp, E.v = .slice A E.xs.length cp := by
    rcases hpin.2 with ⟨h1, h2⟩ | ⟨g, cap, cur, h1, _⟩
    · exact ⟨none, 0, by rw [h1, h2]⟩
    · exact ⟨_, _, h1⟩
  refine ⟨fun _ _ => trivial, ?_⟩
  have hsem : (o.semAt Fence.wide.round a.eval).run E.c.P w = .ok (.value (.int .i64 E.xs.length)) w := by
    rw [Oper.semAt_eq _ _ _ (by rw [ho]; intro cl h; cases h)]
    simp [execOp, ho, hvx, hv, resolve, invoke, builtin, Builtin.len_, run_underlying (elemOf_u he), goInt]
  rw [hsem, Oper.uponIn_value]
  exact hN _ _ (hcl _ _ _ ⟨g, hg.put hdst (.int _ _ _)⟩)
end Go.Ab
namespace Go.Proofs.Ythamljpomhjepaa
open Go.Ab
attribute [local irreducible] Abs CallK CallR CallsTo GA
set_option linter.unusedSimpArgs false

def upd (L : Nat → Bool) (i : Nat) : Nat → Bool := fun j => decide (j = i) || L j
theorem upd_same (L : Nat → Bool) (i : Nat) : upd L i i = true := by simp [upd]
theorem upd_ne (L : Nat → Bool) (i j : Nat) (h : decide (j = i) = false) : upd L i j = L j := by simp [upd, h]

def sl2 (l : Nat) (v : Value) (xs : List Int) (left : Int) (L : Nat → Bool) (b : Bool) : Nat → D := fun m => match m with
  | 0 => .val v
  | 1 => i64 left
  | 3 => .ro [.val (.func (.yield l) #[] #[])]
  | 15 => bif L 0 then .val (.func (.yield l) #[] #[]) else .undef
  | 16 => bif L 1 then .val v else .undef
  | 17 => bif L 2 && !L 5 then .own 0 else .undef
  | 18 => bif L 3 then i64 left else .undef
  | 19 => bif L 4 then .list [i64 left] else .undef
  | 20 => bif L 5 then .own 0 else .undef
  | 21 => bif L 6 then .bool b else .undef
  | 8 => bif L 7 then .bool b else .undef
  | _ => .undef
def rw2 (xs : List Int) (left : Int) (L : Nat → Bool) : List Row := bif L 5 then [⟨true, 3, 1, (xs ++ [left]).map i64⟩] else bif L 2 then [⟨true, 3, 1, xs.map i64⟩] else []
def st2 (l : Nat) (v : Value) (xs : List Int) (left : Int) (L : Nat → Bool) (b : Bool) : St := ⟨38, sl2 l v xs left L b, [], rw2 xs left L⟩

theorem st2_named (l : Nat) (v : Value) (xs : List Int) (left : Int) (L : Nat → Bool) (b : Bool) : (st2 l v xs left L b).named := by
  refine ⟨fun m => ?_, fun i cs h => by simp [st2] at h⟩
  apply names_of
  simp only [st2, sl2, rw2]
  split <;> (try cases L 0) <;> (try cases L 1) <;> (try cases L 2) <;> (try cases L 5) <;> (try cases L 3) <;> (try cases L 4) <;> (try cases L 6) <;> (try cases L 7) <;> rfl

set_option maxRecDepth 100000 in
set_option maxHeartbeats 4000000 in
theorem leaf_ok (l : Nat) (xss : List (List D)) (J Jx : Nat → Inv) (hok : IC.Ok ⟨Try.prog, l, xss, J, Jx⟩) (cl step left : Int) (lb : List Value) (F : Value) (xs : List Int) (hcl : (xs.length : Int) + 1 = cl) (hc3 : cl = 2 ∨ cl = 3) (hl : 0 ≤ left ∧ left ≤ 100) (hlb : lb.length = 4) :
    SearchC ⟨Try.prog, l, xss, J, Jx⟩ 103 3 lb [.ro [i64 cl], .ro [.val (.func (.yield l) #[] #[])], .ro [i64 step], .ro [.val F]] xs left [[ints (xs ++ [left])]] := by
  have hxs1 : xs ≠ [] := by rintro rfl; simp at hcl; omega
  have hxl : xs.length ≤ 2 := by omega
  refine searchC_of_ga hok Try.func103 Try.ntmps103 Try.results103 rfl (by simp) hlb fun E hc he hx hE hrel k hout => ?_
  obtain ⟨c', T0, S0, M0, w0, e', v, ys⟩ := E
  simp only at hc he hx
  subst hc; subst he; subst hx
  have ok := rs_ok (tp := none) hE
  refine ga_seq (ga_abs ok fun _ _ _ _ => abs_region fun K hK => ?_)
  simp only [go_sem, bas, basL, Nat.reduceAdd, Nat.reduceSub, Nat.reduceMul, Nat.reduceLT, Nat.reduceLeDiff, Nat.reduceEqDiff, Nat.reduceBEq, Int.reduceLT, Int.reduceLE, Int.reduceToNat, Int.reduceAdd, Int.reduceSub, Int.reduceMul, Int.reduceNeg, Int.reduceEq, reduceCtorEq, eq_self, ne_eq, not_false_eq_true, if_true, reduceIte]
  refine hK _ ?_
  clear hK K
  show GA _ _ _ _ _ _
  refine ga_seq (ga_seq (ga_intro fun a w hr => ?_))
  refine wpIn_region_lit (list_cons rfl (ga_step ok hr (K := fun s' => s' = _) (by simp only [go_sem, bas, basL, Nat.reduceAdd, Nat.reduceSub, Nat.reduceMul, Nat.reduceLT, Nat.reduceLeDiff, Nat.reduceEqDiff, Nat.reduceBEq, Int.reduceLT, Int.reduceLE, Int.reduceToNat, Int.reduceAdd, Int.reduceSub, Int.reduceMul, Int.reduceNeg, Int.reduceEq, reduceCtorEq, eq_self, ne_eq, not_false_eq_true, if_true, reduceIte]; rfl) fun s1 a1 w1 hr1 e1 => ?_))
  subst e1
  refine list_cons rfl (rs_len hE rfl hr1 rfl Try.ty.el22 (by show (_ : Nat) < 38; decide) fun a2 w2 hr2 => ?_)
  refine list_cons rfl (ga_step ok hr2 (K := fun s' => s' = _) (by simp only [go_sem, bas, basL, Nat.reduceAdd, Nat.reduceSub, Nat.reduceMul, Nat.reduceLT, Nat.reduceLeDiff, Nat.reduceEqDiff, Nat.reduceBEq, Int.reduceLT, Int.reduceLE, Int.reduceToNat, Int.reduceAdd, Int.reduceSub, Int.reduceMul, Int.reduceNeg, Int.reduceEq, reduceCtorEq, eq_self, ne_eq, not_false_eq_true, if_true, reduceIte]; rfl) fun s3 a3 w3 hr3 e3 => ?_)
  subst e3
  have hcl' : InR .i64 (cl - 1) := by simp only [InR]; omega
  refine list_cons rfl (ga_step ok hr3 (K := fun s' => s' = _) (by simp only [go_sem, bas, basL, Nat.reduceAdd, Nat.reduceSub, Nat.reduceMul, Nat.reduceLT, Nat.reduceLeDiff, Nat.reduceEqDiff, Nat.reduceBEq, Int.reduceLT, Int.reduceLE, Int.reduceToNat, Int.reduceAdd, Int.reduceSub, Int.reduceMul, Int.reduceNeg, Int.reduceEq, reduceCtorEq, eq_self, ne_eq, not_false_eq_true, if_true, reduceIte]; exact ⟨hcl', rfl⟩) fun s4 a4 w4 hr4 e4 => ?_)
  subst e4
  refine list_cons rfl (ga_step ok hr4 (K := fun s' => s' = _) (by simp only [go_sem, bas, basL, Nat.reduceAdd, Nat.reduceSub, Nat.reduceMul, Nat.reduceLT, Nat.reduceLeDiff, Nat.reduceEqDiff, Nat.reduceBEq, Int.reduceLT, Int.reduceLE, Int.reduceToNat, Int.reduceAdd, Int.reduceSub, Int.reduceMul, Int.reduceNeg, Int.reduceEq, reduceCtorEq, eq_self, ne_eq, not_false_eq_true, if_true, reduceIte]; rfl) fun s5 a5 w5 hr5 e5 => ?_)
  subst e5
  have hdec : decide ((ys.length : Int) = cl - 1) = true := decide_eq_true (by omega)
  rw [hdec] at hr5
  refine ⟨_, _, hr5, ?_⟩
  show GA _ _ _ _ _ _
  refine ga_if ok ?_
  simp only [go_sem, bas, basL, Nat.reduceAdd, Nat.reduceSub, Nat.reduceMul, Nat.reduceLT, Nat.reduceLeDiff, Nat.reduceEqDiff, Nat.reduceBEq, Int.reduceLT, Int.reduceLE, Int.reduceToNat, Int.reduceAdd, Int.reduceSub, Int.reduceMul, Int.reduceNeg, Int.reduceEq, reduceCtorEq, eq_self, ne_eq, not_false_eq_true, if_true, reduceIte]
  clear hr hr1 hr2 hr3 hr4 hr5
  refine ga_seq (ga_intro fun a w hr => ?_)
  have hr0 := ok.le (ga_tick ok hr) (s' := st2 l v ys left (fun _ => false) true) ⟨rfl, fun m => by
    simp only [st2, sl2, cond_false]
    split <;> first | exact .inl rfl | exact .inr rfl, ⟨[], rfl⟩, ⟨[], rfl⟩⟩ (st2_named _ _ _ _ _ _)
  clear hr
  refine wpIn_region_flowB Try.ty.mixed (by kernel_rfl) (fun L a w => (L 2 = false → L 5 = false) ∧ (L 6 = false → L 7 = false) ∧ ∃ b : Bool, (L 6 = false → b = true) ∧ RS _ none (b, bif L 6 then k + 1 else k) (st2 l v ys left L b) a w)
    ⟨fun _ => rfl, fun _ => rfl, true, fun _ => rfl, hr0⟩ (fun L i o ho hL hdep a w hI => ?_) (fun L a w hL hI => ?_)
  · match i, ho, hL, hdep with
  | 0, ho, hL, hdep =>
    simp only [List.getElem?_toArray, List.getElem?_cons_zero, List.getElem?_cons_succ, Option.some.injEq] at ho; subst ho
    obtain ⟨hc, hc7, b, hb, hI⟩ := hI
    have e3 : sl2 l v ys left L b 3 = .ro [.val (.func (.yield l) #[] #[])] := by simp only [sl2]
    refine ga_step ok hI (K := fun s' => Le s' (st2 l v ys left (fun j => decide (j = 0) || L j) b)) (by
      show stepOp Try.prog _ ⟨38, sl2 l v ys left L b, [], rw2 ys left L⟩ _
      simp only [go_sem, bas, basL, Nat.reduceAdd, Nat.reduceSub, Nat.reduceMul, Nat.reduceLT, Nat.reduceLeDiff, Nat.reduceEqDiff, Nat.reduceBEq, Int.reduceLT, Int.reduceLE, Int.reduceToNat, Int.reduceAdd, Int.reduceSub, Int.reduceMul, Int.reduceNeg, Int.reduceEq, reduceCtorEq, eq_self, ne_eq, not_false_eq_true, if_true, reduceIte, e3]
      skip
      refine ⟨rfl, fun m => ?_, ⟨[], rfl⟩, ⟨[], ?_⟩⟩
      · simp only [st2, sl2, put, St.put]
        split <;> simp
      · simp [st2, rw2]) fun s' a' w' hr' hle => ⟨by simpa using hc, by simpa using hc7, b, by simpa using hb, by simpa using ok.le hr' hle (st2_named _ _ _ _ _ _)⟩
  | 1, ho, hL, hdep =>
    simp only [List.getElem?_toArray, List.getElem?_cons_zero, List.getElem?_cons_succ, Option.some.injEq] at ho; subst ho
    obtain ⟨hc, hc7, b, hb, hI⟩ := hI
    have e0 : sl2 l v ys left L b 0 = .val v := by simp only [sl2]
    refine ga_step ok hI (K := fun s' => Le s' (st2 l v ys left (fun j => decide (j = 1) || L j) b)) (by
      show stepOp Try.prog _ ⟨38, sl2 l v ys left L b, [], rw2 ys left L⟩ _
      simp only [go_sem, bas, basL, Nat.reduceAdd, Nat.reduceSub, Nat.reduceMul, Nat.reduceLT, Nat.reduceLeDiff, Nat.reduceEqDiff, Nat.reduceBEq, Int.reduceLT, Int.reduceLE, Int.reduceToNat, Int.reduceAdd, Int.reduceSub, Int.reduceMul, Int.reduceNeg, Int.reduceEq, reduceCtorEq, eq_self, ne_eq, not_false_eq_true, if_true, reduceIte, e0]
      skip
      refine ⟨rfl, fun m => ?_, ⟨[], rfl⟩, ⟨[], ?_⟩⟩
      · simp only [st2, sl2, put, St.put]
        split <;> simp
      · simp [st2, rw2]) fun s' a' w' hr' hle => ⟨by simpa using hc, by simpa using hc7, b, by simpa using hb, by simpa using ok.le hr' hle (st2_named _ _ _ _ _ _)⟩
  | 2, ho, hL, hdep =>
    simp only [List.getElem?_toArray, List.getElem?_cons_zero, List.getElem?_cons_succ, Option.some.injEq] at ho; subst ho
    obtain ⟨hc, hc7, b, hb, hI⟩ := hI
    have d1 : L 1 = true := hdep ⟨1, .data⟩ (by simp) rfl
    have h5 : L 5 = false := hc hL
    have hL' : L 2 = false := hL
    refine rs_clone hE rfl hI (by show sl2 l v ys left L b 16 = _; simp only [sl2, d1, cond_true]) (clone_row ys hxs1 (by omega)) (by show (_ : Nat) < 38; decide) fun a' w' hr' => ⟨by simp, by simpa using hc7, b, by simpa using hb, ?_⟩
    have hrw : rw2 ys left L = [] := by simp only [rw2, h5, hL', cond_false]
    have hr2 : RS ⟨⟨Try.prog, l, xss, J, Jx⟩, T0, S0, M0, w0, 3, v, ys⟩ none (b, bif L 6 then k + 1 else k) ⟨38, put (sl2 l v ys left L b) 17 (.own 0), [], [⟨true, 3, 1, ys.map i64⟩]⟩ a' w' := by
      have := hr'
      simp only [st2, hrw, St.put] at this
      exact this
    simpa using ok.le hr2 (s' := st2 l v ys left (fun j => decide (j = 2) || L j) b) (by
      refine ⟨rfl, fun m => ?_, ⟨[], rfl⟩, ⟨[], ?_⟩⟩
      · simp only [st2, sl2, put, St.put]
        split <;> simp [d1, h5, hL']
      · simp [st2, rw2, h5, hL']) (st2_named _ _ _ _ _ _)
  | 3, ho, hL, hdep =>
    simp only [List.getElem?_toArray, List.getElem?_cons_zero, List.getElem?_cons_succ, Option.some.injEq] at ho; subst ho
    obtain ⟨hc, hc7, b, hb, hI⟩ := hI
    have e1 : sl2 l v ys left L b 1 = i64 left := by simp only [sl2]
    refine ga_step ok hI (K := fun s' => Le s' (st2 l v ys left (fun j => decide (j = 3) || L j) b)) (by
      show stepOp Try.prog _ ⟨38, sl2 l v ys left L b, [], rw2 ys left L⟩ _
      simp only [go_sem, bas, basL, Nat.reduceAdd, Nat.reduceSub, Nat.reduceMul, Nat.reduceLT, Nat.reduceLeDiff, Nat.reduceEqDiff, Nat.reduceBEq, Int.reduceLT, Int.reduceLE, Int.reduceToNat, Int.reduceAdd, Int.reduceSub, Int.reduceMul, Int.reduceNeg, Int.reduceEq, reduceCtorEq, eq_self, ne_eq, not_false_eq_true, if_true, reduceIte, e1]
      skip
      refine ⟨rfl, fun m => ?_, ⟨[], rfl⟩, ⟨[], ?_⟩⟩
      · simp only [st2, sl2, put, St.put]
        split <;> simp
      · simp [st2, rw2]) fun s' a' w' hr' hle => ⟨by simpa using hc, by simpa using hc7, b, by simpa using hb, by simpa using ok.le hr' hle (st2_named _ _ _ _ _ _)⟩
  | 4, ho, hL, hdep =>
    simp only [List.getElem?_toArray, List.getElem?_cons_zero, List.getElem?_cons_succ, Option.some.injEq] at ho; subst ho
    obtain ⟨hc, hc7, b, hb, hI⟩ := hI
    have d3 : L 3 = true := hdep ⟨3, .data⟩ (by simp) rfl
    have e18 : sl2 l v ys left L b 18 = i64 left := by simp only [sl2, d3, cond_true]
    refine ga_step ok hI (K := fun s' => Le s' (st2 l v ys left (fun j => decide (j = 4) || L j) b)) (by
      show stepOp Try.prog _ ⟨38, sl2 l v ys left L b, [], rw2 ys left L⟩ _
      simp only [go_sem, bas, basL, Nat.reduceAdd, Nat.reduceSub, Nat.reduceMul, Nat.reduceLT, Nat.reduceLeDiff, Nat.reduceEqDiff, Nat.reduceBEq, Int.reduceLT, Int.reduceLE, Int.reduceToNat, Int.reduceAdd, Int.reduceSub, Int.reduceMul, Int.reduceNeg, Int.reduceEq, reduceCtorEq, eq_self, ne_eq, not_false_eq_true, if_true, reduceIte, e18]
      skip
      refine ⟨rfl, fun m => ?_, ⟨[], rfl⟩, ⟨[], ?_⟩⟩
      · simp only [st2, sl2, put, St.put]
        split <;> simp [d3]
      · simp [st2, rw2, d3]) fun s' a' w' hr' hle => ⟨by simpa using hc, by simpa using hc7, b, by simpa using hb, by simpa using ok.le hr' hle (st2_named _ _ _ _ _ _)⟩
  | 5, ho, hL, hdep =>
    simp only [List.getElem?_toArray, List.getElem?_cons_zero, List.getElem?_cons_succ, Option.some.injEq] at ho; subst ho
    obtain ⟨hc, hc7, b, hb, hI⟩ := hI
    have d2 : L 2 = true := hdep ⟨2, .data⟩ (by simp) rfl
    have d4 : L 4 = true := hdep ⟨4, .data⟩ (by simp) rfl
    have h5 : L 5 = false := hL
    have e17 : sl2 l v ys left L b 17 = .own 0 := by simp only [sl2, d2, h5, Bool.not_false, Bool.and_true, cond_true]
    have e19 : sl2 l v ys left L b 19 = .list [i64 left] := by simp only [sl2, d4, cond_true]
    have hrw : rw2 ys left L = [⟨true, 3, 1, ys.map i64⟩] := by simp only [rw2, h5, d2, cond_false, cond_true]
    refine ga_step ok hI (K := fun s' => Le s' (st2 l v ys left (fun j => decide (j = 5) || L j) b)) (by
      show stepOp Try.prog _ ⟨38, sl2 l v ys left L b, [], rw2 ys left L⟩ _
      rw [hrw]
      simp only [go_sem, bas, basL, Nat.reduceAdd, Nat.reduceSub, Nat.reduceMul, Nat.reduceLT, Nat.reduceLeDiff, Nat.reduceEqDiff, Nat.reduceBEq, Int.reduceLT, Int.reduceLE, Int.reduceToNat, Int.reduceAdd, Int.reduceSub, Int.reduceMul, Int.reduceNeg, Int.reduceEq, reduceCtorEq, eq_self, ne_eq, not_false_eq_true, if_true, reduceIte, e17, e19]
      refine ⟨by omega, by omega, ?_⟩
      refine ⟨rfl, fun m => ?_, ⟨[], rfl⟩, ⟨[], ?_⟩⟩
      · simp only [st2, sl2, put, purgeS, purge]
        split <;> simp [d2, d4, h5] <;> (cases L 0 <;> cases L 1 <;> cases L 3 <;> cases L 6 <;> cases L 7 <;> simp [D.men])
      · simp [st2, rw2]) fun s' a' w' hr' hle => ⟨by simp [d2], by simpa using hc7, b, by simpa using hb, by simpa using ok.le hr' hle (st2_named _ _ _ _ _ _)⟩
  | 6, ho, hL, hdep =>
    simp only [List.getElem?_toArray, List.getElem?_cons_zero, List.getElem?_cons_succ, Option.some.injEq] at ho; subst ho
    obtain ⟨hc, hc7, b, hb, hI⟩ := hI
    have d0 : L 0 = true := hdep ⟨0, .data⟩ (by simp) rfl
    have d5 : L 5 = true := hdep ⟨5, .data⟩ (by simp) rfl
    have h6 : L 6 = false := hL
    have hbt : b = true := hb h6
    subst hbt
    have hI2 : RS ⟨⟨Try.prog, l, xss, J, Jx⟩, T0, S0, M0, w0, 3, v, ys⟩ none (true, k) (st2 l v ys left L true) a w := by simpa [h6] using hI
    refine rs_yield hE (d := [ints (ys ++ [left])]) rfl hI2 (by show sl2 l v ys left L true 15 = _; simp only [sl2, d0, cond_true]) (by
      show pureDs [] (rw2 ys left L) [sl2 l v ys left L true 20] = _
      simp only [sl2, rw2, d5, cond_true]; rfl) (by have := hout 0 (by simp); simpa using this) (by show (_ : Nat) < 38; decide) fun b' a' w' hr' => ⟨by simpa using hc, by simp, b', by simp, ?_⟩
    simpa using ok.le hr' (s' := st2 l v ys left (fun j => decide (j = 6) || L j) b') (by
      refine ⟨rfl, fun m => ?_, ⟨[], rfl⟩, ⟨[], ?_⟩⟩
      · simp only [st2, sl2, put, St.put]
        split <;> simp [d0, d5, h6, hc7 h6]
      · simp [st2, rw2, d5, St.put]) (st2_named _ _ _ _ _ _)
  | 7, ho, hL, hdep =>
    simp only [List.getElem?_toArray, List.getElem?_cons_zero, List.getElem?_cons_succ, Option.some.injEq] at ho; subst ho
    obtain ⟨hc, hc7, b, hb, hI⟩ := hI
    have d6 : L 6 = true := hdep ⟨6, .data⟩ (by simp) rfl
    have e21 : sl2 l v ys left L b 21 = .bool b := by simp only [sl2, d6, cond_true]
    refine ga_step ok hI (K := fun s' => Le s' (st2 l v ys left (fun j => decide (j = 7) || L j) b)) (by
      show stepOp Try.prog _ ⟨38, sl2 l v ys left L b, [], rw2 ys left L⟩ _
      simp only [go_sem, bas, basL, Nat.reduceAdd, Nat.reduceSub, Nat.reduceMul, Nat.reduceLT, Nat.reduceLeDiff, Nat.reduceEqDiff, Nat.reduceBEq, Int.reduceLT, Int.reduceLE, Int.reduceToNat, Int.reduceAdd, Int.reduceSub, Int.reduceMul, Int.reduceNeg, Int.reduceEq, reduceCtorEq, eq_self, ne_eq, not_false_eq_true, if_true, reduceIte, e21]
      skip
      refine ⟨rfl, fun m => ?_, ⟨[], rfl⟩, ⟨[], ?_⟩⟩
      · simp only [st2, sl2, put, St.put]
        split <;> simp [d6]
      · simp [st2, rw2, d6]) fun s' a' w' hr' hle => ⟨by simpa using hc, by simp [d6], b, by simpa using hb, by simpa using ok.le hr' hle (st2_named _ _ _ _ _ _)⟩
  | i + 8, ho, hL, hdep => simp at ho
  · obtain ⟨_, _, b, _, hI⟩ := hI
    have l6 := hL 6 (by decide)
    have l7 := hL 7 (by decide)
    have hI2 : RS ⟨⟨Try.prog, l, xss, J, Jx⟩, T0, S0, M0, w0, 3, v, ys⟩ none (b, k + 1) (st2 l v ys left L b) a w := by simpa [l6] using hI
    refine ⟨_, _, hI2, ga_ret ⟨?_, fun _ => rfl⟩⟩
    show sl2 l v ys left L b 8 = _
    simp only [sl2, l7, cond_true]
end Go.Proofs.Ythamljpomhjepaa
