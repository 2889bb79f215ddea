import Derived.Test.YthamljpomhjepaaS4
set_option linter.unusedVariables false
set_option linter.unusedSimpArgs false
namespace Go.Proofs.Ythamljpomhjepaa
open Go.Ab
attribute [local irreducible] Abs CallK CallR CallsTo GA
set_option linter.unusedSimpArgs false

/-- What the first j numbers of a node lead to. -/
def preO (step : Int) (r : Nat) (ys : List Int) (left : Int) (j : Nat) : List (List Int) := (List.range j).flatMap fun (i : Nat) => srch step r (ys ++ [step * (i : Int)]) (left - step * (i : Int))
theorem preO_succ (step : Int) (r : Nat) (ys : List Int) (left : Int) (j : Nat) : preO step r ys left (j + 1) = preO step r ys left j ++ srch step r (ys ++ [step * (j : Int)]) (left - step * (j : Int)) := by
  simp [preO, List.range_succ]
theorem preO_at (step : Int) (r : Nat) (ys : List Int) (left : Int) (j N : Nat) (hj : j < N) (q : Nat) (hq : q < (srch step r (ys ++ [step * (j : Int)]) (left - step * (j : Int))).length) :
    (preO step r ys left j).length + q < (preO step r ys left N).length ∧ (preO step r ys left N)[(preO step r ys left j).length + q]? = (srch step r (ys ++ [step * (j : Int)]) (left - step * (j : Int)))[q]? := by
  have key : ∀ d, ∃ t, preO step r ys left (j + 1 + d) = preO step r ys left (j + 1) ++ t := fun d => by
    induction d with
    | zero => exact ⟨[], by simp⟩
    | succ d ih =>
      obtain ⟨t, ht⟩ := ih
      exact ⟨t ++ _, by rw [← Nat.add_assoc, preO_succ, ht, List.append_assoc]⟩
  obtain ⟨t, ht⟩ := key (N - (j + 1))
  rw [show j + 1 + (N - (j + 1)) = N by omega, preO_succ, List.append_assoc] at ht
  rw [ht]
  refine ⟨by simp; omega, ?_⟩
  rw [List.getElem?_append_right (by omega), List.getElem?_append_left (by omega)]
  congr 1; omega
theorem srch_node (step : Int) (r : Nat) (ys : List Int) (left : Int) : srch step (r + 1) ys left = preO step r ys left (left / step + 1).toNat := by
  simp [srch, rng, preO, List.flatMap_map]

theorem ga_le {P : Program} {ι : Type} {RR : ι → St → Act → World → Prop} {code : Code} {Q : Exit → ι → St → Prop} {i : ι} {s : St} (hok : ROk P RR) (s' : St) (hl : Le s s') (hn : s'.named) (h : GA P RR code Q i s') : GA P RR code Q i s := by
  unfold GA at *
  exact fun a w hr => h a w (hok.le hr hl hn)

set_option maxRecDepth 100000 in
set_option maxHeartbeats 4000000 in
theorem node_ok (l : Nat) (xss : List (List D)) (J Jx : Nat → Inv) (hok : IC.Ok ⟨Try.prog, l, xss, J, Jx⟩) (cl step left : Int) (lb : List Value) (r : Nat) (xs : List Int) (hcl : (xs.length : Int) + r + 2 = cl) (hc3 : cl = 2 ∨ cl = 3)
    (h1 : 1 ≤ step) (h2 : step ≤ 100) (hl : 0 ≤ left ∧ left ≤ 100) (hlb : lb.length = 4)
    (hS : ∀ n : Int, 0 ≤ n → n ≤ left → SearchC ⟨Try.prog, l, xss, J, Jx⟩ 103 3 lb [.ro [i64 cl], .ro [.val (.func (.yield l) #[] #[])], .ro [i64 step], .ro [.val (.func (.func 103) #[] ⟨lb⟩)]] (xs ++ [n]) (left - n) ((srch step r (xs ++ [n]) (left - n)).map fun x => [ints x])) :
    SearchC ⟨Try.prog, l, xss, J, Jx⟩ 103 3 lb [.ro [i64 cl], .ro [.val (.func (.yield l) #[] #[])], .ro [i64 step], .ro [.val (.func (.func 103) #[] ⟨lb⟩)]] xs left ((srch step (r + 1) xs left).map fun x => [ints x]) := by
  have hxl : xs.length ≤ 1 := by omega
  rw [srch_node]
  obtain ⟨N, hN⟩ : ∃ N, N = (left / step + 1).toNat := ⟨_, rfl⟩
  rw [← hN]
  have hq0 : 0 ≤ left / step := Int.ediv_nonneg hl.1 (by omega)
  have hNi : (N : Int) = left / step + 1 := by omega
  have hmul := Int.mul_ediv_self_le (x := left) (k := step) (by omega)
  have hlt : ∀ j : Nat, step * (j : Int) ≤ left ↔ j < N := fun j => by
    rw [Int.mul_comm, ← Int.le_ediv_iff_mul_le (by omega)]
    omega
  refine searchC_of_ga hok Try.func103 Try.ntmps103 Try.results103 rfl (by simp) hlb fun E hc he hx hE hrel k hout => ?_
  obtain ⟨c', T0, S0, M0, w0, e', v, ys⟩ := E
  simp only at hc he hx
  subst hc; subst he; subst hx
  have ok := rs_ok (tp := none) hE
  refine ga_seq (ga_abs ok fun _ _ _ _ => abs_region fun K hK => ?_)
  simp only [go_sem, bas, basL, Nat.reduceAdd, Nat.reduceSub, Nat.reduceMul, Nat.reduceLT, Nat.reduceLeDiff, Nat.reduceEqDiff, Nat.reduceBEq, Int.reduceLT, Int.reduceLE, Int.reduceToNat, Int.reduceAdd, Int.reduceSub, Int.reduceMul, Int.reduceNeg, Int.reduceEq, reduceCtorEq, eq_self, ne_eq, not_false_eq_true, if_true, reduceIte]
  refine hK _ ?_
  clear hK K
  show GA _ _ _ _ _ _
  refine ga_seq (ga_seq (ga_intro fun a w hr => ?_))
  refine wpIn_region_lit (list_cons rfl (ga_step ok hr (K := fun s' => s' = _) (by simp only [go_sem, bas, basL, Nat.reduceAdd, Nat.reduceSub, Nat.reduceMul, Nat.reduceLT, Nat.reduceLeDiff, Nat.reduceEqDiff, Nat.reduceBEq, Int.reduceLT, Int.reduceLE, Int.reduceToNat, Int.reduceAdd, Int.reduceSub, Int.reduceMul, Int.reduceNeg, Int.reduceEq, reduceCtorEq, eq_self, ne_eq, not_false_eq_true, if_true, reduceIte]; rfl) fun s1 a1 w1 hr1 e1 => ?_))
  subst e1
  refine list_cons rfl (rs_len hE rfl hr1 rfl Try.ty.el22 (by show (_ : Nat) < 38; decide) fun a2 w2 hr2 => ?_)
  refine list_cons rfl (ga_step ok hr2 (K := fun s' => s' = _) (by simp only [go_sem, bas, basL, Nat.reduceAdd, Nat.reduceSub, Nat.reduceMul, Nat.reduceLT, Nat.reduceLeDiff, Nat.reduceEqDiff, Nat.reduceBEq, Int.reduceLT, Int.reduceLE, Int.reduceToNat, Int.reduceAdd, Int.reduceSub, Int.reduceMul, Int.reduceNeg, Int.reduceEq, reduceCtorEq, eq_self, ne_eq, not_false_eq_true, if_true, reduceIte]; rfl) fun s3 a3 w3 hr3 e3 => ?_)
  subst e3
  have hcl' : InR .i64 (cl - 1) := by simp only [InR]; omega
  refine list_cons rfl (ga_step ok hr3 (K := fun s' => s' = _) (by simp only [go_sem, bas, basL, Nat.reduceAdd, Nat.reduceSub, Nat.reduceMul, Nat.reduceLT, Nat.reduceLeDiff, Nat.reduceEqDiff, Nat.reduceBEq, Int.reduceLT, Int.reduceLE, Int.reduceToNat, Int.reduceAdd, Int.reduceSub, Int.reduceMul, Int.reduceNeg, Int.reduceEq, reduceCtorEq, eq_self, ne_eq, not_false_eq_true, if_true, reduceIte]; exact ⟨hcl', rfl⟩) fun s4 a4 w4 hr4 e4 => ?_)
  subst e4
  refine list_cons rfl (ga_step ok hr4 (K := fun s' => s' = _) (by simp only [go_sem, bas, basL, Nat.reduceAdd, Nat.reduceSub, Nat.reduceMul, Nat.reduceLT, Nat.reduceLeDiff, Nat.reduceEqDiff, Nat.reduceBEq, Int.reduceLT, Int.reduceLE, Int.reduceToNat, Int.reduceAdd, Int.reduceSub, Int.reduceMul, Int.reduceNeg, Int.reduceEq, reduceCtorEq, eq_self, ne_eq, not_false_eq_true, if_true, reduceIte]; rfl) fun s5 a5 w5 hr5 e5 => ?_)
  subst e5
  have hdec : decide ((ys.length : Int) = cl - 1) = false := decide_eq_false (by omega)
  rw [hdec] at hr5
  refine ⟨_, _, hr5, ?_⟩
  show GA _ _ _ _ _ _
  refine ga_if ok ?_
  simp only [go_sem, bas, basL, Nat.reduceAdd, Nat.reduceSub, Nat.reduceMul, Nat.reduceLT, Nat.reduceLeDiff, Nat.reduceEqDiff, Nat.reduceBEq, Int.reduceLT, Int.reduceLE, Int.reduceToNat, Int.reduceAdd, Int.reduceSub, Int.reduceMul, Int.reduceNeg, Int.reduceEq, reduceCtorEq, eq_self, ne_eq, not_false_eq_true, if_true, reduceIte]
  clear hr hr1 hr2 hr3 hr4 hr5
  refine ga_skip ?_
  show GA _ _ _ _ _ _
  refine ga_seq (ga_seq (ga_abs ok fun _ _ _ _ => abs_region fun K hK => ?_))
  simp only [go_sem, bas, basL, Nat.reduceAdd, Nat.reduceSub, Nat.reduceMul, Nat.reduceLT, Nat.reduceLeDiff, Nat.reduceEqDiff, Nat.reduceBEq, Int.reduceLT, Int.reduceLE, Int.reduceToNat, Int.reduceAdd, Int.reduceSub, Int.reduceMul, Int.reduceNeg, Int.reduceEq, reduceCtorEq, eq_self, ne_eq, not_false_eq_true, if_true, reduceIte]
  refine hK _ ?_
  clear hK K
  show GA _ _ _ _ _ _
  refine ga_block ?_
  refine ga_loop ok (κ := Nat) (fun j => [(0, .val v), (1, i64 left), (2, .ro [i64 cl]), (3, .ro [.val (.func (.yield l) #[] #[])]), (4, .ro [i64 step]), (5, .ro [.val (.func (.func 103) #[] ⟨lb⟩)]), (9, i64 (step * (j : Int)))])
    (fun j => (true, k + (preO step r ys left j).length)) (fun j => j ≤ N) (fun j => N - j) (fun _ _ => rfl) 0 (Nat.zero_le _) (by simp [preO]) (le_of rfl (by try simp only [go_sem, bas, basL, Nat.reduceAdd, Nat.reduceSub, Nat.reduceMul, Nat.reduceLT, Nat.reduceLeDiff, Nat.reduceEqDiff, Nat.reduceBEq, Int.reduceLT, Int.reduceLE, Int.reduceToNat, Int.reduceAdd, Int.reduceSub, Int.reduceMul, Int.reduceNeg, Int.reduceEq, reduceCtorEq, eq_self, ne_eq, not_false_eq_true, if_true, reduceIte]; try simp) ⟨_, rfl⟩ ⟨_, rfl⟩) (fun j hj => ?_)
  have hs := hlt j
  have hn0 : 0 ≤ step * (j : Int) := Int.mul_nonneg (by omega) (by omega)
  have hstep : step * (j : Int) + step = step * ((j + 1 : Nat) : Int) := by rw [Int.natCast_succ, Int.mul_add, Int.mul_one]
  generalize hn : step * (j : Int) = n at *
  simp only [go_sem, bas, basL, Nat.reduceAdd, Nat.reduceSub, Nat.reduceMul, Nat.reduceLT, Nat.reduceLeDiff, Nat.reduceEqDiff, Nat.reduceBEq, Int.reduceLT, Int.reduceLE, Int.reduceToNat, Int.reduceAdd, Int.reduceSub, Int.reduceMul, Int.reduceNeg, Int.reduceEq, reduceCtorEq, eq_self, ne_eq, not_false_eq_true, if_true, reduceIte]
  repeat' (first
    | refine ga_seq ?_
    | refine ga_block ?_
    | refine ga_skip ?_
    | refine ga_exit ?_
    | refine ga_ret ?_
    | (refine ga_if ok ?_; simp only [go_sem, bas, basL, Nat.reduceAdd, Nat.reduceSub, Nat.reduceMul, Nat.reduceLT, Nat.reduceLeDiff, Nat.reduceEqDiff, Nat.reduceBEq, Int.reduceLT, Int.reduceLE, Int.reduceToNat, Int.reduceAdd, Int.reduceSub, Int.reduceMul, Int.reduceNeg, Int.reduceEq, reduceCtorEq, eq_self, ne_eq, not_false_eq_true, if_true, reduceIte])
    | (refine ga_abs ok fun w0 S0 M0 oq => abs_region fun K hK => ?_; simp only [go_sem, bas, basL, Nat.reduceAdd, Nat.reduceSub, Nat.reduceMul, Nat.reduceLT, Nat.reduceLeDiff, Nat.reduceEqDiff, Nat.reduceBEq, Int.reduceLT, Int.reduceLE, Int.reduceToNat, Int.reduceAdd, Int.reduceSub, Int.reduceMul, Int.reduceNeg, Int.reduceEq, reduceCtorEq, eq_self, ne_eq, not_false_eq_true, if_true, reduceIte])
    | (refine hK _ ?_; clear hK K; simp only [thenG, blockG, if_true, Nat.reduceEqDiff, reduceIte])
    | (show thenG _ _ _ _ _; simp only [thenG, blockG, if_true, Nat.reduceEqDiff, reduceIte])
    | (show blockG _ _ _ _ _; simp only [thenG, blockG, if_true, Nat.reduceEqDiff, reduceIte])
    | (intro hg; first | (exfalso; omega) | (exfalso; contradiction) | skip)
    | apply And.intro
    | (with_reducible rfl)
    | (clear hK; omega)
    | omega)
  · have hnl : n ≤ left := by omega
    have hjN : j < N := by omega
    refine ga_le ok (st6 l v v ys left cl step (.func (.func 103) #[] ⟨lb⟩) n (fun _ => false) true) ⟨rfl, fun m => by
      simp only [st6, sl6, cond_false, Bool.false_and]
      split <;> first | exact .inl rfl | exact .inr rfl, ⟨[], rfl⟩, ⟨[], rfl⟩⟩ (st6_named _ _ _ _ _ _ _ _ _ _ _) ?_
    refine node_reg (by kernel_rfl) l xss J Jx cl step left lb T0 _ _ _ v ys k (preO step r ys left j).length (srch step r (ys ++ [n]) (left - n)).length n _ hE (by omega) hl ⟨hn0, hnl⟩ hlb (by simp) (hS n hn0 hnl) hrel (fun q hq => ?_) _ (fun b k' v' hk' => ?_)
    · have hq' : q < (srch step r (ys ++ [n]) (left - n)).length := by simpa using hq
      have h3 := preO_at step r ys left j N hjN q (by rw [hn]; exact hq')
      rw [hn] at h3
      have h4 := hout ((preO step r ys left j).length + q) (by simpa using h3.1)
      rw [← Nat.add_assoc] at h4
      rw [h4, List.getElem?_map, h3.2, List.getElem?_map]
    · have hb37 : (st6 l v v' ys left cl step (.func (.func 103) #[] ⟨lb⟩) n (fun j => decide (j < 10)) b).ev (.tmp 37) = .bool (!b) := rfl
      simp only [thenG]
      refine ga_if ok ?_
      rw [hb37]
      simp only [wBool]
      refine ⟨fun h => ?_, fun h => ?_⟩
      · have hbf : b = false := by simpa using h
        subst hbf
        refine ga_seq (ga_abs ok fun _ _ _ _ => abs_region fun K hK => ?_)
        simp only [st6]
        simp only [go_sem, bas, basL, Nat.reduceAdd, Nat.reduceSub, Nat.reduceMul, Nat.reduceLT, Nat.reduceLeDiff, Nat.reduceEqDiff, Nat.reduceBEq, Int.reduceLT, Int.reduceLE, Int.reduceToNat, Int.reduceAdd, Int.reduceSub, Int.reduceMul, Int.reduceNeg, Int.reduceEq, reduceCtorEq, eq_self, ne_eq, not_false_eq_true, if_true, reduceIte]
        refine hK _ ?_
        clear hK K
        show GA _ _ _ _ _ _
        refine ga_ret ⟨rfl, fun h => by cases h⟩
      · have hbt : b = true := by simpa using h
        subst hbt
        refine ga_skip ?_
        simp only [blockG, thenG]
        refine ga_abs ok fun _ _ _ _ => abs_region fun K hK => ?_
        have g9 : sl6 l v v' ys left cl step (.func (.func 103) #[] ⟨lb⟩) n (fun j => decide (j < 10)) true 9 = i64 n := rfl
        have g4 : sl6 l v v' ys left cl step (.func (.func 103) #[] ⟨lb⟩) n (fun j => decide (j < 10)) true 4 = .ro [i64 step] := rfl
        simp only [st6]
        simp only [go_sem, bas, basL, Nat.reduceAdd, Nat.reduceSub, Nat.reduceMul, Nat.reduceLT, Nat.reduceLeDiff, Nat.reduceEqDiff, Nat.reduceBEq, Int.reduceLT, Int.reduceLE, Int.reduceToNat, Int.reduceAdd, Int.reduceSub, Int.reduceMul, Int.reduceNeg, Int.reduceEq, reduceCtorEq, eq_self, ne_eq, not_false_eq_true, if_true, reduceIte, g9, g4]
        refine ⟨by simp only [InR]; omega, hK _ ?_⟩
        clear hK K
        refine ⟨j + 1, by omega, by omega, ?_, ?_⟩
        · rw [hk' rfl, preO_succ, hn]; simp; omega
        · rw [← hstep]
          refine le_of rfl (fun p hp => ?_) ⟨[], rfl⟩ ⟨[], rfl⟩
          simp only [List.mem_cons, List.mem_nil_iff, or_false] at hp
          rcases hp with rfl | rfl | rfl | rfl | rfl | rfl | rfl <;> rfl
  · simp only [go_sem, bas, basL, Nat.reduceAdd, Nat.reduceSub, Nat.reduceMul, Nat.reduceLT, Nat.reduceLeDiff, Nat.reduceEqDiff, Nat.reduceBEq, Int.reduceLT, Int.reduceLE, Int.reduceToNat, Int.reduceAdd, Int.reduceSub, Int.reduceMul, Int.reduceNeg, Int.reduceEq, reduceCtorEq, eq_self, ne_eq, not_false_eq_true, if_true, reduceIte]
  · obtain rfl : j = N := by omega
    simp
end Go.Proofs.Ythamljpomhjepaa
