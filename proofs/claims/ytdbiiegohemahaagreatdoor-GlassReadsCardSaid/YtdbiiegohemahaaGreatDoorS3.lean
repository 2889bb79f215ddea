import Derived.Test.YtdbiiegohemahaaGreatDoorS1
set_option linter.unusedVariables false
set_option linter.unusedSimpArgs false
namespace Go.Proofs.YtdbiiegohemahaaGreatDoor
open Go.Ab
attribute [local irreducible] Abs CallK CallR CallsTo IA
theorem mulB {a b A B : Int} (h0 : 0 ≤ a) (h1 : a ≤ A) (h2 : 0 ≤ b) (h3 : b ≤ B) : 0 ≤ a * b ∧ a * b ≤ A * B :=
  ⟨Int.mul_nonneg h0 h2, Int.le_trans (Int.mul_le_mul_of_nonneg_right h1 h2) (Int.mul_le_mul_of_nonneg_left h3 (by omega))⟩
/-- A byte. -/
def byteAt (s : ByteArray) (k : Nat) : Int := if h : k < s.size then ((s[k]'h).toNat : Int) else 0
theorem byteAt_eq {s : ByteArray} {k : Nat} (h : k < s.size) : byteAt s k = ((s[k]'h).toNat : Int) := by unfold byteAt; rw [dif_pos h]
def Ascii (s : ByteArray) : Prop := ∀ k (h : k < s.size), (s[k]'h).toNat < 128
/-- The sum and the number of the digits so far. -/
def sealS (s : ByteArray) : Nat → Int × Int
  | 0 => (0, 0)
  | k + 1 => if 48 ≤ byteAt s k ∧ byteAt s k ≤ 57 then ((sealS s k).1 + (byteAt s k - 48) * (1 + (sealS s k).2 % 8), (sealS s k).2 + 1) else sealS s k
theorem sealS_bd (s : ByteArray) : ∀ k, (0 ≤ (sealS s k).1 ∧ (sealS s k).1 ≤ 72 * k) ∧ 0 ≤ (sealS s k).2 ∧ (sealS s k).2 ≤ k
  | 0 => by simp [sealS]
  | k + 1 => by
    have := sealS_bd s k
    simp only [sealS]
    split
    · have := mulB (a := byteAt s k - 48) (b := 1 + (sealS s k).2 % 8) (A := 9) (B := 8) (by omega) (by omega) (by omega) (by omega)
      simp only
      omega
    · omega
def endW : ByteArray := ⟨#[101, 110, 100]⟩
def lastB (s : ByteArray) : ByteArray := joinB [endW, itoa ((sealS s s.size).1 % 97 / 10) ++ itoa ((sealS s s.size).1 % 97 % 10)] sp ++ nl
set_option maxRecDepth 100000 in
set_option maxHeartbeats 4000000 in
theorem last_ok (s : ByteArray) (hs : s.size ≤ 100000) (ha : Ascii s) (hlen : (Lib.join ([endW, itoa ((sealS s s.size).1 % 97 / 10) ++ itoa ((sealS s s.size).1 % 97 % 10)].map (·.data.toList)) sp.data.toList).length ≤ 1000000)
    (hlen2 : (itoa ((sealS s s.size).1 % 97 / 10)).size + (itoa ((sealS s s.size).1 % 97 % 10)).size ≤ 1000) : CallsTo Tryz.prog 26 [.str s] (.str (lastB s)) := by
  have hb := sealS_bd s s.size
  refine calls_abs Tryz.func26 Tryz.ntmps26 Tryz.results26 Tryz.call26 rfl (by simp) fun w0 S0 M0 => ?_
  refine abs_seq ?_
  refine abs_region fun K hK => ?_
  simp -implicitDefEqProofs only [go_sem, bas, basL, Nat.reduceAdd, Nat.reduceSub, Nat.reduceMul, Nat.reduceLT, Nat.reduceLeDiff, Nat.reduceEqDiff, Nat.reduceBEq, Int.reduceLT, Int.reduceLE, Int.reduceToNat, Int.reduceAdd, Int.reduceSub, Int.reduceMul, Int.reduceNeg, Int.reduceEq, reduceCtorEq, eq_self, ne_eq, not_false_eq_true, if_true, reduceIte]
  refine hK _ ?_; clear hK K; simp only [thenQ]
  refine abs_seq ?_
  refine abs_region fun K hK => ?_
  simp -implicitDefEqProofs only [go_sem, bas, basL, Nat.reduceAdd, Nat.reduceSub, Nat.reduceMul, Nat.reduceLT, Nat.reduceLeDiff, Nat.reduceEqDiff, Nat.reduceBEq, Int.reduceLT, Int.reduceLE, Int.reduceToNat, Int.reduceAdd, Int.reduceSub, Int.reduceMul, Int.reduceNeg, Int.reduceEq, reduceCtorEq, eq_self, ne_eq, not_false_eq_true, if_true, reduceIte]
  refine hK _ ?_; clear hK K; simp only [thenQ]
  refine abs_seq ?_
  refine abs_rangeStr (str := s) rfl (by kernel_rfl) ha (by show 7 < 40; decide) (by show 8 < 40; decide) (by show 9 < 40; decide) (by show 10 < 40; decide) (by decide) rfl rfl rfl (fun k => [(3, i64 (sealS s k).1), (4, i64 (sealS s k).2)]) (fun k => rfl) (fun B => le_of rfl (by try simp -implicitDefEqProofs only [go_sem, bas, basL, Nat.reduceAdd, Nat.reduceSub, Nat.reduceMul, Nat.reduceLT, Nat.reduceLeDiff, Nat.reduceEqDiff, Nat.reduceBEq, Int.reduceLT, Int.reduceLE, Int.reduceToNat, Int.reduceAdd, Int.reduceSub, Int.reduceMul, Int.reduceNeg, Int.reduceEq, reduceCtorEq, eq_self, ne_eq, not_false_eq_true, if_true, reduceIte]; try simp [sealS]) ⟨_, rfl⟩ ⟨_, rfl⟩) (fun B k hk w1 S1 M1 o1 => ?_) (fun B => ?_)
  · have hbk := sealS_bd s k
    have hak := ha k hk
    rw [show (D.int .i32 ((s[k]'hk).toNat : Int)) = .int .i32 (byteAt s k) by rw [byteAt_eq hk]]
    have hby : 0 ≤ byteAt s k ∧ byteAt s k < 128 := by rw [byteAt_eq hk]; omega
    have e1 : Int.tmod (sealS s k).2 8 = (sealS s k).2 % 8 := Int.tmod_eq_emod_of_nonneg (by omega)
    by_cases hd : 48 ≤ byteAt s k ∧ byteAt s k ≤ 57
    · have hm := mulB (a := byteAt s k - 48) (b := 1 + (sealS s k).2 % 8) (A := 9) (B := 8) (by omega) (by omega) (by omega) (by omega)
      have e5 : sealS s (k + 1) = ((sealS s k).1 + (byteAt s k - 48) * (1 + (sealS s k).2 % 8), (sealS s k).2 + 1) := by simp only [sealS]; rw [if_pos hd]
      show Abs ⟨Tryz.prog, w1, S1, M1, none, o1, []⟩ _ _ _
      simp -implicitDefEqProofs only [go_sem, bas, basL, Nat.reduceAdd, Nat.reduceSub, Nat.reduceMul, Nat.reduceLT, Nat.reduceLeDiff, Nat.reduceEqDiff, Nat.reduceBEq, Int.reduceLT, Int.reduceLE, Int.reduceToNat, Int.reduceAdd, Int.reduceSub, Int.reduceMul, Int.reduceNeg, Int.reduceEq, reduceCtorEq, eq_self, ne_eq, not_false_eq_true, if_true, reduceIte, e1]
      repeat' (first
          | refine abs_seq ?_
          | refine abs_block ?_
          | refine abs_skip ?_
          | refine abs_scope ?_
          | refine abs_label ?_
          | refine abs_exit ?_
          | refine abs_ret ?_
          | ((first | refine abs_region fun K hK => ?_ | refine abs_draw Tryz.ty.mixed (by kernel_rfl) fun K hK => ?_ | refine abs_if ?_ | show retQ _ _ _ _ _); simp -implicitDefEqProofs only [go_sem, bas, basL, Nat.reduceAdd, Nat.reduceSub, Nat.reduceMul, Nat.reduceLT, Nat.reduceLeDiff, Nat.reduceEqDiff, Nat.reduceBEq, Int.reduceLT, Int.reduceLE, Int.reduceToNat, Int.reduceAdd, Int.reduceSub, Int.reduceMul, Int.reduceNeg, Int.reduceEq, reduceCtorEq, eq_self, ne_eq, not_false_eq_true, if_true, reduceIte, e1])
          | ((first | (refine hK _ ?_; clear hK K) | show thenQ _ _ _ _ | show blockQ _ _ _ _ | show noGoQ _ _ _); simp only [noGoQ, thenQ, blockQ, if_true, Nat.reduceEqDiff, reduceIte])
          | (intro hg; first | (exfalso; omega) | (exfalso; contradiction) | skip)
          | apply And.intro
          | (with_reducible rfl)
          | (clear hK; omega)
          | omega)
      all_goals first | trivial | exact le_of rfl (by try simp -implicitDefEqProofs only [go_sem, bas, basL, Nat.reduceAdd, Nat.reduceSub, Nat.reduceMul, Nat.reduceLT, Nat.reduceLeDiff, Nat.reduceEqDiff, Nat.reduceBEq, Int.reduceLT, Int.reduceLE, Int.reduceToNat, Int.reduceAdd, Int.reduceSub, Int.reduceMul, Int.reduceNeg, Int.reduceEq, reduceCtorEq, eq_self, ne_eq, not_false_eq_true, if_true, reduceIte, e1]; try simp [e5]) ⟨_, rfl⟩ ⟨_, rfl⟩
    · have e5 : sealS s (k + 1) = sealS s k := by simp only [sealS]; rw [if_neg hd]
      show Abs ⟨Tryz.prog, w1, S1, M1, none, o1, []⟩ _ _ _
      simp -implicitDefEqProofs only [go_sem, bas, basL, Nat.reduceAdd, Nat.reduceSub, Nat.reduceMul, Nat.reduceLT, Nat.reduceLeDiff, Nat.reduceEqDiff, Nat.reduceBEq, Int.reduceLT, Int.reduceLE, Int.reduceToNat, Int.reduceAdd, Int.reduceSub, Int.reduceMul, Int.reduceNeg, Int.reduceEq, reduceCtorEq, eq_self, ne_eq, not_false_eq_true, if_true, reduceIte, e1]
      repeat' (first
          | refine abs_seq ?_
          | refine abs_block ?_
          | refine abs_skip ?_
          | refine abs_scope ?_
          | refine abs_label ?_
          | refine abs_exit ?_
          | refine abs_ret ?_
          | ((first | refine abs_region fun K hK => ?_ | refine abs_draw Tryz.ty.mixed (by kernel_rfl) fun K hK => ?_ | refine abs_if ?_ | show retQ _ _ _ _ _); simp -implicitDefEqProofs only [go_sem, bas, basL, Nat.reduceAdd, Nat.reduceSub, Nat.reduceMul, Nat.reduceLT, Nat.reduceLeDiff, Nat.reduceEqDiff, Nat.reduceBEq, Int.reduceLT, Int.reduceLE, Int.reduceToNat, Int.reduceAdd, Int.reduceSub, Int.reduceMul, Int.reduceNeg, Int.reduceEq, reduceCtorEq, eq_self, ne_eq, not_false_eq_true, if_true, reduceIte, e1])
          | ((first | (refine hK _ ?_; clear hK K) | show thenQ _ _ _ _ | show blockQ _ _ _ _ | show noGoQ _ _ _); simp only [noGoQ, thenQ, blockQ, if_true, Nat.reduceEqDiff, reduceIte])
          | (intro hg; first | (exfalso; omega) | (exfalso; contradiction) | skip)
          | apply And.intro
          | (with_reducible rfl)
          | (clear hK; omega)
          | omega)
      all_goals first | trivial | exact le_of rfl (by try simp -implicitDefEqProofs only [go_sem, bas, basL, Nat.reduceAdd, Nat.reduceSub, Nat.reduceMul, Nat.reduceLT, Nat.reduceLeDiff, Nat.reduceEqDiff, Nat.reduceBEq, Int.reduceLT, Int.reduceLE, Int.reduceToNat, Int.reduceAdd, Int.reduceSub, Int.reduceMul, Int.reduceNeg, Int.reduceEq, reduceCtorEq, eq_self, ne_eq, not_false_eq_true, if_true, reduceIte, e1]; try simp [e5]) ⟨_, rfl⟩ ⟨_, rfl⟩
  · simp only [thenQ]
    have e2 : Int.tmod (sealS s s.size).1 97 = (sealS s s.size).1 % 97 := Int.tmod_eq_emod_of_nonneg (by omega)
    have e3 : Int.tmod ((sealS s s.size).1 % 97) 10 = (sealS s s.size).1 % 97 % 10 := Int.tmod_eq_emod_of_nonneg (by omega)
    have e4 : Int.tdiv ((sealS s s.size).1 % 97) 10 = (sealS s s.size).1 % 97 / 10 := Int.tdiv_eq_ediv_of_nonneg (by omega)
    simp -implicitDefEqProofs only [go_sem, bas, basL, Nat.reduceAdd, Nat.reduceSub, Nat.reduceMul, Nat.reduceLT, Nat.reduceLeDiff, Nat.reduceEqDiff, Nat.reduceBEq, Int.reduceLT, Int.reduceLE, Int.reduceToNat, Int.reduceAdd, Int.reduceSub, Int.reduceMul, Int.reduceNeg, Int.reduceEq, reduceCtorEq, eq_self, ne_eq, not_false_eq_true, if_true, reduceIte, e2, e3, e4]
    repeat' (first
        | refine abs_seq ?_
        | refine abs_block ?_
        | refine abs_skip ?_
        | refine abs_scope ?_
        | refine abs_label ?_
        | refine abs_exit ?_
        | refine abs_ret ?_
        | ((first | refine abs_region fun K hK => ?_ | refine abs_draw Tryz.ty.mixed (by kernel_rfl) fun K hK => ?_ | refine abs_if ?_ | show retQ _ _ _ _ _ | refine callK (itoa_ok _ (by omega) (by omega)) ?_ | refine callK (line_ok [endW, itoa ((sealS s s.size).1 % 97 / 10) ++ itoa ((sealS s s.size).1 % 97 % 10)] (by simp) (by simp) hlen) ?_); simp -implicitDefEqProofs only [go_sem, bas, basL, Nat.reduceAdd, Nat.reduceSub, Nat.reduceMul, Nat.reduceLT, Nat.reduceLeDiff, Nat.reduceEqDiff, Nat.reduceBEq, Int.reduceLT, Int.reduceLE, Int.reduceToNat, Int.reduceAdd, Int.reduceSub, Int.reduceMul, Int.reduceNeg, Int.reduceEq, reduceCtorEq, eq_self, ne_eq, not_false_eq_true, if_true, reduceIte, e2, e3, e4])
        | ((first | (refine hK _ ?_; clear hK K) | show thenQ _ _ _ _ | show blockQ _ _ _ _ | show noGoQ _ _ _); simp only [noGoQ, thenQ, blockQ, if_true, Nat.reduceEqDiff, reduceIte])
        | (intro hg; first | (exfalso; omega) | (exfalso; contradiction) | skip)
        | apply And.intro
        | (with_reducible rfl)
        | (clear hK; omega)
        | omega)
    rfl
end Go.Proofs.YtdbiiegohemahaaGreatDoor
