import Derived.Test.YthamljpomhjepaaP2
import Derived.Test.YthamljpomhjepaaAbJ
set_option linter.unusedVariables false
set_option linter.unusedSimpArgs false
namespace Go.Proofs.Ythamljpomhjepaa
open Go.Ab
attribute [local irreducible] Abs CallK CallR CallsTo IA
set_option linter.unusedSimpArgs false
/-- Forecast lists fit a day and a district. -/
def FitAt (c : Int) (f : List (List (List Int))) (day dist : Nat) : Prop := day < f.length ∧ dist < (nth f day).length ∧ Small (nth (nth f day) dist) ∧ c = (nth (nth f day) dist).length
def cntB (set : Int) (j : Nat) : Nat := ((List.range j).filter (hasB set)).length
theorem cntB_yes {set : Int} {j : Nat} (h : hasB set j = true) : cntB set (j + 1) = cntB set j + 1 := by
  simp [cntB, List.range_succ, List.filter_append, h]
theorem cntB_no {set : Int} {j : Nat} (h : ¬ hasB set j = true) : cntB set (j + 1) = cntB set j := by
  simp [cntB, List.range_succ, List.filter_append, h]
theorem cntB_at {set : Int} {j n : Nat} (hj : j < n) (h : hasB set j = true) : ((List.range n).filter (hasB set))[cntB set j]? = some j := by
  have e : List.range n = List.range j ++ (j :: List.range' (j + 1) (n - (j + 1))) := by
    have h1 : List.range n = List.range' 0 n := List.range_eq_range'
    have h2 : List.range j = List.range' 0 j := List.range_eq_range'
    rw [h1, h2]
    have h3 : n = j + (1 + (n - (j + 1))) := by omega
    conv => lhs; rw [h3]
    rw [← List.range'_append_1, ← List.range'_append_1]
    simp
  rw [e, List.filter_append, List.getElem?_append_right (by exact Nat.le_refl _)]
  simp [cntB, List.filter_cons, h]

set_option maxRecDepth 100000 in
set_option maxHeartbeats 4000000 in
theorem pts_iterA (c : Int) (W : List Int) (S : List (List Int)) (own : List (List (List Int))) (day dist : Nat) (hd : day < S.length) (hk : dist < (nth S day).length)
    (hs : 0 ≤ nth (nth S day) dist ∧ nth (nth S day) dist ≤ 1000) (ho : FitAt c own day dist) (hw : dist < W.length) (hw2 : 0 ≤ nth W dist ∧ nth W dist ≤ 100) :
    Iter Try.prog 133 [.ro [i64 c, ints W, intss S, intsss own, .val (.slice none 0 0)], .ro [i64 day], .ro [i64 dist]]
      ((((List.range c.toNat).filter (hasB (nth (nth S day) dist))).map fun k => (Gn (nth (nth own day) dist) k - 0) * nth W dist).map fun x => [i64 x]) := by
  obtain ⟨o1, o2, o3, o4⟩ := ho
  have hc3 : c.toNat ≤ 3 := by have := o3.1; omega
  generalize hset : nth (nth S day) dist = set at *
  refine iter_of_ia Try.func133 Try.ntmps133 Try.results133 Try.call133 rfl (by simp) fun l J Jx => ?_
  repeat' (first
      | refine ia_seq ?_
      | refine ia_block ?_
      | refine ia_scope ?_
      | refine ia_label ?_
      | refine ia_skip ?_
      | refine ia_exit ?_
      | refine ia_ret ?_
      | (refine ia_if ?_; simp only [go_sem, bas, basL, Nat.reduceAdd, Nat.reduceSub, Nat.reduceMul, Nat.reduceLT, Nat.reduceLeDiff, Nat.reduceEqDiff, Nat.reduceBEq, Int.reduceLT, Int.reduceLE, Int.reduceToNat, Int.reduceAdd, Int.reduceSub, Int.reduceMul, Int.reduceNeg, Int.reduceEq, reduceCtorEq, eq_self, ne_eq, not_false_eq_true, if_true, reduceIte])
      | (refine ia_abs fun w0 S0 M0 oq => abs_region fun K hK => ?_; simp only [go_sem, bas, basL, Nat.reduceAdd, Nat.reduceSub, Nat.reduceMul, Nat.reduceLT, Nat.reduceLeDiff, Nat.reduceEqDiff, Nat.reduceBEq, Int.reduceLT, Int.reduceLE, Int.reduceToNat, Int.reduceAdd, Int.reduceSub, Int.reduceMul, Int.reduceNeg, Int.reduceEq, reduceCtorEq, eq_self, ne_eq, not_false_eq_true, if_true, reduceIte])
      | (refine ia_abs fun w0 S0 M0 oq => abs_draw Try.ty.mixed (by kernel_rfl) fun K hK => ?_; simp only [go_sem, bas, basL, Nat.reduceAdd, Nat.reduceSub, Nat.reduceMul, Nat.reduceLT, Nat.reduceLeDiff, Nat.reduceEqDiff, Nat.reduceBEq, Int.reduceLT, Int.reduceLE, Int.reduceToNat, Int.reduceAdd, Int.reduceSub, Int.reduceMul, Int.reduceNeg, Int.reduceEq, reduceCtorEq, eq_self, ne_eq, not_false_eq_true, if_true, reduceIte])
      | (refine hK _ ?_; clear hK K; simp only [thenI, blockI, if_true, Nat.reduceEqDiff, reduceIte])
      | (show thenI _ _ _ _ _; simp only [thenI, blockI, if_true, Nat.reduceEqDiff, reduceIte])
      | (show noGoI _ _ _ _; simp only [noGoI, thenI, blockI, if_true, Nat.reduceEqDiff, reduceIte])
      | (show blockI _ _ _ _ _; simp only [thenI, blockI, if_true, Nat.reduceEqDiff, reduceIte])
      | (intro hg; first | (exfalso; omega) | (exfalso; contradiction) | skip)
      | apply And.intro
      | (with_reducible rfl)
      | (clear hK; omega)
      | omega)
  refine ia_loop (ι := Nat) (fun j => [(0, .val (.func (.yield l) #[] #[])), (1, .ro [i64 c, ints W, intss S, intsss own, .val (.slice none 0 0)]), (2, .ro [i64 day]), (3, .ro [i64 dist]), (9, i64 c), (10, i64 j)]) (fun j => (true, cntB set j)) (fun j => j ≤ c.toNat) (fun j => c.toNat - j) (fun _ _ => rfl) 0 (Nat.zero_le _) rfl (le_of rfl (by try simp only [go_sem, bas, basL, Nat.reduceAdd, Nat.reduceSub, Nat.reduceMul, Nat.reduceLT, Nat.reduceLeDiff, Nat.reduceEqDiff, Nat.reduceBEq, Int.reduceLT, Int.reduceLE, Int.reduceToNat, Int.reduceAdd, Int.reduceSub, Int.reduceMul, Int.reduceNeg, Int.reduceEq, reduceCtorEq, eq_self, ne_eq, not_false_eq_true, if_true, reduceIte]; try simp) ⟨_, rfl⟩ ⟨_, rfl⟩) (fun j hj => ?_)
  have hf : set.fdiv (2 ^ j) = set / 2 ^ j := Int.fdiv_eq_ediv_of_nonneg _ (Int.pow_nonneg (by decide))
  have hb : 0 ≤ set / 2 ^ j ∧ set / 2 ^ j ≤ 1000 := ⟨Int.ediv_nonneg hs.1 (Int.pow_nonneg (by decide)), Int.le_trans (Int.ediv_le_self _ hs.1) hs.2⟩
  have hG := Gn_bd o3 j
  have g3 := o3
  have hm := mul_abs (a := nth W dist) (b := Gn (nth (nth own day) dist) j) (A := 100) (B := 50000) hw2.1 hw2.2 (by omega) (by omega)
  have hgn : (1 : Nat) ≠ 0 := by decide
  rw [Int.mul_comm (nth W dist)] at hm
  simp only [go_sem, bas, basL, Nat.reduceAdd, Nat.reduceSub, Nat.reduceMul, Nat.reduceLT, Nat.reduceLeDiff, Nat.reduceEqDiff, Nat.reduceBEq, Int.reduceLT, Int.reduceLE, Int.reduceToNat, Int.reduceAdd, Int.reduceSub, Int.reduceMul, Int.reduceNeg, Int.reduceEq, reduceCtorEq, eq_self, ne_eq, not_false_eq_true, if_true, reduceIte]
  repeat' (first
      | refine ia_seq ?_
      | refine ia_block ?_
      | refine ia_scope ?_
      | refine ia_label ?_
      | refine ia_skip ?_
      | refine ia_exit ?_
      | refine ia_ret ?_
      | (refine ia_if ?_; simp only [go_sem, bas, basL, Nat.reduceAdd, Nat.reduceSub, Nat.reduceMul, Nat.reduceLT, Nat.reduceLeDiff, Nat.reduceEqDiff, Nat.reduceBEq, Int.reduceLT, Int.reduceLE, Int.reduceToNat, Int.reduceAdd, Int.reduceSub, Int.reduceMul, Int.reduceNeg, Int.reduceEq, reduceCtorEq, eq_self, ne_eq, not_false_eq_true, if_true, reduceIte])
      | ((rw [hset]))
      | ((rw [hf]))
      | ((refine callK (pgain_ok _ o3 j (by omega) (by omega)) ?_; try simp only [go_sem, bas, basL, Nat.reduceAdd, Nat.reduceSub, Nat.reduceMul, Nat.reduceLT, Nat.reduceLeDiff, Nat.reduceEqDiff, Nat.reduceBEq, Int.reduceLT, Int.reduceLE, Int.reduceToNat, Int.reduceAdd, Int.reduceSub, Int.reduceMul, Int.reduceNeg, Int.reduceEq, reduceCtorEq, eq_self, ne_eq, not_false_eq_true, if_true, reduceIte]))
      | ((refine callK (pgain_ok _ g3 j (by omega) (by omega)) ?_; try simp only [go_sem, bas, basL, Nat.reduceAdd, Nat.reduceSub, Nat.reduceMul, Nat.reduceLT, Nat.reduceLeDiff, Nat.reduceEqDiff, Nat.reduceBEq, Int.reduceLT, Int.reduceLE, Int.reduceToNat, Int.reduceAdd, Int.reduceSub, Int.reduceMul, Int.reduceNeg, Int.reduceEq, reduceCtorEq, eq_self, ne_eq, not_false_eq_true, if_true, reduceIte]))
      | ((refine ia_yieldAt 9 rfl fun K1 hK1 => ?_; simp only [go_sem, bas, basL, Nat.reduceAdd, Nat.reduceSub, Nat.reduceMul, Nat.reduceLT, Nat.reduceLeDiff, Nat.reduceEqDiff, Nat.reduceBEq, Int.reduceLT, Int.reduceLE, Int.reduceToNat, Int.reduceAdd, Int.reduceSub, Int.reduceMul, Int.reduceNeg, Int.reduceEq, reduceCtorEq, eq_self, ne_eq, not_false_eq_true, if_true, reduceIte]))
      | ((exact fun e => hgn (by simpa using e)))
      | ((exact fun x hx => by obtain ⟨y, _, rfl⟩ := List.mem_map.1 hx; simp [D.cells]))
      | (refine hK1 _ _ rfl rfl ?_ ?_ (fun b => ?_); rotate_left; (simp only [go_sem, bas, basL, Nat.reduceAdd, Nat.reduceSub, Nat.reduceMul, Nat.reduceLT, Nat.reduceLeDiff, Nat.reduceEqDiff, Nat.reduceBEq, Int.reduceLT, Int.reduceLE, Int.reduceToNat, Int.reduceAdd, Int.reduceSub, Int.reduceMul, Int.reduceNeg, Int.reduceEq, reduceCtorEq, eq_self, ne_eq, not_false_eq_true, if_true, reduceIte]); (simp only [go_sem, bas, basL, Nat.reduceAdd, Nat.reduceSub, Nat.reduceMul, Nat.reduceLT, Nat.reduceLeDiff, Nat.reduceEqDiff, Nat.reduceBEq, Int.reduceLT, Int.reduceLE, Int.reduceToNat, Int.reduceAdd, Int.reduceSub, Int.reduceMul, Int.reduceNeg, Int.reduceEq, reduceCtorEq, eq_self, ne_eq, not_false_eq_true, if_true, reduceIte]))
      | (refine ia_abs fun w0 S0 M0 oq => abs_region fun K hK => ?_; simp only [go_sem, bas, basL, Nat.reduceAdd, Nat.reduceSub, Nat.reduceMul, Nat.reduceLT, Nat.reduceLeDiff, Nat.reduceEqDiff, Nat.reduceBEq, Int.reduceLT, Int.reduceLE, Int.reduceToNat, Int.reduceAdd, Int.reduceSub, Int.reduceMul, Int.reduceNeg, Int.reduceEq, reduceCtorEq, eq_self, ne_eq, not_false_eq_true, if_true, reduceIte])
      | (refine ia_abs fun w0 S0 M0 oq => abs_draw Try.ty.mixed (by kernel_rfl) fun K hK => ?_; simp only [go_sem, bas, basL, Nat.reduceAdd, Nat.reduceSub, Nat.reduceMul, Nat.reduceLT, Nat.reduceLeDiff, Nat.reduceEqDiff, Nat.reduceBEq, Int.reduceLT, Int.reduceLE, Int.reduceToNat, Int.reduceAdd, Int.reduceSub, Int.reduceMul, Int.reduceNeg, Int.reduceEq, reduceCtorEq, eq_self, ne_eq, not_false_eq_true, if_true, reduceIte])
      | (refine hK _ ?_; clear hK K; simp only [thenI, blockI, if_true, Nat.reduceEqDiff, reduceIte])
      | (show thenI _ _ _ _ _; simp only [thenI, blockI, if_true, Nat.reduceEqDiff, reduceIte])
      | (show noGoI _ _ _ _; simp only [noGoI, thenI, blockI, if_true, Nat.reduceEqDiff, reduceIte])
      | (show blockI _ _ _ _ _; simp only [thenI, blockI, if_true, Nat.reduceEqDiff, reduceIte])
      | (intro hg; first | (exfalso; omega) | (exfalso; contradiction) | skip)
      | apply And.intro
      | (with_reducible rfl)
      | (clear hK; omega)
      | omega)
  · have hh : ¬ hasB set j = true := by simp [hasB]; omega
    exact ⟨j + 1, by omega, by omega, by rw [cntB_no hh], le_of rfl (by try simp only [go_sem, bas, basL, Nat.reduceAdd, Nat.reduceSub, Nat.reduceMul, Nat.reduceLT, Nat.reduceLeDiff, Nat.reduceEqDiff, Nat.reduceBEq, Int.reduceLT, Int.reduceLE, Int.reduceToNat, Int.reduceAdd, Int.reduceSub, Int.reduceMul, Int.reduceNeg, Int.reduceEq, reduceCtorEq, eq_self, ne_eq, not_false_eq_true, if_true, reduceIte]; try simp) ⟨_, rfl⟩ ⟨_, rfl⟩⟩
  · simp_all
  · have hh : hasB set j = true := by simp [hasB]; omega
    have hbt : b = true := by simp_all
    subst hbt
    exact ⟨j + 1, by omega, by omega, by rw [cntB_yes hh], le_of rfl (by try simp only [go_sem, bas, basL, Nat.reduceAdd, Nat.reduceSub, Nat.reduceMul, Nat.reduceLT, Nat.reduceLeDiff, Nat.reduceEqDiff, Nat.reduceBEq, Int.reduceLT, Int.reduceLE, Int.reduceToNat, Int.reduceAdd, Int.reduceSub, Int.reduceMul, Int.reduceNeg, Int.reduceEq, reduceCtorEq, eq_self, ne_eq, not_false_eq_true, if_true, reduceIte]; try simp) ⟨_, rfl⟩ ⟨_, rfl⟩⟩
  · have hh : hasB set j = true := by simp [hasB]; omega
    show ((((List.range c.toNat).filter (hasB set)).map fun k => (Gn (nth (nth own day) dist) k - 0) * nth W dist).map fun x => [i64 x])[cntB set j]? = some [i64 _]
    have hjc : j < c.toNat := by omega
    simp [cntB_at hjc hh]
  · obtain rfl : j = c.toNat := by omega
    simp [cntB]

set_option maxRecDepth 100000 in
set_option maxHeartbeats 4000000 in
theorem pts_iterB (c : Int) (W : List Int) (S : List (List Int)) (own : List (List (List Int))) (g : List (List (List Int))) (day dist : Nat) (hd : day < S.length) (hk : dist < (nth S day).length)
    (hs : 0 ≤ nth (nth S day) dist ∧ nth (nth S day) dist ≤ 1000) (ho : FitAt c own day dist) (hg0 : FitAt c g day dist) (hw : dist < W.length) (hw2 : 0 ≤ nth W dist ∧ nth W dist ≤ 100) :
    Iter Try.prog 133 [.ro [i64 c, ints W, intss S, intsss own, intsss g], .ro [i64 day], .ro [i64 dist]]
      ((((List.range c.toNat).filter (hasB (nth (nth S day) dist))).map fun k => (Gn (nth (nth own day) dist) k - Gn (nth (nth g day) dist) k) * nth W dist).map fun x => [i64 x]) := by
  obtain ⟨o1, o2, o3, o4⟩ := ho
  have hc3 : c.toNat ≤ 3 := by have := o3.1; omega
  generalize hset : nth (nth S day) dist = set at *
  refine iter_of_ia Try.func133 Try.ntmps133 Try.results133 Try.call133 rfl (by simp) fun l J Jx => ?_
  repeat' (first
      | refine ia_seq ?_
      | refine ia_block ?_
      | refine ia_scope ?_
      | refine ia_label ?_
      | refine ia_skip ?_
      | refine ia_exit ?_
      | refine ia_ret ?_
      | (refine ia_if ?_; simp only [go_sem, bas, basL, Nat.reduceAdd, Nat.reduceSub, Nat.reduceMul, Nat.reduceLT, Nat.reduceLeDiff, Nat.reduceEqDiff, Nat.reduceBEq, Int.reduceLT, Int.reduceLE, Int.reduceToNat, Int.reduceAdd, Int.reduceSub, Int.reduceMul, Int.reduceNeg, Int.reduceEq, reduceCtorEq, eq_self, ne_eq, not_false_eq_true, if_true, reduceIte])
      | (refine ia_abs fun w0 S0 M0 oq => abs_region fun K hK => ?_; simp only [go_sem, bas, basL, Nat.reduceAdd, Nat.reduceSub, Nat.reduceMul, Nat.reduceLT, Nat.reduceLeDiff, Nat.reduceEqDiff, Nat.reduceBEq, Int.reduceLT, Int.reduceLE, Int.reduceToNat, Int.reduceAdd, Int.reduceSub, Int.reduceMul, Int.reduceNeg, Int.reduceEq, reduceCtorEq, eq_self, ne_eq, not_false_eq_true, if_true, reduceIte])
      | (refine ia_abs fun w0 S0 M0 oq => abs_draw Try.ty.mixed (by kernel_rfl) fun K hK => ?_; simp only [go_sem, bas, basL, Nat.reduceAdd, Nat.reduceSub, Nat.reduceMul, Nat.reduceLT, Nat.reduceLeDiff, Nat.reduceEqDiff, Nat.reduceBEq, Int.reduceLT, Int.reduceLE, Int.reduceToNat, Int.reduceAdd, Int.reduceSub, Int.reduceMul, Int.reduceNeg, Int.reduceEq, reduceCtorEq, eq_self, ne_eq, not_false_eq_true, if_true, reduceIte])
      | (refine hK _ ?_; clear hK K; simp only [thenI, blockI, if_true, Nat.reduceEqDiff, reduceIte])
      | (show thenI _ _ _ _ _; simp only [thenI, blockI, if_true, Nat.reduceEqDiff, reduceIte])
      | (show noGoI _ _ _ _; simp only [noGoI, thenI, blockI, if_true, Nat.reduceEqDiff, reduceIte])
      | (show blockI _ _ _ _ _; simp only [thenI, blockI, if_true, Nat.reduceEqDiff, reduceIte])
      | (intro hg; first | (exfalso; omega) | (exfalso; contradiction) | skip)
      | apply And.intro
      | (with_reducible rfl)
      | (clear hK; omega)
      | omega)
  refine ia_loop (ι := Nat) (fun j => [(0, .val (.func (.yield l) #[] #[])), (1, .ro [i64 c, ints W, intss S, intsss own, intsss g]), (2, .ro [i64 day]), (3, .ro [i64 dist]), (9, i64 c), (10, i64 j)]) (fun j => (true, cntB set j)) (fun j => j ≤ c.toNat) (fun j => c.toNat - j) (fun _ _ => rfl) 0 (Nat.zero_le _) rfl (le_of rfl (by try simp only [go_sem, bas, basL, Nat.reduceAdd, Nat.reduceSub, Nat.reduceMul, Nat.reduceLT, Nat.reduceLeDiff, Nat.reduceEqDiff, Nat.reduceBEq, Int.reduceLT, Int.reduceLE, Int.reduceToNat, Int.reduceAdd, Int.reduceSub, Int.reduceMul, Int.reduceNeg, Int.reduceEq, reduceCtorEq, eq_self, ne_eq, not_false_eq_true, if_true, reduceIte]; try simp) ⟨_, rfl⟩ ⟨_, rfl⟩) (fun j hj => ?_)
  have hf : set.fdiv (2 ^ j) = set / 2 ^ j := Int.fdiv_eq_ediv_of_nonneg _ (Int.pow_nonneg (by decide))
  have hb : 0 ≤ set / 2 ^ j ∧ set / 2 ^ j ≤ 1000 := ⟨Int.ediv_nonneg hs.1 (Int.pow_nonneg (by decide)), Int.le_trans (Int.ediv_le_self _ hs.1) hs.2⟩
  have hG := Gn_bd o3 j
  obtain ⟨g1, g2, g3, g4⟩ := hg0
  have hG2 := Gn_bd g3 j
  have hm := mul_abs (a := nth W dist) (b := Gn (nth (nth own day) dist) j - Gn (nth (nth g day) dist) j) (A := 100) (B := 50000) hw2.1 hw2.2 (by omega) (by omega)
  rw [Int.mul_comm (nth W dist)] at hm
  have hgn : g ≠ [] := fun e => by rw [e] at g1; cases g1
  simp only [go_sem, bas, basL, Nat.reduceAdd, Nat.reduceSub, Nat.reduceMul, Nat.reduceLT, Nat.reduceLeDiff, Nat.reduceEqDiff, Nat.reduceBEq, Int.reduceLT, Int.reduceLE, Int.reduceToNat, Int.reduceAdd, Int.reduceSub, Int.reduceMul, Int.reduceNeg, Int.reduceEq, reduceCtorEq, eq_self, ne_eq, not_false_eq_true, if_true, reduceIte]
  repeat' (first
      | refine ia_seq ?_
      | refine ia_block ?_
      | refine ia_scope ?_
      | refine ia_label ?_
      | refine ia_skip ?_
      | refine ia_exit ?_
      | refine ia_ret ?_
      | (refine ia_if ?_; simp only [go_sem, bas, basL, Nat.reduceAdd, Nat.reduceSub, Nat.reduceMul, Nat.reduceLT, Nat.reduceLeDiff, Nat.reduceEqDiff, Nat.reduceBEq, Int.reduceLT, Int.reduceLE, Int.reduceToNat, Int.reduceAdd, Int.reduceSub, Int.reduceMul, Int.reduceNeg, Int.reduceEq, reduceCtorEq, eq_self, ne_eq, not_false_eq_true, if_true, reduceIte])
      | ((rw [hset]))
      | ((rw [hf]))
      | ((refine callK (pgain_ok _ o3 j (by omega) (by omega)) ?_; try simp only [go_sem, bas, basL, Nat.reduceAdd, Nat.reduceSub, Nat.reduceMul, Nat.reduceLT, Nat.reduceLeDiff, Nat.reduceEqDiff, Nat.reduceBEq, Int.reduceLT, Int.reduceLE, Int.reduceToNat, Int.reduceAdd, Int.reduceSub, Int.reduceMul, Int.reduceNeg, Int.reduceEq, reduceCtorEq, eq_self, ne_eq, not_false_eq_true, if_true, reduceIte]))
      | ((refine callK (pgain_ok _ g3 j (by omega) (by omega)) ?_; try simp only [go_sem, bas, basL, Nat.reduceAdd, Nat.reduceSub, Nat.reduceMul, Nat.reduceLT, Nat.reduceLeDiff, Nat.reduceEqDiff, Nat.reduceBEq, Int.reduceLT, Int.reduceLE, Int.reduceToNat, Int.reduceAdd, Int.reduceSub, Int.reduceMul, Int.reduceNeg, Int.reduceEq, reduceCtorEq, eq_self, ne_eq, not_false_eq_true, if_true, reduceIte]))
      | ((refine ia_yieldAt 9 rfl fun K1 hK1 => ?_; simp only [go_sem, bas, basL, Nat.reduceAdd, Nat.reduceSub, Nat.reduceMul, Nat.reduceLT, Nat.reduceLeDiff, Nat.reduceEqDiff, Nat.reduceBEq, Int.reduceLT, Int.reduceLE, Int.reduceToNat, Int.reduceAdd, Int.reduceSub, Int.reduceMul, Int.reduceNeg, Int.reduceEq, reduceCtorEq, eq_self, ne_eq, not_false_eq_true, if_true, reduceIte]))
      | ((exact fun e => hgn (by simpa using e)))
      | ((exact fun x hx => by obtain ⟨y, _, rfl⟩ := List.mem_map.1 hx; simp [D.cells]))
      | (refine hK1 _ _ rfl rfl ?_ ?_ (fun b => ?_); rotate_left; (simp only [go_sem, bas, basL, Nat.reduceAdd, Nat.reduceSub, Nat.reduceMul, Nat.reduceLT, Nat.reduceLeDiff, Nat.reduceEqDiff, Nat.reduceBEq, Int.reduceLT, Int.reduceLE, Int.reduceToNat, Int.reduceAdd, Int.reduceSub, Int.reduceMul, Int.reduceNeg, Int.reduceEq, reduceCtorEq, eq_self, ne_eq, not_false_eq_true, if_true, reduceIte]); (simp only [go_sem, bas, basL, Nat.reduceAdd, Nat.reduceSub, Nat.reduceMul, Nat.reduceLT, Nat.reduceLeDiff, Nat.reduceEqDiff, Nat.reduceBEq, Int.reduceLT, Int.reduceLE, Int.reduceToNat, Int.reduceAdd, Int.reduceSub, Int.reduceMul, Int.reduceNeg, Int.reduceEq, reduceCtorEq, eq_self, ne_eq, not_false_eq_true, if_true, reduceIte]))
      | (refine ia_abs fun w0 S0 M0 oq => abs_region fun K hK => ?_; simp only [go_sem, bas, basL, Nat.reduceAdd, Nat.reduceSub, Nat.reduceMul, Nat.reduceLT, Nat.reduceLeDiff, Nat.reduceEqDiff, Nat.reduceBEq, Int.reduceLT, Int.reduceLE, Int.reduceToNat, Int.reduceAdd, Int.reduceSub, Int.reduceMul, Int.reduceNeg, Int.reduceEq, reduceCtorEq, eq_self, ne_eq, not_false_eq_true, if_true, reduceIte])
      | (refine ia_abs fun w0 S0 M0 oq => abs_draw Try.ty.mixed (by kernel_rfl) fun K hK => ?_; simp only [go_sem, bas, basL, Nat.reduceAdd, Nat.reduceSub, Nat.reduceMul, Nat.reduceLT, Nat.reduceLeDiff, Nat.reduceEqDiff, Nat.reduceBEq, Int.reduceLT, Int.reduceLE, Int.reduceToNat, Int.reduceAdd, Int.reduceSub, Int.reduceMul, Int.reduceNeg, Int.reduceEq, reduceCtorEq, eq_self, ne_eq, not_false_eq_true, if_true, reduceIte])
      | (refine hK _ ?_; clear hK K; simp only [thenI, blockI, if_true, Nat.reduceEqDiff, reduceIte])
      | (show thenI _ _ _ _ _; simp only [thenI, blockI, if_true, Nat.reduceEqDiff, reduceIte])
      | (show noGoI _ _ _ _; simp only [noGoI, thenI, blockI, if_true, Nat.reduceEqDiff, reduceIte])
      | (show blockI _ _ _ _ _; simp only [thenI, blockI, if_true, Nat.reduceEqDiff, reduceIte])
      | (intro hg; first | (exfalso; omega) | (exfalso; contradiction) | skip)
      | apply And.intro
      | (with_reducible rfl)
      | (clear hK; omega)
      | omega)
  · have hh : ¬ hasB set j = true := by simp [hasB]; omega
    exact ⟨j + 1, by omega, by omega, by rw [cntB_no hh], le_of rfl (by try simp only [go_sem, bas, basL, Nat.reduceAdd, Nat.reduceSub, Nat.reduceMul, Nat.reduceLT, Nat.reduceLeDiff, Nat.reduceEqDiff, Nat.reduceBEq, Int.reduceLT, Int.reduceLE, Int.reduceToNat, Int.reduceAdd, Int.reduceSub, Int.reduceMul, Int.reduceNeg, Int.reduceEq, reduceCtorEq, eq_self, ne_eq, not_false_eq_true, if_true, reduceIte]; try simp) ⟨_, rfl⟩ ⟨_, rfl⟩⟩
  · simp_all
  · have hh : hasB set j = true := by simp [hasB]; omega
    have hbt : b = true := by simp_all
    subst hbt
    exact ⟨j + 1, by omega, by omega, by rw [cntB_yes hh], le_of rfl (by try simp only [go_sem, bas, basL, Nat.reduceAdd, Nat.reduceSub, Nat.reduceMul, Nat.reduceLT, Nat.reduceLeDiff, Nat.reduceEqDiff, Nat.reduceBEq, Int.reduceLT, Int.reduceLE, Int.reduceToNat, Int.reduceAdd, Int.reduceSub, Int.reduceMul, Int.reduceNeg, Int.reduceEq, reduceCtorEq, eq_self, ne_eq, not_false_eq_true, if_true, reduceIte]; try simp) ⟨_, rfl⟩ ⟨_, rfl⟩⟩
  · have hh : hasB set j = true := by simp [hasB]; omega
    show ((((List.range c.toNat).filter (hasB set)).map fun k => (Gn (nth (nth own day) dist) k - Gn (nth (nth g day) dist) k) * nth W dist).map fun x => [i64 x])[cntB set j]? = some [i64 _]
    have hjc : j < c.toNat := by omega
    simp [cntB_at hjc hh]
  · obtain rfl : j = c.toNat := by omega
    simp [cntB]

/-- What can be had on a day, in a district. -/
def ptsL (c set : Int) (own : List Int) (oth : Option (List Int)) (w : Int) : List Int :=
  ((List.range c.toNat).filter (hasB set)).map fun k => (Gn own k - (match oth with | some o => Gn o k | none => 0)) * w
def othD : Option (List (List (List Int))) → D
  | some g => intsss g
  | none => .val (.slice none 0 0)
theorem pts_iter (c : Int) (W : List Int) (S : List (List Int)) (own : List (List (List Int))) (oth : Option (List (List (List Int)))) (day dist : Nat) (hd : day < S.length) (hk : dist < (nth S day).length)
    (hs : 0 ≤ nth (nth S day) dist ∧ nth (nth S day) dist ≤ 1000) (ho : FitAt c own day dist) (hg : ∀ g, oth = some g → FitAt c g day dist) (hw : dist < W.length) (hw2 : 0 ≤ nth W dist ∧ nth W dist ≤ 100) :
    Iter Try.prog 133 [.ro [i64 c, ints W, intss S, intsss own, othD oth], .ro [i64 day], .ro [i64 dist]]
      ((ptsL c (nth (nth S day) dist) (nth (nth own day) dist) (oth.map fun g => nth (nth g day) dist) (nth W dist)).map fun x => [i64 x]) := by
  cases oth with
  | none => exact pts_iterA c W S own day dist hd hk hs ho hw hw2
  | some g => exact pts_iterB c W S own g day dist hd hk hs ho (hg g rfl) hw hw2
end Go.Proofs.Ythamljpomhjepaa
