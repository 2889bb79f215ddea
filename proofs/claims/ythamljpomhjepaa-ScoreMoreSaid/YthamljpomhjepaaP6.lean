import Derived.Test.YthamljpomhjepaaP4
import Derived.Test.YthamljpomhjepaaP5
set_option linter.unusedVariables false
set_option linter.unusedSimpArgs false
namespace Go.Proofs.Ythamljpomhjepaa
open Go.Ab
attribute [local irreducible] Abs CallK CallR CallsTo
set_option linter.unusedSimpArgs false

/-- A suite with a forecast, from which another one's is taken. -/
structure Sd where
  c : Int
  W : List Int
  S : List (List Int)
  own : List (List (List Int))
  oth : Option (List (List (List Int)))
abbrev Sd.cells (x : Sd) : List D := [i64 x.c, ints x.W, intss x.S, intsss x.own, othD x.oth]
structure Sd.Ok (x : Sd) : Prop where
  su : Suite x.c x.W x.S
  ow : Fore x.c x.W x.S x.own
  ot : ∀ g, x.oth = some g → Fore x.c x.W x.S g
def Sd.pts (x : Sd) (day dist : Nat) : List Int := ptsL x.c (nth (nth x.S day) dist) (nth (nth x.own day) dist) (x.oth.map fun g => nth (nth g day) dist) (nth x.W dist)

@[go_sem] theorem one_nil : (Value.slice none 0 0).oneCell' = true := rfl
theorem fit_of {c : Int} {W : List Int} {S : List (List Int)} {f : List (List (List Int))} (h : Fore c W S f) {day dist : Nat} (hd : day < S.length) (hk : dist < W.length) : FitAt c f day dist := by
  have h1 := h.2 day (by have := h.1; omega)
  have h2 := h1.2 dist (by have := h1.1; omega)
  exact ⟨by have := h.1; omega, by have := h1.1; omega, h2.2.small, h2.1.symm⟩

theorem pts_it (x : Sd) (h : x.Ok) {day dist : Nat} (hd : day < x.S.length) (hk : dist < x.W.length) : Iter Try.prog 133 [.ro x.cells, .ro [i64 day], .ro [i64 dist]] ((x.pts day dist).map fun y => [i64 y]) := by
  obtain ⟨h1, h2, h3, h4, h5⟩ := h.su
  have h6 := h5 day hd
  have h7 := h6.2 dist (by omega)
  have h8 : (2 : Int) ^ x.c.toNat - 1 ≤ 1000 := by
    rcases (by omega : x.c = 2 ∨ x.c = 3) with e | e <;> rw [e] <;> decide
  exact pts_iter x.c x.W x.S x.own x.oth day dist hd (by omega) ⟨by omega, by omega⟩ (fit_of h.ow hd hk) (fun g hg => fit_of (h.ot g hg) hd hk) hk (h4 dist hk)

set_option maxRecDepth 100000 in
set_option maxHeartbeats 4000000 in
theorem ppoints_ok (x : Sd) (day dist : Int) : CallsTo Try.prog 129 [.agg x.cells, i64 day, i64 dist] (.clo 133 [.ro x.cells, .ro [i64 day], .ro [i64 dist]]) := by
  obtain ⟨c, W, S, own, oth⟩ := x
  cases oth with
  | none =>
    refine calls_abs Try.func129 Try.ntmps129 Try.results129 Try.call129 rfl (by simp) fun w0 S0 M0 => ?_
    simp only [Sd.cells, othD]
    repeat' (first
        | (refine abs_freeze 0 _ _ rfl rfl ?_; simp only [basL, Nat.reduceAdd])
        | (refine abs_freeze 1 _ _ rfl rfl ?_; simp only [basL, Nat.reduceAdd])
        | (refine abs_freeze 2 _ _ rfl rfl ?_; simp only [basL, Nat.reduceAdd])
        | refine abs_seq ?_
        | refine abs_block ?_
        | refine abs_skip ?_
        | refine abs_exit ?_
        | refine abs_ret ?_
        | ((first | refine abs_region fun K hK => ?_ | refine abs_draw Try.ty.mixed (by kernel_rfl) fun K hK => ?_ | refine abs_if ?_); simp only [go_sem, bas, basL, Nat.reduceAdd, Nat.reduceSub, Nat.reduceMul, Nat.reduceLT, Nat.reduceLeDiff, Nat.reduceEqDiff, Nat.reduceBEq, Int.reduceLT, Int.reduceLE, Int.reduceToNat, Int.reduceAdd, Int.reduceSub, Int.reduceMul, Int.reduceNeg, Int.reduceEq, reduceCtorEq, eq_self, ne_eq, not_false_eq_true, if_true, reduceIte])
        | (refine hK _ ?_; clear hK K; simp only [thenQ, blockQ, if_true, Nat.reduceEqDiff, reduceIte])
        | (show thenQ _ _ _ _; simp only [thenQ, blockQ, if_true, Nat.reduceEqDiff, reduceIte])
        | (show blockQ _ _ _ _; simp only [thenQ, blockQ, if_true, Nat.reduceEqDiff, reduceIte])
        | (show retQ _ _ _ _ _; simp only [go_sem, bas, basL, Nat.reduceAdd, Nat.reduceSub, Nat.reduceMul, Nat.reduceLT, Nat.reduceLeDiff, Nat.reduceEqDiff, Nat.reduceBEq, Int.reduceLT, Int.reduceLE, Int.reduceToNat, Int.reduceAdd, Int.reduceSub, Int.reduceMul, Int.reduceNeg, Int.reduceEq, reduceCtorEq, eq_self, ne_eq, not_false_eq_true, if_true, reduceIte])
        | (intro hg; first | (exfalso; omega) | (exfalso; contradiction) | skip)
        | apply And.intro
        | (with_reducible rfl)
        | (clear hK; omega)
        | omega)
  | some g =>
    refine calls_abs Try.func129 Try.ntmps129 Try.results129 Try.call129 rfl (by simp) fun w0 S0 M0 => ?_
    simp only [Sd.cells, othD]
    repeat' (first
        | (refine abs_freeze 0 _ _ rfl rfl ?_; simp only [basL, Nat.reduceAdd])
        | (refine abs_freeze 1 _ _ rfl rfl ?_; simp only [basL, Nat.reduceAdd])
        | (refine abs_freeze 2 _ _ rfl rfl ?_; simp only [basL, Nat.reduceAdd])
        | refine abs_seq ?_
        | refine abs_block ?_
        | refine abs_skip ?_
        | refine abs_exit ?_
        | refine abs_ret ?_
        | ((first | refine abs_region fun K hK => ?_ | refine abs_draw Try.ty.mixed (by kernel_rfl) fun K hK => ?_ | refine abs_if ?_); simp only [go_sem, bas, basL, Nat.reduceAdd, Nat.reduceSub, Nat.reduceMul, Nat.reduceLT, Nat.reduceLeDiff, Nat.reduceEqDiff, Nat.reduceBEq, Int.reduceLT, Int.reduceLE, Int.reduceToNat, Int.reduceAdd, Int.reduceSub, Int.reduceMul, Int.reduceNeg, Int.reduceEq, reduceCtorEq, eq_self, ne_eq, not_false_eq_true, if_true, reduceIte])
        | (refine hK _ ?_; clear hK K; simp only [thenQ, blockQ, if_true, Nat.reduceEqDiff, reduceIte])
        | (show thenQ _ _ _ _; simp only [thenQ, blockQ, if_true, Nat.reduceEqDiff, reduceIte])
        | (show blockQ _ _ _ _; simp only [thenQ, blockQ, if_true, Nat.reduceEqDiff, reduceIte])
        | (show retQ _ _ _ _ _; simp only [go_sem, bas, basL, Nat.reduceAdd, Nat.reduceSub, Nat.reduceMul, Nat.reduceLT, Nat.reduceLeDiff, Nat.reduceEqDiff, Nat.reduceBEq, Int.reduceLT, Int.reduceLE, Int.reduceToNat, Int.reduceAdd, Int.reduceSub, Int.reduceMul, Int.reduceNeg, Int.reduceEq, reduceCtorEq, eq_self, ne_eq, not_false_eq_true, if_true, reduceIte])
        | (intro hg; first | (exfalso; omega) | (exfalso; contradiction) | skip)
        | apply And.intro
        | (with_reducible rfl)
        | (clear hK; omega)
        | omega)

set_option maxRecDepth 100000 in
set_option maxHeartbeats 4000000 in
theorem pneg_ok (n : Int) (h : -100000000000 ≤ n ∧ n ≤ 100000000000) : CallsTo Try.prog 130 [i64 n] (i64 (-n)) := by
  refine calls_abs Try.func130 Try.ntmps130 Try.results130 Try.call130 rfl (by simp) fun w0 S0 M0 => ?_
  repeat' (first
      | refine abs_seq ?_
      | refine abs_block ?_
      | refine abs_skip ?_
      | refine abs_exit ?_
      | refine abs_ret ?_
      | ((first | refine abs_region fun K hK => ?_ | refine abs_draw Try.ty.mixed (by kernel_rfl) fun K hK => ?_ | refine abs_if ?_); simp only [go_sem, bas, basL, Nat.reduceAdd, Nat.reduceSub, Nat.reduceMul, Nat.reduceLT, Nat.reduceLeDiff, Nat.reduceEqDiff, Nat.reduceBEq, Int.reduceLT, Int.reduceLE, Int.reduceToNat, Int.reduceAdd, Int.reduceSub, Int.reduceMul, Int.reduceNeg, Int.reduceEq, reduceCtorEq, eq_self, ne_eq, not_false_eq_true, if_true, reduceIte])
      | (refine hK _ ?_; clear hK K; simp only [thenQ, blockQ, if_true, Nat.reduceEqDiff, reduceIte])
      | (show thenQ _ _ _ _; simp only [thenQ, blockQ, if_true, Nat.reduceEqDiff, reduceIte])
      | (show blockQ _ _ _ _; simp only [thenQ, blockQ, if_true, Nat.reduceEqDiff, reduceIte])
      | (show retQ _ _ _ _ _; simp only [go_sem, bas, basL, Nat.reduceAdd, Nat.reduceSub, Nat.reduceMul, Nat.reduceLT, Nat.reduceLeDiff, Nat.reduceEqDiff, Nat.reduceBEq, Int.reduceLT, Int.reduceLE, Int.reduceToNat, Int.reduceAdd, Int.reduceSub, Int.reduceMul, Int.reduceNeg, Int.reduceEq, reduceCtorEq, eq_self, ne_eq, not_false_eq_true, if_true, reduceIte])
      | (intro hg; first | (exfalso; omega) | (exfalso; contradiction) | skip)
      | apply And.intro
      | (with_reducible rfl)
      | (clear hK; omega)
      | omega)

set_option maxRecDepth 100000 in
set_option maxHeartbeats 4000000 in
theorem pid_ok (n : Int) : CallsTo Try.prog 131 [i64 n] (i64 n) := by
  refine calls_abs Try.func131 Try.ntmps131 Try.results131 Try.call131 rfl (by simp) fun w0 S0 M0 => ?_
  repeat' (first
      | refine abs_seq ?_
      | refine abs_block ?_
      | refine abs_skip ?_
      | refine abs_exit ?_
      | refine abs_ret ?_
      | ((first | refine abs_region fun K hK => ?_ | refine abs_draw Try.ty.mixed (by kernel_rfl) fun K hK => ?_ | refine abs_if ?_); simp only [go_sem, bas, basL, Nat.reduceAdd, Nat.reduceSub, Nat.reduceMul, Nat.reduceLT, Nat.reduceLeDiff, Nat.reduceEqDiff, Nat.reduceBEq, Int.reduceLT, Int.reduceLE, Int.reduceToNat, Int.reduceAdd, Int.reduceSub, Int.reduceMul, Int.reduceNeg, Int.reduceEq, reduceCtorEq, eq_self, ne_eq, not_false_eq_true, if_true, reduceIte])
      | (refine hK _ ?_; clear hK K; simp only [thenQ, blockQ, if_true, Nat.reduceEqDiff, reduceIte])
      | (show thenQ _ _ _ _; simp only [thenQ, blockQ, if_true, Nat.reduceEqDiff, reduceIte])
      | (show blockQ _ _ _ _; simp only [thenQ, blockQ, if_true, Nat.reduceEqDiff, reduceIte])
      | (show retQ _ _ _ _ _; simp only [go_sem, bas, basL, Nat.reduceAdd, Nat.reduceSub, Nat.reduceMul, Nat.reduceLT, Nat.reduceLeDiff, Nat.reduceEqDiff, Nat.reduceBEq, Int.reduceLT, Int.reduceLE, Int.reduceToNat, Int.reduceAdd, Int.reduceSub, Int.reduceMul, Int.reduceNeg, Int.reduceEq, reduceCtorEq, eq_self, ne_eq, not_false_eq_true, if_true, reduceIte])
      | (intro hg; first | (exfalso; omega) | (exfalso; contradiction) | skip)
      | apply And.intro
      | (with_reducible rfl)
      | (clear hK; omega)
      | omega)

theorem pts_bd (x : Sd) (h : x.Ok) {day dist : Nat} (hd : day < x.S.length) (hk : dist < x.W.length) {y : Int} (hy : y ∈ x.pts day dist) : -5000000 ≤ y ∧ y ≤ 5000000 := by
  unfold Sd.pts ptsL at hy
  obtain ⟨k, _, rfl⟩ := List.mem_map.1 hy
  have f1 := Gn_bd (fit_of h.ow hd hk).2.2.1 k
  have f3 := h.su.2.2.2.1 dist hk
  have key : ∀ n : Int, -30000 ≤ n → n ≤ 20000 → -5000000 ≤ (Gn (nth (nth x.own day) dist) k - n) * nth x.W dist ∧ (Gn (nth (nth x.own day) dist) k - n) * nth x.W dist ≤ 5000000 := by
    intro n n1 n2
    generalize Gn (nth (nth x.own day) dist) k = m at *
    have := mul_abs (a := nth x.W dist) (b := m - n) (A := 100) (B := 50000) f3.1 f3.2 (by omega) (by omega)
    have e := Int.mul_comm (nth x.W dist) (m - n)
    omega
  cases ho : x.oth with
  | none => exact key 0 (by decide) (by decide)
  | some g =>
    have f2 := Gn_bd (fit_of (h.ot g ho) hd hk).2.2.1 k
    exact key _ f2.1 f2.2

theorem bst_bd {α : Type} [Inhabited α] {w : α → Int} {l : List α} {B : Int} (hB : 0 ≤ B) (h : ∀ x ∈ l, -B ≤ w x ∧ w x ≤ B) : ∀ k, k ≤ l.length → -B ≤ (bst w l k).2 ∧ (bst w l k).2 ≤ B
  | 0, _ => by simp only [bst]; omega
  | k + 1, hk => by
    simp only [bst]
    split
    · exact h _ (by rw [nth_eq l k (by omega)]; exact List.getElem_mem (by omega))
    · exact bst_bd hB h k (by omega)

def Sd.lo (x : Sd) (day dist : Nat) : Int := -(bst (fun n => -n) (x.pts day dist) (x.pts day dist).length).2
def Sd.hi (x : Sd) (day dist : Nat) : Int := (bst (fun n => n) (x.pts day dist) (x.pts day dist).length).2

set_option maxRecDepth 100000 in
set_option maxHeartbeats 4000000 in
theorem pleast_ok (x : Sd) (h : x.Ok) (day dist : Nat) (hd : day < x.S.length) (hk : dist < x.W.length) : CallsTo Try.prog 115 [.agg x.cells, i64 day, i64 dist] (i64 (x.lo day dist)) := by
  have hb := bst_bd (w := fun n => -n) (l := x.pts day dist) (B := 5000000) (by decide) (fun y hy => by have := pts_bd x h hd hk hy; omega) _ (Nat.le_refl _)
  have hI := pts_it x h hd hk
  have hw : ∀ y ∈ x.pts day dist, CallsTo Try.prog 130 [i64 y] (i64 (-y)) := fun y hy => pneg_ok y (by have := pts_bd x h hd hk hy; omega)
  have hP := ppoints_ok x day dist
  unfold Sd.lo
  generalize x.pts day dist = P at *
  obtain ⟨c, W, S, own, oth⟩ := x
  cases oth with
  | none =>
    refine calls_abs Try.func115 Try.ntmps115 Try.results115 Try.call115 rfl (by simp) fun w0 S0 M0 => ?_
    simp only [Sd.cells, othD] at *
    repeat' (first
        | (refine abs_freeze 0 _ _ rfl rfl ?_; simp only [basL, Nat.reduceAdd])
        | refine abs_seq ?_
        | refine abs_block ?_
        | refine abs_skip ?_
        | refine abs_exit ?_
        | refine abs_ret ?_
        | ((first | refine abs_region fun K hK => ?_ | refine abs_draw Try.ty.mixed (by kernel_rfl) fun K hK => ?_ | refine abs_if ?_); simp only [go_sem, bas, basL, Nat.reduceAdd, Nat.reduceSub, Nat.reduceMul, Nat.reduceLT, Nat.reduceLeDiff, Nat.reduceEqDiff, Nat.reduceBEq, Int.reduceLT, Int.reduceLE, Int.reduceToNat, Int.reduceAdd, Int.reduceSub, Int.reduceMul, Int.reduceNeg, Int.reduceEq, reduceCtorEq, eq_self, ne_eq, not_false_eq_true, if_true, reduceIte])
        | (refine hK _ ?_; clear hK K; simp only [thenQ, blockQ, if_true, Nat.reduceEqDiff, reduceIte])
        | (show thenQ _ _ _ _; simp only [thenQ, blockQ, if_true, Nat.reduceEqDiff, reduceIte])
        | (show blockQ _ _ _ _; simp only [thenQ, blockQ, if_true, Nat.reduceEqDiff, reduceIte])
        | ((first | refine callK (hP) ?_ | refine callK (best2_ok P 133 _ 130 [] (fun n => -n) ⟨fun _ _ => rfl, fun _ _ => rfl⟩ cl_nil hI hw) ?_); try simp only [go_sem, bas, basL, Nat.reduceAdd, Nat.reduceSub, Nat.reduceMul, Nat.reduceLT, Nat.reduceLeDiff, Nat.reduceEqDiff, Nat.reduceBEq, Int.reduceLT, Int.reduceLE, Int.reduceToNat, Int.reduceAdd, Int.reduceSub, Int.reduceMul, Int.reduceNeg, Int.reduceEq, reduceCtorEq, eq_self, ne_eq, not_false_eq_true, if_true, reduceIte])
        | (show retQ _ _ _ _ _; simp only [go_sem, bas, basL, Nat.reduceAdd, Nat.reduceSub, Nat.reduceMul, Nat.reduceLT, Nat.reduceLeDiff, Nat.reduceEqDiff, Nat.reduceBEq, Int.reduceLT, Int.reduceLE, Int.reduceToNat, Int.reduceAdd, Int.reduceSub, Int.reduceMul, Int.reduceNeg, Int.reduceEq, reduceCtorEq, eq_self, ne_eq, not_false_eq_true, if_true, reduceIte])
        | (intro hg; first | (exfalso; omega) | (exfalso; contradiction) | skip)
        | apply And.intro
        | (with_reducible rfl)
        | (clear hK; omega)
        | omega)
    all_goals rfl
  | some g =>
    refine calls_abs Try.func115 Try.ntmps115 Try.results115 Try.call115 rfl (by simp) fun w0 S0 M0 => ?_
    simp only [Sd.cells, othD] at *
    repeat' (first
        | (refine abs_freeze 0 _ _ rfl rfl ?_; simp only [basL, Nat.reduceAdd])
        | refine abs_seq ?_
        | refine abs_block ?_
        | refine abs_skip ?_
        | refine abs_exit ?_
        | refine abs_ret ?_
        | ((first | refine abs_region fun K hK => ?_ | refine abs_draw Try.ty.mixed (by kernel_rfl) fun K hK => ?_ | refine abs_if ?_); simp only [go_sem, bas, basL, Nat.reduceAdd, Nat.reduceSub, Nat.reduceMul, Nat.reduceLT, Nat.reduceLeDiff, Nat.reduceEqDiff, Nat.reduceBEq, Int.reduceLT, Int.reduceLE, Int.reduceToNat, Int.reduceAdd, Int.reduceSub, Int.reduceMul, Int.reduceNeg, Int.reduceEq, reduceCtorEq, eq_self, ne_eq, not_false_eq_true, if_true, reduceIte])
        | (refine hK _ ?_; clear hK K; simp only [thenQ, blockQ, if_true, Nat.reduceEqDiff, reduceIte])
        | (show thenQ _ _ _ _; simp only [thenQ, blockQ, if_true, Nat.reduceEqDiff, reduceIte])
        | (show blockQ _ _ _ _; simp only [thenQ, blockQ, if_true, Nat.reduceEqDiff, reduceIte])
        | ((first | refine callK (hP) ?_ | refine callK (best2_ok P 133 _ 130 [] (fun n => -n) ⟨fun _ _ => rfl, fun _ _ => rfl⟩ cl_nil hI hw) ?_); try simp only [go_sem, bas, basL, Nat.reduceAdd, Nat.reduceSub, Nat.reduceMul, Nat.reduceLT, Nat.reduceLeDiff, Nat.reduceEqDiff, Nat.reduceBEq, Int.reduceLT, Int.reduceLE, Int.reduceToNat, Int.reduceAdd, Int.reduceSub, Int.reduceMul, Int.reduceNeg, Int.reduceEq, reduceCtorEq, eq_self, ne_eq, not_false_eq_true, if_true, reduceIte])
        | (show retQ _ _ _ _ _; simp only [go_sem, bas, basL, Nat.reduceAdd, Nat.reduceSub, Nat.reduceMul, Nat.reduceLT, Nat.reduceLeDiff, Nat.reduceEqDiff, Nat.reduceBEq, Int.reduceLT, Int.reduceLE, Int.reduceToNat, Int.reduceAdd, Int.reduceSub, Int.reduceMul, Int.reduceNeg, Int.reduceEq, reduceCtorEq, eq_self, ne_eq, not_false_eq_true, if_true, reduceIte])
        | (intro hg; first | (exfalso; omega) | (exfalso; contradiction) | skip)
        | apply And.intro
        | (with_reducible rfl)
        | (clear hK; omega)
        | omega)
    all_goals rfl

set_option maxRecDepth 100000 in
set_option maxHeartbeats 4000000 in
theorem pmost_ok (x : Sd) (h : x.Ok) (day dist : Nat) (hd : day < x.S.length) (hk : dist < x.W.length) : CallsTo Try.prog 116 [.agg x.cells, i64 day, i64 dist] (i64 (x.hi day dist)) := by
  have hI := pts_it x h hd hk
  have hP := ppoints_ok x day dist
  unfold Sd.hi
  generalize x.pts day dist = P at *
  obtain ⟨c, W, S, own, oth⟩ := x
  cases oth with
  | none =>
    refine calls_abs Try.func116 Try.ntmps116 Try.results116 Try.call116 rfl (by simp) fun w0 S0 M0 => ?_
    simp only [Sd.cells, othD] at *
    repeat' (first
        | (refine abs_freeze 0 _ _ rfl rfl ?_; simp only [basL, Nat.reduceAdd])
        | refine abs_seq ?_
        | refine abs_block ?_
        | refine abs_skip ?_
        | refine abs_exit ?_
        | refine abs_ret ?_
        | ((first | refine abs_region fun K hK => ?_ | refine abs_draw Try.ty.mixed (by kernel_rfl) fun K hK => ?_ | refine abs_if ?_); simp only [go_sem, bas, basL, Nat.reduceAdd, Nat.reduceSub, Nat.reduceMul, Nat.reduceLT, Nat.reduceLeDiff, Nat.reduceEqDiff, Nat.reduceBEq, Int.reduceLT, Int.reduceLE, Int.reduceToNat, Int.reduceAdd, Int.reduceSub, Int.reduceMul, Int.reduceNeg, Int.reduceEq, reduceCtorEq, eq_self, ne_eq, not_false_eq_true, if_true, reduceIte])
        | (refine hK _ ?_; clear hK K; simp only [thenQ, blockQ, if_true, Nat.reduceEqDiff, reduceIte])
        | (show thenQ _ _ _ _; simp only [thenQ, blockQ, if_true, Nat.reduceEqDiff, reduceIte])
        | (show blockQ _ _ _ _; simp only [thenQ, blockQ, if_true, Nat.reduceEqDiff, reduceIte])
        | ((first | refine callK (hP) ?_ | refine callK (best2_ok P 133 _ 131 [] (fun n => n) ⟨fun _ _ => rfl, fun _ _ => rfl⟩ cl_nil hI (fun y _ => pid_ok y)) ?_); try simp only [go_sem, bas, basL, Nat.reduceAdd, Nat.reduceSub, Nat.reduceMul, Nat.reduceLT, Nat.reduceLeDiff, Nat.reduceEqDiff, Nat.reduceBEq, Int.reduceLT, Int.reduceLE, Int.reduceToNat, Int.reduceAdd, Int.reduceSub, Int.reduceMul, Int.reduceNeg, Int.reduceEq, reduceCtorEq, eq_self, ne_eq, not_false_eq_true, if_true, reduceIte])
        | (show retQ _ _ _ _ _; simp only [go_sem, bas, basL, Nat.reduceAdd, Nat.reduceSub, Nat.reduceMul, Nat.reduceLT, Nat.reduceLeDiff, Nat.reduceEqDiff, Nat.reduceBEq, Int.reduceLT, Int.reduceLE, Int.reduceToNat, Int.reduceAdd, Int.reduceSub, Int.reduceMul, Int.reduceNeg, Int.reduceEq, reduceCtorEq, eq_self, ne_eq, not_false_eq_true, if_true, reduceIte])
        | (intro hg; first | (exfalso; omega) | (exfalso; contradiction) | skip)
        | apply And.intro
        | (with_reducible rfl)
        | (clear hK; omega)
        | omega)
    all_goals rfl
  | some g =>
    refine calls_abs Try.func116 Try.ntmps116 Try.results116 Try.call116 rfl (by simp) fun w0 S0 M0 => ?_
    simp only [Sd.cells, othD] at *
    repeat' (first
        | (refine abs_freeze 0 _ _ rfl rfl ?_; simp only [basL, Nat.reduceAdd])
        | refine abs_seq ?_
        | refine abs_block ?_
        | refine abs_skip ?_
        | refine abs_exit ?_
        | refine abs_ret ?_
        | ((first | refine abs_region fun K hK => ?_ | refine abs_draw Try.ty.mixed (by kernel_rfl) fun K hK => ?_ | refine abs_if ?_); simp only [go_sem, bas, basL, Nat.reduceAdd, Nat.reduceSub, Nat.reduceMul, Nat.reduceLT, Nat.reduceLeDiff, Nat.reduceEqDiff, Nat.reduceBEq, Int.reduceLT, Int.reduceLE, Int.reduceToNat, Int.reduceAdd, Int.reduceSub, Int.reduceMul, Int.reduceNeg, Int.reduceEq, reduceCtorEq, eq_self, ne_eq, not_false_eq_true, if_true, reduceIte])
        | (refine hK _ ?_; clear hK K; simp only [thenQ, blockQ, if_true, Nat.reduceEqDiff, reduceIte])
        | (show thenQ _ _ _ _; simp only [thenQ, blockQ, if_true, Nat.reduceEqDiff, reduceIte])
        | (show blockQ _ _ _ _; simp only [thenQ, blockQ, if_true, Nat.reduceEqDiff, reduceIte])
        | ((first | refine callK (hP) ?_ | refine callK (best2_ok P 133 _ 131 [] (fun n => n) ⟨fun _ _ => rfl, fun _ _ => rfl⟩ cl_nil hI (fun y _ => pid_ok y)) ?_); try simp only [go_sem, bas, basL, Nat.reduceAdd, Nat.reduceSub, Nat.reduceMul, Nat.reduceLT, Nat.reduceLeDiff, Nat.reduceEqDiff, Nat.reduceBEq, Int.reduceLT, Int.reduceLE, Int.reduceToNat, Int.reduceAdd, Int.reduceSub, Int.reduceMul, Int.reduceNeg, Int.reduceEq, reduceCtorEq, eq_self, ne_eq, not_false_eq_true, if_true, reduceIte])
        | (show retQ _ _ _ _ _; simp only [go_sem, bas, basL, Nat.reduceAdd, Nat.reduceSub, Nat.reduceMul, Nat.reduceLT, Nat.reduceLeDiff, Nat.reduceEqDiff, Nat.reduceBEq, Int.reduceLT, Int.reduceLE, Int.reduceToNat, Int.reduceAdd, Int.reduceSub, Int.reduceMul, Int.reduceNeg, Int.reduceEq, reduceCtorEq, eq_self, ne_eq, not_false_eq_true, if_true, reduceIte])
        | (intro hg; first | (exfalso; omega) | (exfalso; contradiction) | skip)
        | apply And.intro
        | (with_reducible rfl)
        | (clear hK; omega)
        | omega)
    all_goals rfl
end Go.Proofs.Ythamljpomhjepaa
