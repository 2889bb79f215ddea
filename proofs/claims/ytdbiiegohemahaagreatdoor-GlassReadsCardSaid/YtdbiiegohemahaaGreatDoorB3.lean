import Derived.Test.YtdbiiegohemahaaGreatDoorA7
set_option linter.unusedVariables false
set_option linter.unusedSimpArgs false
namespace Go.Proofs.YtdbiiegohemahaaGreatDoor
open Go.Ab
attribute [local irreducible] Abs CallK CallR CallsTo

/-- The bounds of the index, as they are kept. -/
abbrev ixM (s : Stn) : Memo := ⟨false, true, 1, fun l => [ixL s (l.headD 0), ixH s (l.headD 0)]⟩
/-- A station that is looked at. -/
abbrev stM (s : Stn) : D := .agg [i64 s.hl, i64 s.hh, i64 s.gl, i64 s.gh, i64 s.dr, i64 s.rd, i64 s.ea, i64 s.sl, .list (s.ck.map ckD), .memo (ixM s)]
abbrev stMC (s : Stn) : List D := [i64 s.hl, i64 s.hh, i64 s.gl, i64 s.gh, i64 s.dr, i64 s.rd, i64 s.ea, i64 s.sl, .list (s.ck.map ckD), .memo (ixM s)]
abbrev noM : D := .agg [i64 0, i64 0, i64 0, i64 0, i64 0, i64 0, i64 0, i64 0, .val (.slice none 0 0), .val (.map none)]
set_option maxRecDepth 100000 in
set_option maxHeartbeats 4000000 in
theorem look_ok (s : Stn) : CallsTo Tryz.prog 63 [stD s] (stM s) := by
  refine calls_abs Tryz.func63 Tryz.ntmps63 Tryz.results63 Tryz.call63 rfl (by simp) fun w0 S0 M0 => ?_
  repeat' (first
      | refine abs_seq ?_
      | refine abs_block ?_
      | refine abs_skip ?_
      | refine abs_scope ?_
      | refine abs_label ?_
      | refine abs_exit ?_
      | refine abs_ret ?_
      | ((first | refine abs_region fun K hK => ?_ | refine abs_draw Tryz.ty.mixed (by kernel_rfl) fun K hK => ?_ | refine abs_if ?_ | show retQ _ _ _ _ _); simp -implicitDefEqProofs only [go_sem, bas, basL, Nat.reduceAdd, Nat.reduceSub, Nat.reduceMul, Nat.reduceLT, Nat.reduceLeDiff, Nat.reduceEqDiff, Nat.reduceBEq, Int.reduceLT, Int.reduceLE, Int.reduceToNat, Int.reduceAdd, Int.reduceSub, Int.reduceMul, Int.reduceNeg, Int.reduceEq, reduceCtorEq, eq_self, ne_eq, not_false_eq_true, if_true, reduceIte])
      | ((first | (refine hK _ ?_; clear hK K) | show thenQ _ _ _ _ | show blockQ _ _ _ _ | show noGoQ _ _ _); simp only [noGoQ, thenQ, blockQ, if_true, Nat.reduceEqDiff, reduceIte])
      | (refine ⟨(ixM s : Memo), ?_⟩)
      | (intro hg; first | (exfalso; omega) | (exfalso; contradiction) | skip)
      | apply And.intro
      | (with_reducible rfl)
      | (clear hK; omega)
      | omega)
  all_goals skip
theorem con_iff {s : Stn} {i k : Nat} : Con s i k ↔ (s.dr * far (nth s.ck i).day (nth s.ck k).day < (nth s.ck i).lo - (nth s.ck k).hi ∨ s.dr * far (nth s.ck i).day (nth s.ck k).day < (nth s.ck k).lo - (nth s.ck i).hi) := by
  unfold Con
  generalize s.dr * far (nth s.ck i).day (nth s.ck k).day = d
  omega
set_option maxRecDepth 100000 in
set_option maxHeartbeats 4000000 in
theorem apart_ok (s : Stn) (hs : StOk s) (i k : Nat) (hi : i < s.ck.length) (hk : k < s.ck.length) : CallsTo Tryz.prog 80 [stM s, ckD (nth s.ck i), ckD (nth s.ck k)] (.bool (decide (Con s i k))) := by
  have hdr := hs.d
  have c1 := hs.c i hi
  have c2 := hs.c k hk
  have b1 := mul_bd hdr.1 hdr.2 (far_bd c1.1 c2.1).1 (far_bd c1.1 c2.1).2
  have b5 : -2000 ≤ (nth s.ck i).lo ∧ (nth s.ck i).lo ≤ (nth s.ck i).hi ∧ (nth s.ck i).hi ≤ 2000 := c1.2
  have b6 : -2000 ≤ (nth s.ck k).lo ∧ (nth s.ck k).lo ≤ (nth s.ck k).hi ∧ (nth s.ck k).hi ≤ 2000 := c2.2
  refine calls_abs Tryz.func80 Tryz.ntmps80 Tryz.results80 Tryz.call80 rfl (by simp) fun w0 S0 M0 => ?_
  repeat' (first
      | refine abs_seq ?_
      | refine abs_block ?_
      | refine abs_skip ?_
      | refine abs_scope ?_
      | refine abs_label ?_
      | refine abs_exit ?_
      | refine abs_ret ?_
      | ((first | refine abs_region fun K hK => ?_ | refine abs_draw Tryz.ty.mixed (by kernel_rfl) fun K hK => ?_ | refine abs_if ?_ | show retQ _ _ _ _ _ | refine callK (gofar_ok _ _ c1.1 c2.1) ?_); simp -implicitDefEqProofs only [go_sem, bas, basL, Nat.reduceAdd, Nat.reduceSub, Nat.reduceMul, Nat.reduceLT, Nat.reduceLeDiff, Nat.reduceEqDiff, Nat.reduceBEq, Int.reduceLT, Int.reduceLE, Int.reduceToNat, Int.reduceAdd, Int.reduceSub, Int.reduceMul, Int.reduceNeg, Int.reduceEq, reduceCtorEq, eq_self, ne_eq, not_false_eq_true, if_true, reduceIte])
      | ((first | (refine hK _ ?_; clear hK K) | show thenQ _ _ _ _ | show blockQ _ _ _ _ | show noGoQ _ _ _); simp only [noGoQ, thenQ, blockQ, if_true, Nat.reduceEqDiff, reduceIte])
      | (intro hg; first | (exfalso; omega) | (exfalso; contradiction) | skip)
      | apply And.intro
      | (with_reducible rfl)
      | (clear hK; omega)
      | omega)
  · refine boolD ?_
    rw [decide_eq_true_iff, decide_eq_true_iff, con_iff]; omega
  · rw [decide_eq_true (con_iff.2 (by omega))]
set_option maxRecDepth 100000 in
set_option maxHeartbeats 4000000 in
theorem gclash_ok (s : Stn) (hs : StOk s) : CallsTo Tryz.prog 64 [stM s] (clashD s) := by
  have hl := hs.n
  refine calls_abs Tryz.func64 Tryz.ntmps64 Tryz.results64 Tryz.call64 rfl (by simp) fun w0 S0 M0 => ?_
  repeat' (first
      | refine abs_seq ?_
      | refine abs_block ?_
      | refine abs_skip ?_
      | refine abs_scope ?_
      | refine abs_label ?_
      | refine abs_exit ?_
      | refine abs_ret ?_
      | ((first | refine abs_region fun K hK => ?_ | refine abs_draw Tryz.ty.mixed (by kernel_rfl) fun K hK => ?_ | refine abs_if ?_ | show retQ _ _ _ _ _); simp -implicitDefEqProofs only [go_sem, bas, basL, Nat.reduceAdd, Nat.reduceSub, Nat.reduceMul, Nat.reduceLT, Nat.reduceLeDiff, Nat.reduceEqDiff, Nat.reduceBEq, Int.reduceLT, Int.reduceLE, Int.reduceToNat, Int.reduceAdd, Int.reduceSub, Int.reduceMul, Int.reduceNeg, Int.reduceEq, reduceCtorEq, eq_self, ne_eq, not_false_eq_true, if_true, reduceIte])
      | ((first | (refine hK _ ?_; clear hK K) | show thenQ _ _ _ _ | show blockQ _ _ _ _ | show noGoQ _ _ _); simp only [noGoQ, thenQ, blockQ, if_true, Nat.reduceEqDiff, reduceIte])
      | (intro hg; first | (exfalso; omega) | (exfalso; contradiction) | skip)
      | apply And.intro
      | (with_reducible rfl)
      | (clear hK; omega)
      | omega)
  refine abs_loopN (ι := Nat) (fun j => [(1, .box 0 0), (5, i64 0), (6, i64 0), (7, .bool false), (13, .list (s.ck.map ckD)), (14, i64 s.ck.length), (15, i64 j)]) (fun _ => [.mu (stMC s)]) (fun _ => [])
    (fun j => j ≤ s.ck.length ∧ ∀ a b, a < b → b < s.ck.length → a < j → ¬ Con s a b) (fun j => s.ck.length - j) (fun _ _ => ⟨rfl, rfl⟩) 0 ⟨Nat.zero_le _, fun a b _ _ h => absurd h (Nat.not_lt_zero a)⟩ (le_of rfl (by try simp -implicitDefEqProofs only [go_sem, bas, basL, Nat.reduceAdd, Nat.reduceSub, Nat.reduceMul, Nat.reduceLT, Nat.reduceLeDiff, Nat.reduceEqDiff, Nat.reduceBEq, Int.reduceLT, Int.reduceLE, Int.reduceToNat, Int.reduceAdd, Int.reduceSub, Int.reduceMul, Int.reduceNeg, Int.reduceEq, reduceCtorEq, eq_self, ne_eq, not_false_eq_true, if_true, reduceIte]; try simp) ⟨_, rfl⟩ ⟨_, rfl⟩) (fun j ⟨hj, hi⟩ => ?_)
  simp -implicitDefEqProofs only [go_sem, bas, basL, Nat.reduceAdd, Nat.reduceSub, Nat.reduceMul, Nat.reduceLT, Nat.reduceLeDiff, Nat.reduceEqDiff, Nat.reduceBEq, Int.reduceLT, Int.reduceLE, Int.reduceToNat, Int.reduceAdd, Int.reduceSub, Int.reduceMul, Int.reduceNeg, Int.reduceEq, reduceCtorEq, eq_self, ne_eq, not_false_eq_true, if_true, reduceIte]
  repeat' (first
      | refine abs_seq ?_
      | refine abs_block ?_
      | refine abs_skip ?_
      | refine abs_scope ?_
      | refine abs_label ?_
      | refine abs_exit ?_
      | refine abs_ret ?_
      | ((first | refine abs_region fun K hK => ?_ | refine abs_draw Tryz.ty.mixed (by kernel_rfl) fun K hK => ?_ | refine abs_if ?_ | show retQ _ _ _ _ _); simp -implicitDefEqProofs only [go_sem, bas, basL, Nat.reduceAdd, Nat.reduceSub, Nat.reduceMul, Nat.reduceLT, Nat.reduceLeDiff, Nat.reduceEqDiff, Nat.reduceBEq, Int.reduceLT, Int.reduceLE, Int.reduceToNat, Int.reduceAdd, Int.reduceSub, Int.reduceMul, Int.reduceNeg, Int.reduceEq, reduceCtorEq, eq_self, ne_eq, not_false_eq_true, if_true, reduceIte])
      | ((first | (refine hK _ ?_; clear hK K) | show thenQ _ _ _ _ | show blockQ _ _ _ _ | show noGoQ _ _ _); simp only [noGoQ, thenQ, blockQ, if_true, Nat.reduceEqDiff, reduceIte])
      | (intro hg; first | (exfalso; omega) | (exfalso; contradiction) | skip)
      | apply And.intro
      | (with_reducible rfl)
      | (clear hK; omega)
      | omega)
  · refine abs_loopN (ι := Nat) (fun k => [(1, .box 0 0), (5, i64 0), (6, i64 0), (7, .bool false), (8, i64 j), (9, .box 1 0), (10, i64 k), (13, .list (s.ck.map ckD)), (14, i64 s.ck.length), (15, i64 j)]) (fun _ => [.mu (stMC s), .mu [i64 (nth s.ck j).day, i64 (nth s.ck j).lo, i64 (nth s.ck j).hi]]) (fun _ => [])
      (fun k => j < k ∧ k ≤ s.ck.length ∧ ∀ b, j < b → b < k → ¬ Con s j b) (fun k => s.ck.length - k) (fun _ _ => ⟨rfl, rfl⟩) (j + 1) ⟨by omega, by omega, fun b h1 h2 => by omega⟩ (le_of rfl (by try simp -implicitDefEqProofs only [go_sem, bas, basL, Nat.reduceAdd, Nat.reduceSub, Nat.reduceMul, Nat.reduceLT, Nat.reduceLeDiff, Nat.reduceEqDiff, Nat.reduceBEq, Int.reduceLT, Int.reduceLE, Int.reduceToNat, Int.reduceAdd, Int.reduceSub, Int.reduceMul, Int.reduceNeg, Int.reduceEq, reduceCtorEq, eq_self, ne_eq, not_false_eq_true, if_true, reduceIte]; try simp) ⟨_, rfl⟩ ⟨_, rfl⟩) (fun k ⟨hk0, hk, hb⟩ => ?_)
    simp -implicitDefEqProofs only [go_sem, bas, basL, Nat.reduceAdd, Nat.reduceSub, Nat.reduceMul, Nat.reduceLT, Nat.reduceLeDiff, Nat.reduceEqDiff, Nat.reduceBEq, Int.reduceLT, Int.reduceLE, Int.reduceToNat, Int.reduceAdd, Int.reduceSub, Int.reduceMul, Int.reduceNeg, Int.reduceEq, reduceCtorEq, eq_self, ne_eq, not_false_eq_true, if_true, reduceIte]
    repeat' (first
        | refine abs_seq ?_
        | refine abs_block ?_
        | refine abs_skip ?_
        | refine abs_scope ?_
        | refine abs_label ?_
        | refine abs_exit ?_
        | refine abs_ret ?_
        | ((first | refine abs_region fun K hK => ?_ | refine abs_draw Tryz.ty.mixed (by kernel_rfl) fun K hK => ?_ | refine abs_if ?_ | show retQ _ _ _ _ _ | refine callK (apart_ok s hs j k (by omega) (by omega)) ?_); simp -implicitDefEqProofs only [go_sem, bas, basL, Nat.reduceAdd, Nat.reduceSub, Nat.reduceMul, Nat.reduceLT, Nat.reduceLeDiff, Nat.reduceEqDiff, Nat.reduceBEq, Int.reduceLT, Int.reduceLE, Int.reduceToNat, Int.reduceAdd, Int.reduceSub, Int.reduceMul, Int.reduceNeg, Int.reduceEq, reduceCtorEq, eq_self, ne_eq, not_false_eq_true, if_true, reduceIte])
        | ((first | (refine hK _ ?_; clear hK K) | show thenQ _ _ _ _ | show blockQ _ _ _ _ | show noGoQ _ _ _); simp only [noGoQ, thenQ, blockQ, if_true, Nat.reduceEqDiff, reduceIte])
        | (intro hg; first | (exfalso; omega) | (exfalso; contradiction) | skip)
        | apply And.intro
        | (with_reducible rfl)
        | (clear hK; omega)
        | omega)
    · refine (clashD_some ⟨hk0, by omega, hg, fun a b h1 h2 h3 => ?_⟩).symm
      rcases h3 with h3 | ⟨rfl, h3⟩
      · exact hi a b h1 h2 h3
      · exact hb b h1 h3
    · refine ⟨k + 1, ⟨by omega, by omega, fun b h1 h2 => ?_⟩, by omega, le_of rfl (by try simp -implicitDefEqProofs only [go_sem, bas, basL, Nat.reduceAdd, Nat.reduceSub, Nat.reduceMul, Nat.reduceLT, Nat.reduceLeDiff, Nat.reduceEqDiff, Nat.reduceBEq, Int.reduceLT, Int.reduceLE, Int.reduceToNat, Int.reduceAdd, Int.reduceSub, Int.reduceMul, Int.reduceNeg, Int.reduceEq, reduceCtorEq, eq_self, ne_eq, not_false_eq_true, if_true, reduceIte]; try simp) ⟨_, rfl⟩ ⟨_, rfl⟩⟩
      by_cases h9 : b = k
      · rw [h9]; exact hg
      · exact hb b h1 (by omega)
    · refine ⟨j + 1, ⟨by omega, fun a b h1 h2 h3 => ?_⟩, by omega, le_of rfl (by try simp -implicitDefEqProofs only [go_sem, bas, basL, Nat.reduceAdd, Nat.reduceSub, Nat.reduceMul, Nat.reduceLT, Nat.reduceLeDiff, Nat.reduceEqDiff, Nat.reduceBEq, Int.reduceLT, Int.reduceLE, Int.reduceToNat, Int.reduceAdd, Int.reduceSub, Int.reduceMul, Int.reduceNeg, Int.reduceEq, reduceCtorEq, eq_self, ne_eq, not_false_eq_true, if_true, reduceIte]; try simp) ⟨_, rfl⟩ ⟨_, rfl⟩⟩
      rcases Nat.lt_or_eq_of_le (Nat.le_of_lt_succ h3) with h4 | h4
      · exact hi a b h1 h2 h4
      · subst h4; exact hb b h1 (by omega)
  · exact (clashD_none fun a b h1 h2 => hi a b h1 h2 (by omega)).symm
set_option maxRecDepth 100000 in
set_option maxHeartbeats 4000000 in
theorem agreed_arg (s : Stn) (hl : s.ck.length ≤ 9223372036854775807) (f : Bool) (h : ¬ (StOk s ∧ f = true)) : CallsTo Tryz.prog 34 [stD s, .bool f] (.tup [noM, i64 2]) := by
  by_cases hs : StOk s
  · obtain rfl : f = false := by cases f <;> simp_all
    have hv : CallsTo Tryz.prog 50 [stD s] (.bool true) := decide_eq_true hs ▸ gvalid_ok s hl
    refine calls_abs Tryz.func34 Tryz.ntmps34 Tryz.results34 Tryz.call34 rfl (by simp) fun w0 S0 M0 => ?_
    repeat' (first
        | refine abs_seq ?_
        | refine abs_block ?_
        | refine abs_skip ?_
        | refine abs_scope ?_
        | refine abs_label ?_
        | refine abs_exit ?_
        | refine abs_ret ?_
        | ((first | refine abs_region fun K hK => ?_ | refine abs_draw Tryz.ty.mixed (by kernel_rfl) fun K hK => ?_ | refine abs_if ?_ | show retQ _ _ _ _ _ | refine callK (hv) ?_); simp -implicitDefEqProofs only [go_sem, bas, basL, Nat.reduceAdd, Nat.reduceSub, Nat.reduceMul, Nat.reduceLT, Nat.reduceLeDiff, Nat.reduceEqDiff, Nat.reduceBEq, Int.reduceLT, Int.reduceLE, Int.reduceToNat, Int.reduceAdd, Int.reduceSub, Int.reduceMul, Int.reduceNeg, Int.reduceEq, reduceCtorEq, eq_self, ne_eq, not_false_eq_true, if_true, reduceIte])
        | ((first | (refine hK _ ?_; clear hK K) | show thenQ _ _ _ _ | show blockQ _ _ _ _ | show noGoQ _ _ _); simp only [noGoQ, thenQ, blockQ, if_true, Nat.reduceEqDiff, reduceIte])
        | (exact (rfl : (Value.slice none 0 0).oneCell' = true))
        | (exact (rfl : (Value.map none).oneCell' = true))
        | (intro hg; first | (exfalso; omega) | (exfalso; contradiction) | skip)
        | apply And.intro
        | (with_reducible rfl)
        | (clear hK; omega)
        | omega)
  · have hv : CallsTo Tryz.prog 50 [stD s] (.bool false) := decide_eq_false hs ▸ gvalid_ok s hl
    refine calls_abs Tryz.func34 Tryz.ntmps34 Tryz.results34 Tryz.call34 rfl (by simp) fun w0 S0 M0 => ?_
    repeat' (first
        | refine abs_seq ?_
        | refine abs_block ?_
        | refine abs_skip ?_
        | refine abs_scope ?_
        | refine abs_label ?_
        | refine abs_exit ?_
        | refine abs_ret ?_
        | ((first | refine abs_region fun K hK => ?_ | refine abs_draw Tryz.ty.mixed (by kernel_rfl) fun K hK => ?_ | refine abs_if ?_ | show retQ _ _ _ _ _ | refine callK (hv) ?_); simp -implicitDefEqProofs only [go_sem, bas, basL, Nat.reduceAdd, Nat.reduceSub, Nat.reduceMul, Nat.reduceLT, Nat.reduceLeDiff, Nat.reduceEqDiff, Nat.reduceBEq, Int.reduceLT, Int.reduceLE, Int.reduceToNat, Int.reduceAdd, Int.reduceSub, Int.reduceMul, Int.reduceNeg, Int.reduceEq, reduceCtorEq, eq_self, ne_eq, not_false_eq_true, if_true, reduceIte])
        | ((first | (refine hK _ ?_; clear hK K) | show thenQ _ _ _ _ | show blockQ _ _ _ _ | show noGoQ _ _ _); simp only [noGoQ, thenQ, blockQ, if_true, Nat.reduceEqDiff, reduceIte])
        | (exact (rfl : (Value.slice none 0 0).oneCell' = true))
        | (exact (rfl : (Value.map none).oneCell' = true))
        | (intro hg; first | (exfalso; omega) | (exfalso; contradiction) | skip)
        | apply And.intro
        | (with_reducible rfl)
        | (clear hK; omega)
        | omega)
set_option maxRecDepth 100000 in
set_option maxHeartbeats 4000000 in
theorem agreed_rule (s : Stn) (hs : StOk s) (hc : ¬ NoClash s) : CallsTo Tryz.prog 34 [stD s, .bool true] (.tup [noM, i64 7]) := by
  have hl := hs.n
  have hv : CallsTo Tryz.prog 50 [stD s] (.bool true) := decide_eq_true hs ▸ gvalid_ok s (by omega)
  obtain ⟨i, k, h⟩ := (clash_or s).resolve_left hc
  have hk : CallsTo Tryz.prog 64 [stM s] (.tup [i64 i, i64 k, .bool true]) := clashD_some h ▸ gclash_ok s hs
  refine calls_abs Tryz.func34 Tryz.ntmps34 Tryz.results34 Tryz.call34 rfl (by simp) fun w0 S0 M0 => ?_
  repeat' (first
      | refine abs_seq ?_
      | refine abs_block ?_
      | refine abs_skip ?_
      | refine abs_scope ?_
      | refine abs_label ?_
      | refine abs_exit ?_
      | refine abs_ret ?_
      | ((first | refine abs_region fun K hK => ?_ | refine abs_draw Tryz.ty.mixed (by kernel_rfl) fun K hK => ?_ | refine abs_if ?_ | show retQ _ _ _ _ _ | refine callK (hv) ?_ | refine callK (look_ok s) ?_ | refine callK (hk) ?_); simp -implicitDefEqProofs only [go_sem, bas, basL, Nat.reduceAdd, Nat.reduceSub, Nat.reduceMul, Nat.reduceLT, Nat.reduceLeDiff, Nat.reduceEqDiff, Nat.reduceBEq, Int.reduceLT, Int.reduceLE, Int.reduceToNat, Int.reduceAdd, Int.reduceSub, Int.reduceMul, Int.reduceNeg, Int.reduceEq, reduceCtorEq, eq_self, ne_eq, not_false_eq_true, if_true, reduceIte])
      | ((first | (refine hK _ ?_; clear hK K) | show thenQ _ _ _ _ | show blockQ _ _ _ _ | show noGoQ _ _ _); simp only [noGoQ, thenQ, blockQ, if_true, Nat.reduceEqDiff, reduceIte])
      | (exact (rfl : (Value.slice none 0 0).oneCell' = true))
      | (exact (rfl : (Value.map none).oneCell' = true))
      | (intro hg; first | (exfalso; omega) | (exfalso; contradiction) | skip)
      | apply And.intro
      | (with_reducible rfl)
      | (clear hK; omega)
      | omega)
set_option maxRecDepth 100000 in
set_option maxHeartbeats 4000000 in
theorem agreed_ok (s : Stn) (hs : StOk s) (hc : NoClash s) : CallsTo Tryz.prog 34 [stD s, .bool true] (.tup [stM s, i64 0]) := by
  have hl := hs.n
  have hv : CallsTo Tryz.prog 50 [stD s] (.bool true) := decide_eq_true hs ▸ gvalid_ok s (by omega)
  have hk : CallsTo Tryz.prog 64 [stM s] (.tup [i64 0, i64 0, .bool false]) := clashD_none hc ▸ gclash_ok s hs
  refine calls_abs Tryz.func34 Tryz.ntmps34 Tryz.results34 Tryz.call34 rfl (by simp) fun w0 S0 M0 => ?_
  repeat' (first
      | refine abs_seq ?_
      | refine abs_block ?_
      | refine abs_skip ?_
      | refine abs_scope ?_
      | refine abs_label ?_
      | refine abs_exit ?_
      | refine abs_ret ?_
      | ((first | refine abs_region fun K hK => ?_ | refine abs_draw Tryz.ty.mixed (by kernel_rfl) fun K hK => ?_ | refine abs_if ?_ | show retQ _ _ _ _ _ | refine callK (hv) ?_ | refine callK (look_ok s) ?_ | refine callK (hk) ?_); simp -implicitDefEqProofs only [go_sem, bas, basL, Nat.reduceAdd, Nat.reduceSub, Nat.reduceMul, Nat.reduceLT, Nat.reduceLeDiff, Nat.reduceEqDiff, Nat.reduceBEq, Int.reduceLT, Int.reduceLE, Int.reduceToNat, Int.reduceAdd, Int.reduceSub, Int.reduceMul, Int.reduceNeg, Int.reduceEq, reduceCtorEq, eq_self, ne_eq, not_false_eq_true, if_true, reduceIte])
      | ((first | (refine hK _ ?_; clear hK K) | show thenQ _ _ _ _ | show blockQ _ _ _ _ | show noGoQ _ _ _); simp only [noGoQ, thenQ, blockQ, if_true, Nat.reduceEqDiff, reduceIte])
      | (exact (rfl : (Value.slice none 0 0).oneCell' = true))
      | (exact (rfl : (Value.map none).oneCell' = true))
      | (intro hg; first | (exfalso; omega) | (exfalso; contradiction) | skip)
      | apply And.intro
      | (with_reducible rfl)
      | (clear hK; omega)
      | omega)
/-- What Clash answers. -/
noncomputable def gcD (s : Stn) : D := if StOk s then (match clashP s with | some p => .tup [i64 p.1, i64 p.2, i64 0] | none => .tup [i64 0, i64 0, i64 5]) else .tup [i64 0, i64 0, i64 2]
end Go.Proofs.YtdbiiegohemahaaGreatDoor
