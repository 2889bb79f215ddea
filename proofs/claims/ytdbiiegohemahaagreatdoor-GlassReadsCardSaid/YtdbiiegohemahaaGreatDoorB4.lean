import Derived.Test.YtdbiiegohemahaaGreatDoorB3
set_option linter.unusedVariables false
set_option linter.unusedSimpArgs false
namespace Go.Proofs.YtdbiiegohemahaaGreatDoor
open Go.Ab
attribute [local irreducible] Abs CallK CallR CallsTo IA

/-- The bounds that each comparison leaves. -/
def bndK (s : Stn) (day : Int) (k : Nat) : D := spD ((nth s.ck k).lo - s.dr * far day (nth s.ck k).day) ((nth s.ck k).hi + s.dr * far day (nth s.ck k).day)
set_option maxRecDepth 100000 in
set_option maxHeartbeats 4000000 in
theorem bounds_iter (s : Stn) (hs : StOk s) (day : Int) (hd : 0 ≤ day ∧ day ≤ 400) : Iter Tryz.prog 81 [.ro (stMC s), .ro [i64 day]] ((List.range s.ck.length).map fun k => [bndK s day k]) := by
  have hl := hs.n
  have hdr := hs.d
  refine iter_of_ia Tryz.func81 Tryz.ntmps81 Tryz.results81 Tryz.call81 rfl (by simp) fun l J Jx => ?_
  repeat' (first
      | refine ia_seq ?_
      | refine ia_block ?_
      | refine ia_scope ?_
      | refine ia_label ?_
      | refine ia_skip ?_
      | refine ia_exit ?_
      | refine ia_ret ?_
      | (refine ia_if ?_; simp -implicitDefEqProofs only [go_sem, bas, basL, Nat.reduceAdd, Nat.reduceSub, Nat.reduceMul, Nat.reduceLT, Nat.reduceLeDiff, Nat.reduceEqDiff, Nat.reduceBEq, Int.reduceLT, Int.reduceLE, Int.reduceToNat, Int.reduceAdd, Int.reduceSub, Int.reduceMul, Int.reduceNeg, Int.reduceEq, reduceCtorEq, eq_self, ne_eq, not_false_eq_true, if_true, reduceIte])
      | (refine ia_abs fun w0 S0 M0 oq => abs_region fun K hK => ?_; simp -implicitDefEqProofs only [go_sem, bas, basL, Nat.reduceAdd, Nat.reduceSub, Nat.reduceMul, Nat.reduceLT, Nat.reduceLeDiff, Nat.reduceEqDiff, Nat.reduceBEq, Int.reduceLT, Int.reduceLE, Int.reduceToNat, Int.reduceAdd, Int.reduceSub, Int.reduceMul, Int.reduceNeg, Int.reduceEq, reduceCtorEq, eq_self, ne_eq, not_false_eq_true, if_true, reduceIte])
      | (refine ia_abs fun w0 S0 M0 oq => abs_draw Tryz.ty.mixed (by kernel_rfl) fun K hK => ?_; simp -implicitDefEqProofs only [go_sem, bas, basL, Nat.reduceAdd, Nat.reduceSub, Nat.reduceMul, Nat.reduceLT, Nat.reduceLeDiff, Nat.reduceEqDiff, Nat.reduceBEq, Int.reduceLT, Int.reduceLE, Int.reduceToNat, Int.reduceAdd, Int.reduceSub, Int.reduceMul, Int.reduceNeg, Int.reduceEq, reduceCtorEq, eq_self, ne_eq, not_false_eq_true, if_true, reduceIte])
      | (refine hK _ ?_; clear hK K; simp only [thenI, blockI, if_true, Nat.reduceEqDiff, reduceIte])
      | (show thenI _ _ _ _ _; simp only [thenI, blockI, if_true, Nat.reduceEqDiff, reduceIte])
      | (show noGoI _ _ _ _; simp only [noGoI, thenI, blockI, if_true, Nat.reduceEqDiff, reduceIte])
      | (show blockI _ _ _ _ _; simp only [thenI, blockI, if_true, Nat.reduceEqDiff, reduceIte])
      | (intro hg; first | (exfalso; omega) | (exfalso; contradiction) | skip)
      | apply And.intro
      | (with_reducible rfl)
      | (clear hK; omega)
      | omega)
  refine ia_loop (ι := Nat) (fun j => [(0, .val (.func (.yield l) #[] #[])), (1, .ro (stMC s)), (2, .ro [i64 day]), (9, .list (s.ck.map ckD)), (10, i64 s.ck.length), (11, i64 j)]) (fun j => (true, j)) (fun j => j ≤ s.ck.length) (fun j => s.ck.length - j) (fun _ _ => rfl) 0 (Nat.zero_le _) rfl (le_of rfl (by try simp -implicitDefEqProofs only [go_sem, bas, basL, Nat.reduceAdd, Nat.reduceSub, Nat.reduceMul, Nat.reduceLT, Nat.reduceLeDiff, Nat.reduceEqDiff, Nat.reduceBEq, Int.reduceLT, Int.reduceLE, Int.reduceToNat, Int.reduceAdd, Int.reduceSub, Int.reduceMul, Int.reduceNeg, Int.reduceEq, reduceCtorEq, eq_self, ne_eq, not_false_eq_true, if_true, reduceIte]; try simp) ⟨_, rfl⟩ ⟨_, rfl⟩) (fun j hj => ?_)
  have b1 := fun h => hs.far hd (k := j) h
  have b2 := fun h => hs.c j h
  have b5 : j < s.ck.length → -2000 ≤ (nth s.ck j).lo ∧ (nth s.ck j).lo ≤ (nth s.ck j).hi ∧ (nth s.ck j).hi ≤ 2000 := fun h => (hs.c j h).2
  simp -implicitDefEqProofs only [go_sem, bas, basL, Nat.reduceAdd, Nat.reduceSub, Nat.reduceMul, Nat.reduceLT, Nat.reduceLeDiff, Nat.reduceEqDiff, Nat.reduceBEq, Int.reduceLT, Int.reduceLE, Int.reduceToNat, Int.reduceAdd, Int.reduceSub, Int.reduceMul, Int.reduceNeg, Int.reduceEq, reduceCtorEq, eq_self, ne_eq, not_false_eq_true, if_true, reduceIte]
  repeat' (first
      | refine ia_seq ?_
      | refine ia_block ?_
      | refine ia_scope ?_
      | refine ia_label ?_
      | refine ia_skip ?_
      | refine ia_exit ?_
      | refine ia_ret ?_
      | (refine ia_if ?_; simp -implicitDefEqProofs only [go_sem, bas, basL, Nat.reduceAdd, Nat.reduceSub, Nat.reduceMul, Nat.reduceLT, Nat.reduceLeDiff, Nat.reduceEqDiff, Nat.reduceBEq, Int.reduceLT, Int.reduceLE, Int.reduceToNat, Int.reduceAdd, Int.reduceSub, Int.reduceMul, Int.reduceNeg, Int.reduceEq, reduceCtorEq, eq_self, ne_eq, not_false_eq_true, if_true, reduceIte])
      | ((refine callK (gofar_ok day _ hd (b2 (by omega)).1) ?_; try simp -implicitDefEqProofs only [go_sem, bas, basL, Nat.reduceAdd, Nat.reduceSub, Nat.reduceMul, Nat.reduceLT, Nat.reduceLeDiff, Nat.reduceEqDiff, Nat.reduceBEq, Int.reduceLT, Int.reduceLE, Int.reduceToNat, Int.reduceAdd, Int.reduceSub, Int.reduceMul, Int.reduceNeg, Int.reduceEq, reduceCtorEq, eq_self, ne_eq, not_false_eq_true, if_true, reduceIte]))
      | ((refine ia_yieldAt 12 rfl fun K1 hK1 => ?_; simp -implicitDefEqProofs only [go_sem, bas, basL, Nat.reduceAdd, Nat.reduceSub, Nat.reduceMul, Nat.reduceLT, Nat.reduceLeDiff, Nat.reduceEqDiff, Nat.reduceBEq, Int.reduceLT, Int.reduceLE, Int.reduceToNat, Int.reduceAdd, Int.reduceSub, Int.reduceMul, Int.reduceNeg, Int.reduceEq, reduceCtorEq, eq_self, ne_eq, not_false_eq_true, if_true, reduceIte]))
      | (refine hK1 _ _ rfl rfl ?_ ?_ (fun b => ?_); rotate_left; (simp -implicitDefEqProofs only [go_sem, bas, basL, Nat.reduceAdd, Nat.reduceSub, Nat.reduceMul, Nat.reduceLT, Nat.reduceLeDiff, Nat.reduceEqDiff, Nat.reduceBEq, Int.reduceLT, Int.reduceLE, Int.reduceToNat, Int.reduceAdd, Int.reduceSub, Int.reduceMul, Int.reduceNeg, Int.reduceEq, reduceCtorEq, eq_self, ne_eq, not_false_eq_true, if_true, reduceIte]); (simp -implicitDefEqProofs only [go_sem, bas, basL, Nat.reduceAdd, Nat.reduceSub, Nat.reduceMul, Nat.reduceLT, Nat.reduceLeDiff, Nat.reduceEqDiff, Nat.reduceBEq, Int.reduceLT, Int.reduceLE, Int.reduceToNat, Int.reduceAdd, Int.reduceSub, Int.reduceMul, Int.reduceNeg, Int.reduceEq, reduceCtorEq, eq_self, ne_eq, not_false_eq_true, if_true, reduceIte]))
      | (refine ia_abs fun w0 S0 M0 oq => abs_region fun K hK => ?_; simp -implicitDefEqProofs only [go_sem, bas, basL, Nat.reduceAdd, Nat.reduceSub, Nat.reduceMul, Nat.reduceLT, Nat.reduceLeDiff, Nat.reduceEqDiff, Nat.reduceBEq, Int.reduceLT, Int.reduceLE, Int.reduceToNat, Int.reduceAdd, Int.reduceSub, Int.reduceMul, Int.reduceNeg, Int.reduceEq, reduceCtorEq, eq_self, ne_eq, not_false_eq_true, if_true, reduceIte])
      | (refine ia_abs fun w0 S0 M0 oq => abs_draw Tryz.ty.mixed (by kernel_rfl) fun K hK => ?_; simp -implicitDefEqProofs only [go_sem, bas, basL, Nat.reduceAdd, Nat.reduceSub, Nat.reduceMul, Nat.reduceLT, Nat.reduceLeDiff, Nat.reduceEqDiff, Nat.reduceBEq, Int.reduceLT, Int.reduceLE, Int.reduceToNat, Int.reduceAdd, Int.reduceSub, Int.reduceMul, Int.reduceNeg, Int.reduceEq, reduceCtorEq, eq_self, ne_eq, not_false_eq_true, if_true, reduceIte])
      | (refine hK _ ?_; clear hK K; simp only [thenI, blockI, if_true, Nat.reduceEqDiff, reduceIte])
      | (show thenI _ _ _ _ _; simp only [thenI, blockI, if_true, Nat.reduceEqDiff, reduceIte])
      | (show noGoI _ _ _ _; simp only [noGoI, thenI, blockI, if_true, Nat.reduceEqDiff, reduceIte])
      | (show blockI _ _ _ _ _; simp only [thenI, blockI, if_true, Nat.reduceEqDiff, reduceIte])
      | (intro hg; first | (exfalso; omega) | (exfalso; contradiction) | skip)
      | apply And.intro
      | (with_reducible rfl)
      | (clear hK; omega)
      | omega)
  · simp_all
  · have hb : b = true := by simp_all
    subst hb
    exact ⟨j + 1, by omega, by omega, rfl, le_of rfl (by try simp -implicitDefEqProofs only [go_sem, bas, basL, Nat.reduceAdd, Nat.reduceSub, Nat.reduceMul, Nat.reduceLT, Nat.reduceLeDiff, Nat.reduceEqDiff, Nat.reduceBEq, Int.reduceLT, Int.reduceLE, Int.reduceToNat, Int.reduceAdd, Int.reduceSub, Int.reduceMul, Int.reduceNeg, Int.reduceEq, reduceCtorEq, eq_self, ne_eq, not_false_eq_true, if_true, reduceIte]; try simp) ⟨_, rfl⟩ ⟨_, rfl⟩⟩
  · have hj' : j < s.ck.length := by omega
    show ((List.range s.ck.length).map fun k => [bndK s day k])[j]? = _
    simp [hj', bndK]
  · show j = (List.range s.ck.length).length
    simp
    omega
set_option maxRecDepth 100000 in
set_option maxHeartbeats 4000000 in
theorem bounds_ok (s : Stn) (day : Int) : CallsTo Tryz.prog 65 [stM s, i64 day] (.clo 81 [.ro (stMC s), .ro [i64 day]]) := by
  refine calls_abs Tryz.func65 Tryz.ntmps65 Tryz.results65 Tryz.call65 rfl (by simp) fun w0 S0 M0 => ?_
  repeat' (first
      | (refine abs_freeze 0 _ _ rfl rfl ?_; simp only [basL, Nat.reduceAdd])
      | (refine abs_freeze 1 _ _ rfl rfl ?_; simp only [basL, Nat.reduceAdd])
      | refine abs_seq ?_
      | refine abs_block ?_
      | refine abs_skip ?_
      | refine abs_scope ?_
      | refine abs_label ?_
      | refine abs_exit ?_
      | refine abs_ret ?_
      | ((first | refine abs_region fun K hK => ?_ | refine abs_draw Tryz.ty.mixed (by kernel_rfl) fun K hK => ?_ | refine abs_if ?_ | show retQ _ _ _ _ _); simp -implicitDefEqProofs only [go_sem, bas, basL, Nat.reduceAdd, Nat.reduceSub, Nat.reduceMul, Nat.reduceLT, Nat.reduceLeDiff, Nat.reduceEqDiff, Nat.reduceBEq, Int.reduceLT, Int.reduceLE, Int.reduceToNat, Int.reduceAdd, Int.reduceSub, Int.reduceMul, Int.reduceNeg, Int.reduceEq, reduceCtorEq, eq_self, ne_eq, not_false_eq_true, if_true, reduceIte])
      | ((first | (refine hK _ ?_; clear hK K) | show thenQ _ _ _ _ | show blockQ _ _ _ _ | show noGoQ _ _ _); simp only [noGoQ, thenQ, blockQ, if_true, Nat.reduceEqDiff, reduceIte])
      | (intro hg; first | (exfalso; omega) | (exfalso; contradiction) | skip)
      | apply And.intro
      | (with_reducible rfl)
      | (clear hK; omega)
      | omega)
set_option maxRecDepth 100000 in
set_option maxHeartbeats 4000000 in
theorem index_ok (s : Stn) (hs : StOk s) (day : Int) (hd : 0 ≤ day ∧ day ≤ 400) : CallsTo Tryz.prog 36 [stM s, i64 day] (spD (ixL s day) (ixH s day)) := by
  refine calls_abs Tryz.func36 Tryz.ntmps36 Tryz.results36 Tryz.call36 rfl (by simp) fun w0 S0 M0 => ?_
  have hl := hs.n
  have hdr := hs.d
  repeat' (first
      | refine abs_seq ?_
      | refine abs_block ?_
      | refine abs_skip ?_
      | refine abs_scope ?_
      | refine abs_label ?_
      | refine abs_exit ?_
      | refine abs_ret ?_
      | ((first | refine abs_region fun K hK => ?_ | refine abs_draw Tryz.ty.mixed (by kernel_rfl) fun K hK => ?_ | refine abs_if ?_ | show retQ _ _ _ _ _ | refine callK (bounds_ok s day) ?_); simp -implicitDefEqProofs only [go_sem, bas, basL, Nat.reduceAdd, Nat.reduceSub, Nat.reduceMul, Nat.reduceLT, Nat.reduceLeDiff, Nat.reduceEqDiff, Nat.reduceBEq, Int.reduceLT, Int.reduceLE, Int.reduceToNat, Int.reduceAdd, Int.reduceSub, Int.reduceMul, Int.reduceNeg, Int.reduceEq, reduceCtorEq, eq_self, ne_eq, not_false_eq_true, if_true, reduceIte])
      | ((first | (refine hK _ ?_; clear hK K) | show thenQ _ _ _ _ | show blockQ _ _ _ _ | show noGoQ _ _ _); simp only [noGoQ, thenQ, blockQ, if_true, Nat.reduceEqDiff, reduceIte])
      | (intro hg; first | (exfalso; omega) | (exfalso; contradiction) | skip)
      | apply And.intro
      | (with_reducible rfl)
      | (clear hK; omega)
      | omega)
  · rfl
  refine abs_rangeFunc (gf := 81) (cs := [.ro (stMC s), .ro [i64 day]]) (cs' := [.ro (stMC s), .ro [i64 day]]) (xs := (List.range s.ck.length).map fun k => [bndK s day k]) (by try simp -implicitDefEqProofs only [go_sem, bas, basL, Nat.reduceAdd, Nat.reduceSub, Nat.reduceMul, Nat.reduceLT, Nat.reduceLeDiff, Nat.reduceEqDiff, Nat.reduceBEq, Int.reduceLT, Int.reduceLE, Int.reduceToNat, Int.reduceAdd, Int.reduceSub, Int.reduceMul, Int.reduceNeg, Int.reduceEq, reduceCtorEq, eq_self, ne_eq, not_false_eq_true, if_true, reduceIte]) (by try simp -implicitDefEqProofs only [go_sem, bas, basL, Nat.reduceAdd, Nat.reduceSub, Nat.reduceMul, Nat.reduceLT, Nat.reduceLeDiff, Nat.reduceEqDiff, Nat.reduceBEq, Int.reduceLT, Int.reduceLE, Int.reduceToNat, Int.reduceAdd, Int.reduceSub, Int.reduceMul, Int.reduceNeg, Int.reduceEq, reduceCtorEq, eq_self, ne_eq, not_false_eq_true, if_true, reduceIte]) (bounds_iter s hs day hd) (fun x hx => by obtain ⟨y, _, rfl⟩ := List.mem_map.1 hx; rfl) (by simp)
    (slots [(1, i64 day), (2, D.box 0 0), (4, .box 1 0), (7, .box 3 0)]) (fun k => [.mu (stMC s), .mu [i64 0, i64 0], .mu [i64 0, i64 0], .mu [i64 (lowK s day k), i64 (highK s day k)]]) (fun _ => []) 4
    (le_slots rfl (by try simp -implicitDefEqProofs only [go_sem, bas, basL, Nat.reduceAdd, Nat.reduceSub, Nat.reduceMul, Nat.reduceLT, Nat.reduceLeDiff, Nat.reduceEqDiff, Nat.reduceBEq, Int.reduceLT, Int.reduceLE, Int.reduceToNat, Int.reduceAdd, Int.reduceSub, Int.reduceMul, Int.reduceNeg, Int.reduceEq, reduceCtorEq, eq_self, ne_eq, not_false_eq_true, if_true, reduceIte]; try simp [lowK, highK]) ⟨_, rfl⟩ ⟨_, rfl⟩) (slots_names rfl) (fun _ _ => rfl) ?_ (by simp) ?_ ?_
  · intro k hk
    exact ⟨fun _ => .undef, namesBx_of _ rfl⟩
  · intro k x hk w1 S1 M1 l o1 b1 hb1
    rw [List.getElem?_map, Option.map_eq_some_iff] at hk
    obtain ⟨y, hy, rfl⟩ := hk
    obtain ⟨hkl, rfl⟩ := List.getElem?_eq_some_iff.1 hy
    simp only [List.length_range] at hkl
    rw [List.getElem_range]
    have e1 : lowK s day (k + 1) = max (lowK s day k) ((nth s.ck k).lo - s.dr * far day (nth s.ck k).day) := rfl
    have e2 : highK s day (k + 1) = min (highK s day k) ((nth s.ck k).hi + s.dr * far day (nth s.ck k).day) := rfl
    rw [e1, e2]
    show Abs _ _ _ ⟨41, put (slots [(1, i64 day), (2, D.box 0 0), (4, .box 1 0), (7, .box 3 0)]) 22 (spD ((nth s.ck k).lo - s.dr * far day (nth s.ck k).day) ((nth s.ck k).hi + s.dr * far day (nth s.ck k).day)), _, _⟩
    simp -implicitDefEqProofs only [go_sem, bas, basL, Nat.reduceAdd, Nat.reduceSub, Nat.reduceMul, Nat.reduceLT, Nat.reduceLeDiff, Nat.reduceEqDiff, Nat.reduceBEq, Int.reduceLT, Int.reduceLE, Int.reduceToNat, Int.reduceAdd, Int.reduceSub, Int.reduceMul, Int.reduceNeg, Int.reduceEq, reduceCtorEq, eq_self, ne_eq, not_false_eq_true, if_true, reduceIte]
    repeat' (first
        | refine abs_seq ?_
        | refine abs_block ?_
        | refine abs_skip ?_
        | refine abs_scope ?_
        | refine abs_label ?_
        | refine abs_exit ?_
        | refine abs_ret ?_
        | ((first | refine abs_region fun K hK => ?_ | refine abs_draw Tryz.ty.mixed (by kernel_rfl) fun K hK => ?_ | refine abs_if ?_ | show retQ _ _ _ _ _ | refine callK (greatest_ok _ _) ?_ | refine callK (least_ok _ _) ?_); simp -implicitDefEqProofs only [go_sem, bas, basL, Nat.reduceAdd, Nat.reduceSub, Nat.reduceMul, Nat.reduceLT, Nat.reduceLeDiff, Nat.reduceEqDiff, Nat.reduceBEq, Int.reduceLT, Int.reduceLE, Int.reduceToNat, Int.reduceAdd, Int.reduceSub, Int.reduceMul, Int.reduceNeg, Int.reduceEq, reduceCtorEq, eq_self, ne_eq, not_false_eq_true, if_true, reduceIte])
        | ((first | (refine hK _ ?_; clear hK K) | show thenQ _ _ _ _ | show blockQ _ _ _ _ | show noGoQ _ _ _); simp only [noGoQ, thenQ, blockQ, if_true, Nat.reduceEqDiff, reduceIte])
        | (intro hg; first | (exfalso; omega) | (exfalso; contradiction) | skip)
        | apply And.intro
        | (with_reducible rfl)
        | (clear hK; omega)
        | omega)
    simp only [roundQ]
    exact ⟨rfl, fun _ => .inl rfl, ⟨_, rfl⟩, ⟨_, rfl⟩⟩
  · rw [show ((List.range s.ck.length).map fun k => [bndK s day k]).length = s.ck.length by simp]
    show Abs _ _ _ _
    simp -implicitDefEqProofs only [go_sem, bas, basL, Nat.reduceAdd, Nat.reduceSub, Nat.reduceMul, Nat.reduceLT, Nat.reduceLeDiff, Nat.reduceEqDiff, Nat.reduceBEq, Int.reduceLT, Int.reduceLE, Int.reduceToNat, Int.reduceAdd, Int.reduceSub, Int.reduceMul, Int.reduceNeg, Int.reduceEq, reduceCtorEq, eq_self, ne_eq, not_false_eq_true, if_true, reduceIte]
    repeat' (first
        | refine abs_seq ?_
        | refine abs_block ?_
        | refine abs_skip ?_
        | refine abs_scope ?_
        | refine abs_label ?_
        | refine abs_exit ?_
        | refine abs_ret ?_
        | ((first | refine abs_region fun K hK => ?_ | refine abs_draw Tryz.ty.mixed (by kernel_rfl) fun K hK => ?_ | refine abs_if ?_ | show retQ _ _ _ _ _); simp -implicitDefEqProofs only [go_sem, bas, basL, Nat.reduceAdd, Nat.reduceSub, Nat.reduceMul, Nat.reduceLT, Nat.reduceLeDiff, Nat.reduceEqDiff, Nat.reduceBEq, Int.reduceLT, Int.reduceLE, Int.reduceToNat, Int.reduceAdd, Int.reduceSub, Int.reduceMul, Int.reduceNeg, Int.reduceEq, reduceCtorEq, eq_self, ne_eq, not_false_eq_true, if_true, reduceIte])
        | ((first | (refine hK _ ?_; clear hK K) | show thenQ _ _ _ _ | show blockQ _ _ _ _ | show noGoQ _ _ _); simp only [noGoQ, thenQ, blockQ, if_true, Nat.reduceEqDiff, reduceIte])
        | (intro hg; first | (exfalso; omega) | (exfalso; contradiction) | skip)
        | apply And.intro
        | (with_reducible rfl)
        | (clear hK; omega)
        | omega)
    all_goals try rfl
end Go.Proofs.YtdbiiegohemahaaGreatDoor
