/- The law ScoreMore returns true for every input (a suite, two forecasts, a class for each day and district, and days), and leaves its arguments as they were.
Its conditions: none beyond those of the given row, which are the ones that the statement itself names. -/
import Derived.Test.YthamljpomhjepaaRx
import Derived.Test.YthamljpomhjepaaQ12
import Derived.Test.YthamljpomhjepaaQ13
import Derived.Test.YthamljpomhjepaaKn
set_option linter.unusedVariables false
set_option linter.unusedSimpArgs false
section
namespace Go.Ab
open Go.ChangeShapes
theorem trodAll_five {H : Type} {enc : TypeId × Value → H} {P : Program} {w : World} {base : Nat} {spare : Nat → Bool} {held : Bool} {t t' t'' t3 t4 : TypeId} {args : Array Value} {ds : List (DataW H)} {ps : List MemPlace}
    (h : DataW.TrodAll enc P w base spare held [t, t', t'', t3, t4] args.toList ds ps) :
    ∃ v v' v'' v3 v4 d d' d'' d3 d4 p p' p'' p3 p4, args = #[v, v', v'', v3, v4] ∧ ds = [d, d', d'', d3, d4] ∧ ps = p ++ p' ++ p'' ++ p3 ++ p4 ∧ DataW.Trod enc P w base spare held t v d p ∧ DataW.Trod enc P w base spare held t' v' d' p' ∧
      DataW.Trod enc P w base spare held t'' v'' d'' p'' ∧ DataW.Trod enc P w base spare held t3 v3 d3 p3 ∧ DataW.Trod enc P w base spare held t4 v4 d4 p4 := by
  obtain ⟨v, vs, d, ds1, p, q, hargs, rfl, rfl, hd, h1⟩ := trodAll_cons h
  obtain ⟨v', vs1, d', ds2, p', q1, rfl, rfl, rfl, hd1, h2⟩ := trodAll_cons h1
  obtain ⟨v'', vs2, d'', ds3, p'', q2, rfl, rfl, rfl, hd2, h3⟩ := trodAll_cons h2
  obtain ⟨v3, vs3, d3, ds4, p3, q3, rfl, rfl, rfl, hd3, h4⟩ := trodAll_cons h3
  obtain ⟨v4, vs4, d4, ds5, p4, q4, rfl, rfl, rfl, hd4, h5⟩ := trodAll_cons h4
  obtain ⟨rfl, rfl, rfl⟩ := trodAll_nil h5
  exact ⟨v, v', v'', v3, v4, d, d', d'', d3, d4, p, p', p'', p3, p4, by cases args; simp_all, rfl, by simp, hd, hd1, hd2, hd3, hd4⟩
end Go.Ab
end
section
namespace Go.Proofs.Ythamljpomhjepaa
open Go.Ab
attribute [local irreducible] Abs CallK CallR CallsTo

set_option maxRecDepth 100000 in
set_option maxHeartbeats 4000000 in
theorem more_out (c : Int) (W : List Int) (S : List (List Int)) (f g : List (List (List Int))) (t : List (List Int)) (dy : Int) (h : ¬ (Shrt W S ∧ Brief f ∧ Brief g ∧ Suite c W S ∧ Fore c W S f ∧ Fore c W S g ∧ t.length ≤ 8 ∧ Tru c W S t)) :
    CallsTo Try.prog 16 [.agg [i64 c, ints W, intss S], intsss f, intsss g, intss t, i64 dy] (.bool true) := by
  refine calls_abs Try.func16 Try.ntmps16 Try.results16 Try.call16 rfl (by simp) fun w0 S0 M0 => ?_
  repeat' (first
      | (show Abs _ (.region 3 _ true) _ _; exact absurd ⟨by assumption, by assumption, by assumption, by assumption, by assumption, by assumption, by omega, by assumption⟩ h)
      | refine abs_seq ?_
      | refine abs_block ?_
      | refine abs_skip ?_
      | refine abs_exit ?_
      | refine abs_ret ?_
      | ((first | refine abs_region fun K hK => ?_ | refine abs_draw Try.ty.mixed (by kernel_rfl) fun K hK => ?_ | refine abs_if ?_ | show retQ _ _ _ _ _ | refine callK (known_ok) ?_ | refine callK (short_ok c W S) ?_ | refine callK (brief_ok f) ?_ | refine callK (brief_ok g) ?_ | refine callK (suite_ok c W S (by have h := ‹Shrt W S›; have := h.2.2; omega) (by have h := ‹Shrt W S›; have := h.2.1; omega)) ?_ | refine callK (fore_ok c W S f (by have h := ‹Shrt W S›; have := h.2.2; omega) (by have h := ‹Brief f›; have := h.2; omega) ‹Brief f›.rows) ?_ | refine callK (fore_ok c W S g (by have h := ‹Shrt W S›; have := h.2.2; omega) (by have h := ‹Brief g›; have := h.2; omega) ‹Brief g›.rows) ?_ | refine callK (truth_ok c W S t ‹Suite c W S› (by omega)) ?_); simp -implicitDefEqProofs only [go_sem, bas, basL, Nat.reduceAdd, Nat.reduceSub, Nat.reduceMul, Nat.reduceLT, Nat.reduceLeDiff, Nat.reduceEqDiff, Nat.reduceBEq, Int.reduceLT, Int.reduceLE, Int.reduceToNat, Int.reduceAdd, Int.reduceSub, Int.reduceMul, Int.reduceNeg, Int.reduceEq, reduceCtorEq, eq_self, ne_eq, not_false_eq_true, if_true, reduceIte])
      | ((first | (refine hK _ ?_; clear hK K) | show thenQ _ _ _ _ | show blockQ _ _ _ _); simp only [thenQ, blockQ, if_true, Nat.reduceEqDiff, reduceIte])
      | (intro hg; first | (exfalso; omega) | (exfalso; contradiction) | skip)
      | apply And.intro
      | (with_reducible rfl)
      | (clear hK; omega)
      | omega)






set_option maxRecDepth 100000 in
set_option maxHeartbeats 4000000 in
theorem more_in (c : Int) (W : List Int) (S : List (List Int)) (f g : List (List (List Int))) (t : List (List Int)) (dy : Int) (h1 : Shrt W S) (h2 : Brief f) (h3 : Brief g) (hs : Suite c W S) (hf : Fore c W S f) (hg0 : Fore c W S g) (h4 : t.length ≤ 8) (ht : Tru c W S t) :
    CallsTo Try.prog 16 [.agg [i64 c, ints W, intss S], intsss f, intsss g, intss t, i64 dy] (.bool true) := by
  have hS := hs.2.2.1
  have hW := hs.2.1.2
  have hc := hs.1
  have a1 := short_ok c W S
  have a2 := brief_ok f
  have a3 := brief_ok g
  have a4 := suite_ok c W S (by omega) (by omega)
  have a5 := fore_ok c W S f (by omega) (by have := h2.2; omega) h2.rows
  have a6 := fore_ok c W S g (by omega) (by have := h3.2; omega) h3.rows
  have a7 := truth_ok c W S t hs (by omega)
  rw [decide_eq_true h1] at a1
  rw [decide_eq_true h2] at a2
  rw [decide_eq_true h3] at a3
  rw [decide_eq_true hs] at a4
  rw [decide_eq_true hf] at a5
  rw [decide_eq_true hg0] at a6
  rw [decide_eq_true ht] at a7
  have hl : (toS S t W.length dy S.length).length = S.length := by simp [toS]
  have hl2 : (onS t W.length S.length).length = S.length := by simp [onS]
  have sx := to_suite dy hs ht
  have sy := on_suite hs ht
  have fx : Fore c W (toS S t W.length dy S.length) f := fore_len hf hl
  have gx : Fore c W (toS S t W.length dy S.length) g := fore_len hg0 hl
  have p1 := ptotalx_ok c W S f
  have p2 := ptotalx_ok c W (toS S t W.length dy S.length) f
  have p3 := pbeats_ok c W S f g
  have p4 := pbeats_ok c W (toS S t W.length dy S.length) f g
  have p5 := pbeats_ok c W (onS t W.length S.length) f (rgF c.toNat t W.length S.length)
  rw [if_pos ⟨hs, hf⟩] at p1
  rw [if_pos ⟨sx, fx⟩] at p2
  rw [if_pos ⟨hs, hf, hg0⟩] at p3
  rw [if_pos ⟨sx, fx, gx⟩] at p4
  rw [if_pos ⟨sy, fore_len hf hl2, rg_fore hs ht⟩] at p5
  have e1 := more_ends dy none hs hf (fun _ h => by cases h) ht
  have e2 := more_ends dy (some g) hs hf (fun _ h => by cases h; exact hg0) ht
  have e3 := lo_hi (x := ⟨c, W, toS S t W.length dy S.length, f, some g⟩) ⟨sx, fx, fun _ h => by cases h; exact gx⟩
  have e4 := beats_more e2.1 e2.2 e3
  have e5 := never hs hf ht
  have e6 := lo_hi (x := ⟨c, W, onS t W.length S.length, f, some (rgF c.toNat t W.length S.length)⟩) ⟨sy, fore_len hf hl2, fun _ h => by cases h; exact rg_fore hs ht⟩
  have e7 : beatsW (Sd.tlo ⟨c, W, onS t W.length S.length, f, some (rgF c.toNat t W.length S.length)⟩) (Sd.thi ⟨c, W, onS t W.length S.length, f, some (rgF c.toNat t W.length S.length)⟩) = 1 := by
    unfold beatsW
    rw [if_neg (by omega), if_neg (by omega)]
  rw [e7] at p5
  clear e7 e6 e5 e3 e2
  have hat := fun {i k} => tru_c ht (i := i) (k := k)
  have hts := ht.1
  generalize beatsW (Sd.tlo ⟨c, W, S, f, some g⟩) (Sd.thi ⟨c, W, S, f, some g⟩) = w at *
  generalize beatsW (Sd.tlo ⟨c, W, toS S t W.length dy S.length, f, some g⟩) (Sd.thi ⟨c, W, toS S t W.length dy S.length, f, some g⟩) = w' at *
  generalize Sd.tlo ⟨c, W, S, f, none⟩ = lo1 at *
  generalize Sd.thi ⟨c, W, S, f, none⟩ = hi1 at *
  generalize Sd.tlo ⟨c, W, toS S t W.length dy S.length, f, none⟩ = lo2 at *
  generalize Sd.thi ⟨c, W, toS S t W.length dy S.length, f, none⟩ = hi2 at *
  refine calls_abs Try.func16 Try.ntmps16 Try.results16 Try.call16 rfl (by simp) fun w0 S0 M0 => ?_
  repeat' (first
      | (refine r3_use (c := c) (W := W) (S := S) (f := f) (g := g) (t := t) (dy := dy) (by kernel_rfl) (le_slots rfl (by simp -implicitDefEqProofs only [go_sem, bas, basL, Nat.reduceAdd, Nat.reduceSub, Nat.reduceMul, Nat.reduceLT, Nat.reduceLeDiff, Nat.reduceEqDiff, Nat.reduceBEq, Int.reduceLT, Int.reduceLE, Int.reduceToNat, Int.reduceAdd, Int.reduceSub, Int.reduceMul, Int.reduceNeg, Int.reduceEq, reduceCtorEq, eq_self, ne_eq, not_false_eq_true, if_true, reduceIte]; try simp) ⟨_, rfl⟩ ⟨_, rfl⟩) ?_ ?_ <;> simp only [slots_cons, slots_nil])
      | refine abs_seq ?_
      | refine abs_block ?_
      | refine abs_skip ?_
      | refine abs_exit ?_
      | refine abs_ret ?_
      | ((first | refine abs_region fun K hK => ?_ | refine abs_draw Try.ty.mixed (by kernel_rfl) fun K hK => ?_ | refine abs_if ?_ | show retQ _ _ _ _ _ | refine callK (known_ok) ?_ | refine callK (a1) ?_ | refine callK (a2) ?_ | refine callK (a3) ?_ | refine callK (a4) ?_ | refine callK (a5) ?_ | refine callK (a6) ?_ | refine callK (a7) ?_); simp -implicitDefEqProofs only [go_sem, bas, basL, Nat.reduceAdd, Nat.reduceSub, Nat.reduceMul, Nat.reduceLT, Nat.reduceLeDiff, Nat.reduceEqDiff, Nat.reduceBEq, Int.reduceLT, Int.reduceLE, Int.reduceToNat, Int.reduceAdd, Int.reduceSub, Int.reduceMul, Int.reduceNeg, Int.reduceEq, reduceCtorEq, eq_self, ne_eq, not_false_eq_true, if_true, reduceIte])
      | ((first | (refine hK _ ?_; clear hK K) | show thenQ _ _ _ _ | show blockQ _ _ _ _); simp only [thenQ, blockQ, if_true, Nat.reduceEqDiff, reduceIte])
      | (intro hg; first | (exfalso; omega) | (exfalso; contradiction) | skip)
      | apply And.intro
      | (with_reducible rfl)
      | (clear hK; omega)
      | omega)
  · refine abs_adoptB 2 2 22 1 _ rfl rfl ?_
    refine abs_adoptB 1 2 22 1 _ rfl rfl ?_
    refine abs_adopt 13 40 1 rfl ?_
    refine abs_loopN (ι := Nat) (fun i => [(1, intsss f), (2, intsss g), (3, intss t), (4, i64 dy), (5, .box 0 0), (11, .box 2 0), (12, .box 1 0), (13, .own 2), (14, i64 i)]) (fun _ => [.mu [i64 c, ints W, intss S], .mu [i64 c, ints W, .own 1], .mu [i64 c, ints W, .own 0]]) (fun i => [⟨true, 22, 1, (toS S t W.length dy i).map ints⟩, ⟨true, 22, 1, (onS t W.length i).map ints⟩, ⟨true, 40, 1, (rgF c.toNat t W.length i).map intss⟩])
      (fun i => i ≤ S.length) (fun i => S.length - i) (fun _ _ => ⟨rfl, rfl⟩) 0 (Nat.zero_le _) (le_of rfl (by try simp -implicitDefEqProofs only [go_sem, bas, basL, Nat.reduceAdd, Nat.reduceSub, Nat.reduceMul, Nat.reduceLT, Nat.reduceLeDiff, Nat.reduceEqDiff, Nat.reduceBEq, Int.reduceLT, Int.reduceLE, Int.reduceToNat, Int.reduceAdd, Int.reduceSub, Int.reduceMul, Int.reduceNeg, Int.reduceEq, reduceCtorEq, eq_self, ne_eq, not_false_eq_true, if_true, reduceIte]; try simp) ⟨_, rfl⟩ ⟨_, rfl⟩) (fun i hi => ?_)
    have z1 : (toS S t W.length dy i).length = i := by simp [toS]
    have z2 : (onS t W.length i).length = i := by simp [onS]
    have z3 : (rgF c.toNat t W.length i).length = i := by simp [rgF]
    have w4 : i = S.length → CallsTo Try.prog 42 [.agg [i64 c, ints W, intss (toS S t W.length dy i)], intsss f] (.tup [.agg [i64 lo2, i64 hi2], i64 0]) := fun h => by rw [h]; exact p2
    have w5 : i = S.length → CallsTo Try.prog 43 [.agg [i64 c, ints W, intss (toS S t W.length dy i)], intsss f, intsss g] (.tup [i64 w', i64 0]) := fun h => by rw [h]; exact p4
    have w6 : i = S.length → CallsTo Try.prog 43 [.agg [i64 c, ints W, intss (onS t W.length i)], intsss f, intsss (rgF c.toNat t W.length i)] (.tup [i64 1, i64 0]) := fun h => by rw [h]; exact p5
    have hrow := fun {k} => hat (i := i) (k := k)
    simp -implicitDefEqProofs only [go_sem, bas, basL, Nat.reduceAdd, Nat.reduceSub, Nat.reduceMul, Nat.reduceLT, Nat.reduceLeDiff, Nat.reduceEqDiff, Nat.reduceBEq, Int.reduceLT, Int.reduceLE, Int.reduceToNat, Int.reduceAdd, Int.reduceSub, Int.reduceMul, Int.reduceNeg, Int.reduceEq, reduceCtorEq, eq_self, ne_eq, not_false_eq_true, if_true, reduceIte]
    repeat' (first
        | refine abs_seq ?_
        | refine abs_block ?_
        | refine abs_skip ?_
        | refine abs_exit ?_
        | refine abs_ret ?_
        | ((first | refine abs_region fun K hK => ?_ | refine abs_draw Try.ty.mixed (by kernel_rfl) fun K hK => ?_ | refine abs_if ?_ | show retQ _ _ _ _ _ | refine callK (p1) ?_ | refine callK (w4 (by omega)) ?_ | refine callK (p3) ?_ | refine callK (w5 (by omega)) ?_ | refine callK (w6 (by omega)) ?_ | refine callK (known_ok) ?_); simp -implicitDefEqProofs only [go_sem, bas, basL, Nat.reduceAdd, Nat.reduceSub, Nat.reduceMul, Nat.reduceLT, Nat.reduceLeDiff, Nat.reduceEqDiff, Nat.reduceBEq, Int.reduceLT, Int.reduceLE, Int.reduceToNat, Int.reduceAdd, Int.reduceSub, Int.reduceMul, Int.reduceNeg, Int.reduceEq, reduceCtorEq, eq_self, ne_eq, not_false_eq_true, if_true, reduceIte])
        | ((first | (refine hK _ ?_; clear hK K) | show thenQ _ _ _ _ | show blockQ _ _ _ _); simp only [thenQ, blockQ, if_true, Nat.reduceEqDiff, reduceIte])
        | (intro hg; first | (exfalso; omega) | (exfalso; contradiction) | skip)
        | apply And.intro
        | (with_reducible rfl)
        | (clear hK; omega)
        | omega)
    · refine abs_adopt 15 3 1 rfl ?_
      refine abs_adopt 16 22 1 rfl ?_
      refine abs_loopN (ι := Nat) (fun k => [(1, intsss f), (2, intsss g), (3, intss t), (4, i64 dy), (5, .box 0 0), (11, .box 2 0), (12, .box 1 0), (13, .own 2), (14, i64 i), (15, .own 3), (16, .own 4), (17, i64 k)]) (fun _ => [.mu [i64 c, ints W, intss S], .mu [i64 c, ints W, .own 1], .mu [i64 c, ints W, .own 0]]) (fun k => [⟨true, 22, 1, (toS S t W.length dy i).map ints⟩, ⟨true, 22, 1, (onS t W.length i).map ints⟩, ⟨true, 40, 1, (rgF c.toNat t W.length i).map intss⟩, ⟨true, 3, 1, (onR t i k).map (D.int .i64)⟩, ⟨true, 22, 1, (rgR c.toNat t i k).map ints⟩])
        (fun k => k ≤ W.length) (fun k => W.length - k) (fun _ _ => ⟨rfl, rfl⟩) 0 (Nat.zero_le _) (le_of rfl (by try simp -implicitDefEqProofs only [go_sem, bas, basL, Nat.reduceAdd, Nat.reduceSub, Nat.reduceMul, Nat.reduceLT, Nat.reduceLeDiff, Nat.reduceEqDiff, Nat.reduceBEq, Int.reduceLT, Int.reduceLE, Int.reduceToNat, Int.reduceAdd, Int.reduceSub, Int.reduceMul, Int.reduceNeg, Int.reduceEq, reduceCtorEq, eq_self, ne_eq, not_false_eq_true, if_true, reduceIte]; try simp) ⟨_, rfl⟩ ⟨_, rfl⟩) (fun k hk => ?_)
      have z4 : (onR t i k).length = k := by simp [onR]
      have z5 : (rgR c.toNat t i k).length = k := by simp [rgR]
      have hrow := fun h => hrow (k := k) (by omega) h
      have e17 : (0 + c.toNat ≤ (hot c.toNat (nth (nth t i) k).toNat).length) = True := by simp [hot_len]
      have e18 : List.take c.toNat (List.map (D.int .i64) (hot c.toNat (nth (nth t i) k).toNat)) = List.map (D.int .i64) (hot c.toNat (nth (nth t i) k).toNat) := List.take_of_length_le (by simp [hot_len])
      simp -implicitDefEqProofs only [go_sem, bas, basL, Nat.reduceAdd, Nat.reduceSub, Nat.reduceMul, Nat.reduceLT, Nat.reduceLeDiff, Nat.reduceEqDiff, Nat.reduceBEq, Int.reduceLT, Int.reduceLE, Int.reduceToNat, Int.reduceAdd, Int.reduceSub, Int.reduceMul, Int.reduceNeg, Int.reduceEq, reduceCtorEq, eq_self, ne_eq, not_false_eq_true, if_true, reduceIte, e17, e18]
      repeat' (first
          | (show Abs _ (.region 17 _ false) _ _; refine abs_freeze 3 _ ((hot c.toNat (nth (nth t i) k).toNat).map (D.int .i64)) rfl (pure_hot (by simp) (by omega)) ?_; simp only [basL, Nat.reduceAdd])
          | (refine r18B_use (c := c) (W := W) (S := S) (f := f) (g := g) (t := t) (dy := dy) (i := i) (R0 := ⟨true, 22, 1, (toS S t W.length dy i).map ints⟩) (ys := (onS t W.length i).map ints) (rt := (rgF c.toNat t W.length i).map intss) (ow := onR t i k) (rwl := rgR c.toNat t i k) (by kernel_rfl) (le_slots rfl (by simp -implicitDefEqProofs only [go_sem, bas, basL, Nat.reduceAdd, Nat.reduceSub, Nat.reduceMul, Nat.reduceLT, Nat.reduceLeDiff, Nat.reduceEqDiff, Nat.reduceBEq, Int.reduceLT, Int.reduceLE, Int.reduceToNat, Int.reduceAdd, Int.reduceSub, Int.reduceMul, Int.reduceNeg, Int.reduceEq, reduceCtorEq, eq_self, ne_eq, not_false_eq_true, if_true, reduceIte, e17, e18]; try simp) ⟨_, rfl⟩ ⟨_, rfl⟩) (by simp [onS]; omega) (by simp [rgF]; omega) ?_; simp only [slots_cons, slots_nil])
          | refine abs_seq ?_
          | refine abs_block ?_
          | refine abs_skip ?_
          | refine abs_exit ?_
          | refine abs_ret ?_
          | ((first | (show Abs _ (.region 21 _ true) _ _; refine abs_drawX [(137, 144), (140, 144)] [11] Try.ty.mixed (by kernel_rfl) fun K hK => ?_) | show Sep _ _ | show Bxs _ _ | refine abs_region fun K hK => ?_ | refine abs_draw Try.ty.mixed (by kernel_rfl) fun K hK => ?_ | refine abs_if ?_ | show retQ _ _ _ _ _ | refine callK (sets_ok (nth (nth t i) k) (by omega) (by omega)) ?_); simp -implicitDefEqProofs only [go_sem, bas, basL, Nat.reduceAdd, Nat.reduceSub, Nat.reduceMul, Nat.reduceLT, Nat.reduceLeDiff, Nat.reduceEqDiff, Nat.reduceBEq, Int.reduceLT, Int.reduceLE, Int.reduceToNat, Int.reduceAdd, Int.reduceSub, Int.reduceMul, Int.reduceNeg, Int.reduceEq, reduceCtorEq, eq_self, ne_eq, not_false_eq_true, if_true, reduceIte, e17, e18])
          | ((first | (refine hK _ ?_; clear hK K) | show thenQ _ _ _ _ | show blockQ _ _ _ _); simp only [thenQ, blockQ, if_true, Nat.reduceEqDiff, reduceIte])
          | (intro hg; first | (exfalso; omega) | (exfalso; contradiction) | skip)
          | apply And.intro
          | (with_reducible rfl)
          | (clear hK; omega)
          | omega)
      all_goals first
        | (simp; omega; done)
        | (exact ⟨k + 1, by omega, by omega, le_of rfl (by try simp -implicitDefEqProofs only [go_sem, bas, basL, Nat.reduceAdd, Nat.reduceSub, Nat.reduceMul, Nat.reduceLT, Nat.reduceLeDiff, Nat.reduceEqDiff, Nat.reduceBEq, Int.reduceLT, Int.reduceLE, Int.reduceToNat, Int.reduceAdd, Int.reduceSub, Int.reduceMul, Int.reduceNeg, Int.reduceEq, reduceCtorEq, eq_self, ne_eq, not_false_eq_true, if_true, reduceIte, e17, e18]; try simp) ⟨_, rfl⟩ ⟨[], by simp [onR_succ, rgR_succ]⟩⟩)
        | (obtain rfl : k = W.length := by omega
           exact ⟨i + 1, by omega, by omega, le_of rfl (by try simp -implicitDefEqProofs only [go_sem, bas, basL, Nat.reduceAdd, Nat.reduceSub, Nat.reduceMul, Nat.reduceLT, Nat.reduceLeDiff, Nat.reduceEqDiff, Nat.reduceBEq, Int.reduceLT, Int.reduceLE, Int.reduceToNat, Int.reduceAdd, Int.reduceSub, Int.reduceMul, Int.reduceNeg, Int.reduceEq, reduceCtorEq, eq_self, ne_eq, not_false_eq_true, if_true, reduceIte, e17, e18]; try simp) ⟨_, rfl⟩ ⟨_, by simp [toS_yes S t W.length (days := dy) (n := i) (by assumption), onS_succ, rgF_succ]; rfl⟩⟩)
        | (obtain rfl : k = W.length := by omega
           exact ⟨i + 1, by omega, by omega, le_of rfl (by try simp -implicitDefEqProofs only [go_sem, bas, basL, Nat.reduceAdd, Nat.reduceSub, Nat.reduceMul, Nat.reduceLT, Nat.reduceLeDiff, Nat.reduceEqDiff, Nat.reduceBEq, Int.reduceLT, Int.reduceLE, Int.reduceToNat, Int.reduceAdd, Int.reduceSub, Int.reduceMul, Int.reduceNeg, Int.reduceEq, reduceCtorEq, eq_self, ne_eq, not_false_eq_true, if_true, reduceIte, e17, e18]; try simp) ⟨_, rfl⟩ ⟨_, by simp [toS_no S t W.length (days := dy) (n := i) (by assumption), onS_succ, rgF_succ]; rfl⟩⟩)
        | skip
    all_goals skip
  · refine abs_adoptB 1 2 22 1 _ rfl rfl ?_
    refine abs_adoptB 2 2 22 1 _ rfl rfl ?_
    refine abs_adopt 13 40 1 rfl ?_
    refine abs_loopN (ι := Nat) (fun i => [(1, intsss f), (2, intsss g), (3, intss t), (4, i64 dy), (5, .box 0 0), (11, .box 1 0), (12, .box 2 0), (13, .own 2), (14, i64 i)]) (fun _ => [.mu [i64 c, ints W, intss S], .mu [i64 c, ints W, .own 0], .mu [i64 c, ints W, .own 1]]) (fun i => [⟨true, 22, 1, (toS S t W.length dy i).map ints⟩, ⟨true, 22, 1, (onS t W.length i).map ints⟩, ⟨true, 40, 1, (rgF c.toNat t W.length i).map intss⟩])
      (fun i => i ≤ S.length) (fun i => S.length - i) (fun _ _ => ⟨rfl, rfl⟩) 0 (Nat.zero_le _) (le_of rfl (by try simp -implicitDefEqProofs only [go_sem, bas, basL, Nat.reduceAdd, Nat.reduceSub, Nat.reduceMul, Nat.reduceLT, Nat.reduceLeDiff, Nat.reduceEqDiff, Nat.reduceBEq, Int.reduceLT, Int.reduceLE, Int.reduceToNat, Int.reduceAdd, Int.reduceSub, Int.reduceMul, Int.reduceNeg, Int.reduceEq, reduceCtorEq, eq_self, ne_eq, not_false_eq_true, if_true, reduceIte]; try simp) ⟨_, rfl⟩ ⟨_, rfl⟩) (fun i hi => ?_)
    have z1 : (toS S t W.length dy i).length = i := by simp [toS]
    have z2 : (onS t W.length i).length = i := by simp [onS]
    have z3 : (rgF c.toNat t W.length i).length = i := by simp [rgF]
    have w4 : i = S.length → CallsTo Try.prog 42 [.agg [i64 c, ints W, intss (toS S t W.length dy i)], intsss f] (.tup [.agg [i64 lo2, i64 hi2], i64 0]) := fun h => by rw [h]; exact p2
    have w5 : i = S.length → CallsTo Try.prog 43 [.agg [i64 c, ints W, intss (toS S t W.length dy i)], intsss f, intsss g] (.tup [i64 w', i64 0]) := fun h => by rw [h]; exact p4
    have w6 : i = S.length → CallsTo Try.prog 43 [.agg [i64 c, ints W, intss (onS t W.length i)], intsss f, intsss (rgF c.toNat t W.length i)] (.tup [i64 1, i64 0]) := fun h => by rw [h]; exact p5
    have hrow := fun {k} => hat (i := i) (k := k)
    simp -implicitDefEqProofs only [go_sem, bas, basL, Nat.reduceAdd, Nat.reduceSub, Nat.reduceMul, Nat.reduceLT, Nat.reduceLeDiff, Nat.reduceEqDiff, Nat.reduceBEq, Int.reduceLT, Int.reduceLE, Int.reduceToNat, Int.reduceAdd, Int.reduceSub, Int.reduceMul, Int.reduceNeg, Int.reduceEq, reduceCtorEq, eq_self, ne_eq, not_false_eq_true, if_true, reduceIte]
    repeat' (first
        | refine abs_seq ?_
        | refine abs_block ?_
        | refine abs_skip ?_
        | refine abs_exit ?_
        | refine abs_ret ?_
        | ((first | refine abs_region fun K hK => ?_ | refine abs_draw Try.ty.mixed (by kernel_rfl) fun K hK => ?_ | refine abs_if ?_ | show retQ _ _ _ _ _ | refine callK (p1) ?_ | refine callK (w4 (by omega)) ?_ | refine callK (p3) ?_ | refine callK (w5 (by omega)) ?_ | refine callK (w6 (by omega)) ?_ | refine callK (known_ok) ?_); simp -implicitDefEqProofs only [go_sem, bas, basL, Nat.reduceAdd, Nat.reduceSub, Nat.reduceMul, Nat.reduceLT, Nat.reduceLeDiff, Nat.reduceEqDiff, Nat.reduceBEq, Int.reduceLT, Int.reduceLE, Int.reduceToNat, Int.reduceAdd, Int.reduceSub, Int.reduceMul, Int.reduceNeg, Int.reduceEq, reduceCtorEq, eq_self, ne_eq, not_false_eq_true, if_true, reduceIte])
        | ((first | (refine hK _ ?_; clear hK K) | show thenQ _ _ _ _ | show blockQ _ _ _ _); simp only [thenQ, blockQ, if_true, Nat.reduceEqDiff, reduceIte])
        | (intro hg; first | (exfalso; omega) | (exfalso; contradiction) | skip)
        | apply And.intro
        | (with_reducible rfl)
        | (clear hK; omega)
        | omega)
    · refine abs_adopt 15 3 1 rfl ?_
      refine abs_adopt 16 22 1 rfl ?_
      refine abs_loopN (ι := Nat) (fun k => [(1, intsss f), (2, intsss g), (3, intss t), (4, i64 dy), (5, .box 0 0), (11, .box 1 0), (12, .box 2 0), (13, .own 2), (14, i64 i), (15, .own 3), (16, .own 4), (17, i64 k)]) (fun _ => [.mu [i64 c, ints W, intss S], .mu [i64 c, ints W, .own 0], .mu [i64 c, ints W, .own 1]]) (fun k => [⟨true, 22, 1, (toS S t W.length dy i).map ints⟩, ⟨true, 22, 1, (onS t W.length i).map ints⟩, ⟨true, 40, 1, (rgF c.toNat t W.length i).map intss⟩, ⟨true, 3, 1, (onR t i k).map (D.int .i64)⟩, ⟨true, 22, 1, (rgR c.toNat t i k).map ints⟩])
        (fun k => k ≤ W.length) (fun k => W.length - k) (fun _ _ => ⟨rfl, rfl⟩) 0 (Nat.zero_le _) (le_of rfl (by try simp -implicitDefEqProofs only [go_sem, bas, basL, Nat.reduceAdd, Nat.reduceSub, Nat.reduceMul, Nat.reduceLT, Nat.reduceLeDiff, Nat.reduceEqDiff, Nat.reduceBEq, Int.reduceLT, Int.reduceLE, Int.reduceToNat, Int.reduceAdd, Int.reduceSub, Int.reduceMul, Int.reduceNeg, Int.reduceEq, reduceCtorEq, eq_self, ne_eq, not_false_eq_true, if_true, reduceIte]; try simp) ⟨_, rfl⟩ ⟨_, rfl⟩) (fun k hk => ?_)
      have z4 : (onR t i k).length = k := by simp [onR]
      have z5 : (rgR c.toNat t i k).length = k := by simp [rgR]
      have hrow := fun h => hrow (k := k) (by omega) h
      have e17 : (0 + c.toNat ≤ (hot c.toNat (nth (nth t i) k).toNat).length) = True := by simp [hot_len]
      have e18 : List.take c.toNat (List.map (D.int .i64) (hot c.toNat (nth (nth t i) k).toNat)) = List.map (D.int .i64) (hot c.toNat (nth (nth t i) k).toNat) := List.take_of_length_le (by simp [hot_len])
      simp -implicitDefEqProofs only [go_sem, bas, basL, Nat.reduceAdd, Nat.reduceSub, Nat.reduceMul, Nat.reduceLT, Nat.reduceLeDiff, Nat.reduceEqDiff, Nat.reduceBEq, Int.reduceLT, Int.reduceLE, Int.reduceToNat, Int.reduceAdd, Int.reduceSub, Int.reduceMul, Int.reduceNeg, Int.reduceEq, reduceCtorEq, eq_self, ne_eq, not_false_eq_true, if_true, reduceIte, e17, e18]
      repeat' (first
          | (show Abs _ (.region 17 _ false) _ _; refine abs_freeze 3 _ ((hot c.toNat (nth (nth t i) k).toNat).map (D.int .i64)) rfl (pure_hot (by simp) (by omega)) ?_; simp only [basL, Nat.reduceAdd])
          | (refine r18A_use (c := c) (W := W) (S := S) (f := f) (g := g) (t := t) (dy := dy) (i := i) (R0 := ⟨true, 22, 1, (toS S t W.length dy i).map ints⟩) (ys := (onS t W.length i).map ints) (rt := (rgF c.toNat t W.length i).map intss) (ow := onR t i k) (rwl := rgR c.toNat t i k) (by kernel_rfl) (le_slots rfl (by simp -implicitDefEqProofs only [go_sem, bas, basL, Nat.reduceAdd, Nat.reduceSub, Nat.reduceMul, Nat.reduceLT, Nat.reduceLeDiff, Nat.reduceEqDiff, Nat.reduceBEq, Int.reduceLT, Int.reduceLE, Int.reduceToNat, Int.reduceAdd, Int.reduceSub, Int.reduceMul, Int.reduceNeg, Int.reduceEq, reduceCtorEq, eq_self, ne_eq, not_false_eq_true, if_true, reduceIte, e17, e18]; try simp) ⟨_, rfl⟩ ⟨_, rfl⟩) (by simp [onS]; omega) (by simp [rgF]; omega) ?_; simp only [slots_cons, slots_nil])
          | refine abs_seq ?_
          | refine abs_block ?_
          | refine abs_skip ?_
          | refine abs_exit ?_
          | refine abs_ret ?_
          | ((first | (show Abs _ (.region 21 _ true) _ _; refine abs_drawX [(137, 144), (140, 144)] [11] Try.ty.mixed (by kernel_rfl) fun K hK => ?_) | show Sep _ _ | show Bxs _ _ | refine abs_region fun K hK => ?_ | refine abs_draw Try.ty.mixed (by kernel_rfl) fun K hK => ?_ | refine abs_if ?_ | show retQ _ _ _ _ _ | refine callK (sets_ok (nth (nth t i) k) (by omega) (by omega)) ?_); simp -implicitDefEqProofs only [go_sem, bas, basL, Nat.reduceAdd, Nat.reduceSub, Nat.reduceMul, Nat.reduceLT, Nat.reduceLeDiff, Nat.reduceEqDiff, Nat.reduceBEq, Int.reduceLT, Int.reduceLE, Int.reduceToNat, Int.reduceAdd, Int.reduceSub, Int.reduceMul, Int.reduceNeg, Int.reduceEq, reduceCtorEq, eq_self, ne_eq, not_false_eq_true, if_true, reduceIte, e17, e18])
          | ((first | (refine hK _ ?_; clear hK K) | show thenQ _ _ _ _ | show blockQ _ _ _ _); simp only [thenQ, blockQ, if_true, Nat.reduceEqDiff, reduceIte])
          | (intro hg; first | (exfalso; omega) | (exfalso; contradiction) | skip)
          | apply And.intro
          | (with_reducible rfl)
          | (clear hK; omega)
          | omega)
      all_goals first
        | (simp; omega; done)
        | (exact ⟨k + 1, by omega, by omega, le_of rfl (by try simp -implicitDefEqProofs only [go_sem, bas, basL, Nat.reduceAdd, Nat.reduceSub, Nat.reduceMul, Nat.reduceLT, Nat.reduceLeDiff, Nat.reduceEqDiff, Nat.reduceBEq, Int.reduceLT, Int.reduceLE, Int.reduceToNat, Int.reduceAdd, Int.reduceSub, Int.reduceMul, Int.reduceNeg, Int.reduceEq, reduceCtorEq, eq_self, ne_eq, not_false_eq_true, if_true, reduceIte, e17, e18]; try simp) ⟨_, rfl⟩ ⟨[], by simp [onR_succ, rgR_succ]⟩⟩)
        | (obtain rfl : k = W.length := by omega
           exact ⟨i + 1, by omega, by omega, le_of rfl (by try simp -implicitDefEqProofs only [go_sem, bas, basL, Nat.reduceAdd, Nat.reduceSub, Nat.reduceMul, Nat.reduceLT, Nat.reduceLeDiff, Nat.reduceEqDiff, Nat.reduceBEq, Int.reduceLT, Int.reduceLE, Int.reduceToNat, Int.reduceAdd, Int.reduceSub, Int.reduceMul, Int.reduceNeg, Int.reduceEq, reduceCtorEq, eq_self, ne_eq, not_false_eq_true, if_true, reduceIte, e17, e18]; try simp) ⟨_, rfl⟩ ⟨_, by simp [toS_yes S t W.length (days := dy) (n := i) (by assumption), onS_succ, rgF_succ]; rfl⟩⟩)
        | (obtain rfl : k = W.length := by omega
           exact ⟨i + 1, by omega, by omega, le_of rfl (by try simp -implicitDefEqProofs only [go_sem, bas, basL, Nat.reduceAdd, Nat.reduceSub, Nat.reduceMul, Nat.reduceLT, Nat.reduceLeDiff, Nat.reduceEqDiff, Nat.reduceBEq, Int.reduceLT, Int.reduceLE, Int.reduceToNat, Int.reduceAdd, Int.reduceSub, Int.reduceMul, Int.reduceNeg, Int.reduceEq, reduceCtorEq, eq_self, ne_eq, not_false_eq_true, if_true, reduceIte, e17, e18]; try simp) ⟨_, rfl⟩ ⟨_, by simp [toS_no S t W.length (days := dy) (n := i) (by assumption), onS_succ, rgF_succ]; rfl⟩⟩)
        | skip
    all_goals skip
theorem more_law (c : Int) (W : List Int) (S : List (List Int)) (f g : List (List (List Int))) (t : List (List Int)) (dy : Int) : CallsTo Try.prog 16 [.agg [i64 c, ints W, intss S], intsss f, intsss g, intss t, i64 dy] (.bool true) := by
  by_cases h : Shrt W S ∧ Brief f ∧ Brief g ∧ Suite c W S ∧ Fore c W S f ∧ Fore c W S g ∧ t.length ≤ 8 ∧ Tru c W S t
  · obtain ⟨h1, h2, h3, h4, h5, h6, h7, h8⟩ := h
    exact more_in c W S f g t dy h1 h2 h3 h4 h5 h6 h7 h8
  · exact more_out c W S f g t dy h
end Go.Proofs.Ythamljpomhjepaa
end
section
namespace Go.Proofs.Ythamljpomhjepaa
open Go.ChangeShapes Go.WideShapes Go.ChangeAt Go.RowKit Go.Ab
theorem own : ownKnob Try.prog.godebug = none := by kernel_rfl
theorem cells3 : Try.prog.cellsOf 3 = 1 := by kernel_rfl
theorem cells22 : Try.prog.cellsOf 22 = 1 := by kernel_rfl
theorem cells40 : Try.prog.cellsOf 40 = 1 := by kernel_rfl
theorem laid_ok : laidOutB Try.prog = true := by kernel_rfl
theorem maps_ok : mapsRowed Try.prog = true := by kernel_rfl
theorem full_ok : ∀ t e, t < Try.prog.types.size → Try.prog.underlying t = some (.slice e) → 0 < Try.prog.cellsOf e := slices_full_of Try.prog (by kernel_rfl)

set_option maxRecDepth 100000 in
theorem scoreMore_lifted (os : Os) (started : os.Started) (H : Type) (enc : TypeId × Value → H) :
    ReturnsInHanded {} Try.checked os 16 .any (Rows.scoreMoreSpec.pre6 enc Try.prog Try.f16 Rows.scoreMoreRow.domain false) (Rows.scoreMoreSpec.post enc Try.prog Try.f16 false true false false) := by
  refine returnsInHanded_of_change (C := Try.checked) own started (by kernel_rfl) Try.func16
    (ChangeSpec.witness6 (enc := enc) (C := Try.checked) false ⟨#[], #[.agg #[.int .i64 0, .slice none 0 0, .slice none 0 0], .slice none 0 0, .slice none 0 0, .slice none 0 0, .int .i64 0], []⟩ 8 (by kernel_rfl) (by kernel_rfl) (by kernel_rfl) (by kernel_rfl)) ?_
  intro W base args ds gs before hval0 hW hcnd _
  have hval : ∀ (j : Nat) t v, Try.f16.params[j]? = some t → args[j]? = some v → Value.okWide Try.prog W .any base t v := hval0
  have hW' := hW
  obtain ⟨p, q, hA0, hV, hpq, hfz, hnd⟩ := hW'
  have hA : DataW.TrodAll enc Try.prog W 0 (fun _ => true) true Try.f16.params.toList args.toList ds p := hA0
  rw [Try.params16] at hA hval
  obtain ⟨v0, v1, v2, v3, v4, d0, d1, d2, d3, d4, p0, p1, p2, p3, p4, rfl, rfl, hp, h0, h1, h2, h3, h4⟩ := trodAll_five hA
  obtain ⟨_, _, _, ⟨a0x, rfl⟩, ⟨a0y, rfl, k0y⟩, ⟨a0z, rfl, k0z, j0z⟩, r0⟩ := rel_struct3 Try.underlying42 (by kernel_rfl) ⟨rfl, rfl, rfl⟩ cells3 cells22 cells40 (reads_int Try.underlying3) (reads_ints Try.underlying22 Try.underlying3 cells3) (reads_intss Try.underlying40 Try.underlying22 Try.underlying3 cells22 cells3) (hval 0 42 v0 rfl rfl) h0
  obtain ⟨_, ⟨a1, rfl, k1, j1⟩, r1⟩ := rel_read (reads_intsss Try.underlying43 Try.underlying40 Try.underlying22 Try.underlying3 cells40 cells22 cells3) (slice_cells Try.underlying43 (hval 1 43 v1 rfl rfl)) h1
  obtain ⟨_, ⟨a2, rfl, k2, j2⟩, r2⟩ := rel_read (reads_intsss Try.underlying43 Try.underlying40 Try.underlying22 Try.underlying3 cells40 cells22 cells3) (slice_cells Try.underlying43 (hval 2 43 v2 rfl rfl)) h2
  obtain ⟨_, ⟨a3, rfl, k3, j3⟩, r3⟩ := rel_read (reads_intss Try.underlying40 Try.underlying22 Try.underlying3 cells22 cells3) (slice_cells Try.underlying40 (hval 3 40 v3 rfl rfl)) h3
  obtain ⟨a4, _, r4⟩ := rel_int Try.underlying3 (hval 4 3 v4 rfl rfl) h4
  exact calls_law (s := Rows.scoreMoreSpec) (Ds := [.agg [i64 a0x, ints a0y, intss a0z], .list (a1.map intss), .list (a2.map intss), intss a3, i64 a4]) rfl rfl Try.underlying4 ⟨rfl, rfl, rfl⟩ laid_ok maps_ok full_ok (by rw [Try.params16]; decide +kernel) hW (more_law a0x a0y a0z a1 a2 a3 a4) rfl (fun q x hx => by
    match q, hx with
    | 0, hx => cases hx; exact r0
    | 1, hx => cases hx; exact r1
    | 2, hx => cases hx; exact r2
    | 3, hx => cases hx; exact r3
    | 4, hx => cases hx; exact r4)

theorem scoreMore_holds : Rows.ScoreMoreSaid :=
  OpenClaim.holds_of_wide 16 Try.f16 rfl rfl rfl rfl rfl rfl rfl ⟨rfl, rfl, rfl, rfl, rfl⟩ rfl rfl rfl rfl rfl (by kernel_rfl) Try.func16 (by kernel_rfl)
    (of_decide_eq_true (by kernel_rfl)) (by unfold Func.isWrapper; first | (rw [if_pos (by decide +kernel)]; kernel_rfl) | (rw [if_neg (by decide +kernel)]; exact ⟨rfl, rfl⟩))
    (fun os started H enc _ => scoreMore_lifted os started H enc)
#print axioms scoreMore_holds
end Go.Proofs.Ythamljpomhjepaa
end
