/- The law ScoreTempted returns true for every input (a pay of three numbers, points so far, a belief, a step and other parts), and leaves its arguments as they were.
Its conditions: none beyond those of the given row, which are the ones that the statement itself names. -/
import Derived.Test.YthamljpomhjepaaRx
import Derived.Test.YthamljpomhjepaaN1
import Derived.Test.YthamljpomhjepaaR5
import Derived.Test.YthamljpomhjepaaP8
import Derived.Test.YthamljpomhjepaaKn
set_option linter.unusedVariables false
set_option linter.unusedSimpArgs false
section
namespace Go.Ab
open Go.ChangeShapes
theorem trodAll_five {H : Type} {enc : TypeId × Value → H} {P : Program} {w : World} {base : Nat} {spare : Nat → Bool} {held : Bool} {t t' t'' t3 t4 : TypeId} {args : Array Value} {ds : List (DataW H)} {ps : List MemPlace}
    (h : DataW.TrodAll enc P w base spare held [t, t', t'', t3, t4] args.toList ds ps) :
    ∃ v v' v'' v3 v4 d d' d'' d3 d4 p p' p'' p3 p4, args = #[v, v', v'', v3, v4] ∧ ds = [d, d', d'', d3, d4] ∧ ps = p ++ p' ++ p'' ++ p3 ++ p4 ∧ DataW.Trod enc P w base spare held t v d p ∧ DataW.Trod enc P w base spare held t' v' d' p' ∧
      DataW.Trod enc P w base spare held t'' v'' d'' p'' ∧ DataW.Trod enc P w base spare held t3 v3 d3 p3 ∧ DataW.Trod enc P w base spare held t4 v4 d4 p4 := by
  obtain ⟨v, vs, d, ds1, p, q, hargs, rfl, rfl, hd, h1⟩ := trodAll_cons h
  obtain ⟨v', vs1, d', ds2, p', q1, rfl, rfl, rfl, hd1, h2⟩ := trodAll_cons h1
  obtain ⟨v'', vs2, d'', ds3, p'', q2, rfl, rfl, rfl, hd2, h3⟩ := trodAll_cons h2
  obtain ⟨v3, vs3, d3, ds4, p3, q3, rfl, rfl, rfl, hd3, h4⟩ := trodAll_cons h3
  obtain ⟨v4, vs4, d4, ds5, p4, q4, rfl, rfl, rfl, hd4, h5⟩ := trodAll_cons h4
  obtain ⟨rfl, rfl, rfl⟩ := trodAll_nil h5
  exact ⟨v, v', v'', v3, v4, d, d', d'', d3, d4, p, p', p'', p3, p4, by cases args; simp_all, rfl, by simp, hd, hd1, hd2, hd3, hd4⟩
end Go.Ab
end
section
namespace Go.Proofs.Ythamljpomhjepaa
open Go.Ab
attribute [local irreducible] Abs CallK CallR CallsTo

theorem sumTo_le {f g : Nat → Int} : ∀ n, (∀ i, i < n → f i ≤ g i) → sumTo f n ≤ sumTo g n
  | 0, _ => Int.le_refl _
  | n + 1, h => by
    have := sumTo_le n (fun i hi => h i (by omega))
    have := h n (by omega)
    simp only [sumTo]; omega
theorem sumTo_congr {f g : Nat → Int} : ∀ n, (∀ i, i < n → f i = g i) → sumTo f n = sumTo g n
  | 0, _ => rfl
  | n + 1, h => by simp only [sumTo]; rw [sumTo_congr n (fun i hi => h i (by omega)), h n (by omega)]
theorem sumTo_mul (c : Int) (f : Nat → Int) : ∀ n, sumTo (fun k => c * f k) n = c * sumTo f n
  | 0 => by simp [sumTo]
  | n + 1 => by simp only [sumTo, sumTo_mul c f n]; rw [Int.mul_add]
theorem sumTo_add (f g : Nat → Int) : ∀ n, sumTo (fun k => f k + g k) n = sumTo f n + sumTo g n
  | 0 => by simp [sumTo]
  | n + 1 => by simp only [sumTo, sumTo_add f g n]; omega
/-- What parts earn where the least is not reached: within 100 of what they hope for. -/
theorem free_bd {a r c s : Int} (hc : 0 ≤ c) (hr : 0 ≤ r) {b l : List Int} (hb : Parts b) (hl : Parts l) (hbl : b.length = l.length) (h : c < payD a r 0 (s - 10000)) :
    10000 * Erg a r c s b l ≤ 1000000 * a + (r * s * 100 + r * Hp b l) ∧ 1000000 * a + (r * s * 100 + r * Hp b l) - 999900 ≤ 10000 * Erg a r c s b l := by
  have hs : sumTo (nth b) b.length = 100 := hb.2.2.2
  have e0 : sumTo (fun k => nth b k * (r * (s + Gn l k))) b.length = r * s * 100 + r * Hp b l := by
    have e1 : ∀ k, nth b k * (r * (s + Gn l k)) = r * s * nth b k + r * (nth b k * Gn l k) := fun k => by grind
    rw [sumTo_congr _ (fun i _ => e1 i), sumTo_add, sumTo_mul, sumTo_mul, hs]
    rfl
  have e2 : ∀ k, k < b.length → payD a r c (s + Gn l k) = a + (r * (s + Gn l k)) / 10000 := fun k hk => by
    have g1 := (Gn_10k hl (k := k) (by omega)).1
    have g2 : r * (s - 10000) ≤ r * (s + Gn l k) := Int.mul_le_mul_of_nonneg_left (by omega) hr
    have g3 : r * (s - 10000) / 10000 ≤ r * (s + Gn l k) / 10000 := Int.ediv_le_ediv (by decide) g2
    unfold payD at h ⊢
    omega
  have e3 : Erg a r c s b l = sumTo (fun k => nth b k * (a + (r * (s + Gn l k)) / 10000)) b.length := sumTo_congr _ (fun k hk => by simp only [e2 k hk])
  have e4 : sumTo (fun k => 10000 * a * nth b k + nth b k * (r * (s + Gn l k))) b.length = 1000000 * a + (r * s * 100 + r * Hp b l) := by
    rw [sumTo_add, sumTo_mul, hs, e0]; omega
  rw [e3, ← sumTo_mul, ← e4]
  constructor
  · refine sumTo_le _ fun k hk => ?_
    have g1 := hb.small.2 k
    have g2 : r * (s + Gn l k) / 10000 * 10000 ≤ r * (s + Gn l k) := Int.ediv_mul_le _ (by decide)
    have g3 := Int.mul_le_mul_of_nonneg_left g2 g1.1
    generalize r * (s + Gn l k) / 10000 = q at *
    generalize r * (s + Gn l k) = m at *
    have : 10000 * (nth b k * (a + q)) = 10000 * a * nth b k + nth b k * (q * 10000) := by grind
    omega
  · have e5 : sumTo (fun k => 10000 * a * nth b k + nth b k * (r * (s + Gn l k))) b.length - 999900 = sumTo (fun k => (10000 * a * nth b k + nth b k * (r * (s + Gn l k))) + (-9999) * nth b k) b.length := by
      rw [sumTo_add _ (fun k => (-9999) * nth b k), sumTo_mul, hs]; omega
    rw [e5]
    refine sumTo_le _ fun k hk => ?_
    have g1 := hb.small.2 k
    have g2 : r * (s + Gn l k) - 9999 ≤ r * (s + Gn l k) / 10000 * 10000 := by omega
    have g3 := Int.mul_le_mul_of_nonneg_left g2 g1.1
    generalize r * (s + Gn l k) / 10000 = q at *
    generalize r * (s + Gn l k) = m at *
    have : 10000 * (nth b k * (a + q)) = 10000 * a * nth b k + nth b k * (q * 10000) := by grind
    have : nth b k * (m - 9999) = nth b k * m - 9999 * nth b k := by grind
    omega
/-- Where the least is not reached, no parts earn a penny more than the belief. -/
theorem free_lt {a r c s : Int} (hc : 0 ≤ c) (hr : 0 ≤ r) {b l : List Int} (hb : Parts b) (hl : Parts l) (hbl : b.length = l.length) (h : c < payD a r 0 (s - 10000)) : Erg a r c s b l - Erg a r c s b b < 100 := by
  have h1 := (free_bd hc hr hb hl hbl h).1
  have h2 := (free_bd hc hr hb hb rfl h).2
  have h3 := lose_eq hb hl hbl
  have h4 := apart_nn b l
  have h5 : r * Hp b l ≤ r * Hp b b := Int.mul_le_mul_of_nonneg_left (by omega) hr
  omega

set_option maxRecDepth 100000 in
set_option maxHeartbeats 4000000 in
theorem earn_ok (a r c sofar : Int) (b l : List Int) (hp : Paper a r c) (hs : -99990000 ≤ sofar ∧ sofar ≤ 99990000) (hb : Small b) (hl : Parts l) (hbl : b.length = l.length) :
    CallsTo Try.prog 64 [.agg [i64 a, i64 r, i64 c], i64 sofar, ints b, ints l] (.tup [i64 (Erg a r c sofar b l), .bool true]) := by
  refine calls_abs Try.func64 Try.ntmps64 Try.results64 Try.call64 rfl (by simp) fun w0 S0 M0 => ?_
  repeat' (first
      | refine abs_seq ?_
      | refine abs_block ?_
      | refine abs_skip ?_
      | refine abs_exit ?_
      | refine abs_ret ?_
      | ((first | refine abs_region fun K hK => ?_ | refine abs_draw Try.ty.mixed (by kernel_rfl) fun K hK => ?_ | refine abs_if ?_); simp only [go_sem, bas, basL, Nat.reduceAdd, Nat.reduceSub, Nat.reduceMul, Nat.reduceLT, Nat.reduceLeDiff, Nat.reduceEqDiff, Nat.reduceBEq, Int.reduceLT, Int.reduceLE, Int.reduceToNat, Int.reduceAdd, Int.reduceSub, Int.reduceMul, Int.reduceNeg, Int.reduceEq, reduceCtorEq, eq_self, ne_eq, not_false_eq_true, if_true, reduceIte])
      | (refine hK _ ?_; clear hK K; simp only [thenQ, blockQ, if_true, Nat.reduceEqDiff, reduceIte])
      | (show thenQ _ _ _ _; simp only [thenQ, blockQ, if_true, Nat.reduceEqDiff, reduceIte])
      | (show blockQ _ _ _ _; simp only [thenQ, blockQ, if_true, Nat.reduceEqDiff, reduceIte])
      | (show retQ _ _ _ _ _; simp only [go_sem, bas, basL, Nat.reduceAdd, Nat.reduceSub, Nat.reduceMul, Nat.reduceLT, Nat.reduceLeDiff, Nat.reduceEqDiff, Nat.reduceBEq, Int.reduceLT, Int.reduceLE, Int.reduceToNat, Int.reduceAdd, Int.reduceSub, Int.reduceMul, Int.reduceNeg, Int.reduceEq, reduceCtorEq, eq_self, ne_eq, not_false_eq_true, if_true, reduceIte])
      | (intro hg; first | (exfalso; omega) | (exfalso; contradiction) | skip)
      | apply And.intro
      | (with_reducible rfl)
      | (clear hK; omega)
      | omega)
  refine abs_loopN (ι := Nat) (fun j => [(1, i64 sofar), (2, ints b), (3, ints l), (4, .box 0 0), (10, i64 (sumTo (fun k => nth b k * payD a r c (sofar + Gn l k)) j)), (11, i64 j)]) (fun _ => [.mu [i64 a, i64 r, i64 c]]) (fun _ => [])
    (fun j => j ≤ l.length) (fun j => l.length - j) (fun _ _ => ⟨rfl, rfl⟩) 0 (Nat.zero_le _) (le_of rfl (by try simp only [go_sem, bas, basL, Nat.reduceAdd, Nat.reduceSub, Nat.reduceMul, Nat.reduceLT, Nat.reduceLeDiff, Nat.reduceEqDiff, Nat.reduceBEq, Int.reduceLT, Int.reduceLE, Int.reduceToNat, Int.reduceAdd, Int.reduceSub, Int.reduceMul, Int.reduceNeg, Int.reduceEq, reduceCtorEq, eq_self, ne_eq, not_false_eq_true, if_true, reduceIte]; try simp [sumTo]) ⟨_, rfl⟩ ⟨_, rfl⟩) (fun j hj => ?_)
  have b0 := Gn_bd hl.small
  have b1 := sumTo_bd (f := fun k => nth b k * payD a r c (sofar + Gn l k)) (lo := 0) (hi := 10000000000) j (fun i _ => by
    have h1 := hb.2 i
    have h2 := b0 i
    have h3 := payD_bd hp (n := sofar + Gn l i) (by omega) (by omega)
    have h4 := mul_bd (b := payD a r c (sofar + Gn l i)) (B := 100000000) h1.1 h1.2 h3.1 h3.2
    omega)
  have b2 := hb.2 j
  have b3 := b0 j
  have b4 := payD_bd hp (n := sofar + Gn l j) (by omega) (by omega)
  have b5 := mul_bd (b := payD a r c (sofar + Gn l j)) (B := 100000000) b2.1 b2.2 b4.1 b4.2
  have b6 : j < l.length → -10000 ≤ Gn l j ∧ Gn l j ≤ 10000 := fun h => Gn_10k hl (by omega)
  have b7 := hb.1
  have q3 : j < l.length → CallsTo Try.prog 19 [ints l, i64 j] (.tup [i64 (Gn l j), i64 0]) := fun h => by
    have := gainx_ok l j
    rw [if_pos ⟨hl, by omega, by omega⟩, if_pos ⟨hl, by omega, by omega⟩] at this
    exact this
  have q4 : j < l.length → CallsTo Try.prog 56 [.agg [i64 a, i64 r, i64 c], i64 (sofar + Gn l j)] (.tup [i64 (payD a r c (sofar + Gn l j)), i64 0]) := fun h => by
    have := payx_ok a r c (sofar + Gn l j)
    have := b6 h
    rwa [if_pos ⟨hp, by omega, by omega⟩] at *
  simp only [go_sem, bas, basL, Nat.reduceAdd, Nat.reduceSub, Nat.reduceMul, Nat.reduceLT, Nat.reduceLeDiff, Nat.reduceEqDiff, Nat.reduceBEq, Int.reduceLT, Int.reduceLE, Int.reduceToNat, Int.reduceAdd, Int.reduceSub, Int.reduceMul, Int.reduceNeg, Int.reduceEq, reduceCtorEq, eq_self, ne_eq, not_false_eq_true, if_true, reduceIte]
  repeat' (first
      | refine abs_seq ?_
      | refine abs_block ?_
      | refine abs_skip ?_
      | refine abs_exit ?_
      | refine abs_ret ?_
      | ((first | refine abs_region fun K hK => ?_ | refine abs_draw Try.ty.mixed (by kernel_rfl) fun K hK => ?_ | refine abs_if ?_); simp only [go_sem, bas, basL, Nat.reduceAdd, Nat.reduceSub, Nat.reduceMul, Nat.reduceLT, Nat.reduceLeDiff, Nat.reduceEqDiff, Nat.reduceBEq, Int.reduceLT, Int.reduceLE, Int.reduceToNat, Int.reduceAdd, Int.reduceSub, Int.reduceMul, Int.reduceNeg, Int.reduceEq, reduceCtorEq, eq_self, ne_eq, not_false_eq_true, if_true, reduceIte])
      | (refine hK _ ?_; clear hK K; simp only [thenQ, blockQ, if_true, Nat.reduceEqDiff, reduceIte])
      | (show thenQ _ _ _ _; simp only [thenQ, blockQ, if_true, Nat.reduceEqDiff, reduceIte])
      | (show blockQ _ _ _ _; simp only [thenQ, blockQ, if_true, Nat.reduceEqDiff, reduceIte])
      | ((first | refine callK (q3 (by omega)) ?_ | refine callK (q4 (by omega)) ?_); try simp only [go_sem, bas, basL, Nat.reduceAdd, Nat.reduceSub, Nat.reduceMul, Nat.reduceLT, Nat.reduceLeDiff, Nat.reduceEqDiff, Nat.reduceBEq, Int.reduceLT, Int.reduceLE, Int.reduceToNat, Int.reduceAdd, Int.reduceSub, Int.reduceMul, Int.reduceNeg, Int.reduceEq, reduceCtorEq, eq_self, ne_eq, not_false_eq_true, if_true, reduceIte])
      | (show retQ _ _ _ _ _; simp only [go_sem, bas, basL, Nat.reduceAdd, Nat.reduceSub, Nat.reduceMul, Nat.reduceLT, Nat.reduceLeDiff, Nat.reduceEqDiff, Nat.reduceBEq, Int.reduceLT, Int.reduceLE, Int.reduceToNat, Int.reduceAdd, Int.reduceSub, Int.reduceMul, Int.reduceNeg, Int.reduceEq, reduceCtorEq, eq_self, ne_eq, not_false_eq_true, if_true, reduceIte])
      | (intro hg; first | (exfalso; omega) | (exfalso; contradiction) | skip)
      | apply And.intro
      | (with_reducible rfl)
      | (clear hK; omega)
      | omega)
  · exact ⟨j + 1, by omega, by omega, le_of rfl (by try simp only [go_sem, bas, basL, Nat.reduceAdd, Nat.reduceSub, Nat.reduceMul, Nat.reduceLT, Nat.reduceLeDiff, Nat.reduceEqDiff, Nat.reduceBEq, Int.reduceLT, Int.reduceLE, Int.reduceToNat, Int.reduceAdd, Int.reduceSub, Int.reduceMul, Int.reduceNeg, Int.reduceEq, reduceCtorEq, eq_self, ne_eq, not_false_eq_true, if_true, reduceIte]; try simp [sumTo]) ⟨_, rfl⟩ ⟨_, rfl⟩⟩
  · obtain rfl : j = l.length := by omega
    unfold Erg
    rw [hbl]
end Go.Proofs.Ythamljpomhjepaa
end
section
namespace Go.Proofs.Ythamljpomhjepaa
open Go.Ab
attribute [local irreducible] Abs CallK CallR CallsTo

theorem bestS_val (w : List Int → Int) {c : Nat} {step : Int} (h : 1 ≤ step) : (bestS w c step).2 = w (bestS w c step).1 := by
  have hp := List.length_pos_iff.2 (stm_ne (c := c) h)
  unfold bestS
  obtain ⟨m, hm⟩ : ∃ m, (stm c step).length = m + 1 := ⟨(stm c step).length - 1, by omega⟩
  rw [hm]; exact bst_val w _ m

set_option maxRecDepth 100000 in
set_option maxHeartbeats 4000000 in
theorem tempted_law (a r c n step : Int) (b o : List Int) (hb : b.length ≤ 9223372036854775807) (ho : o.length ≤ 9223372036854775807) : CallsTo Try.prog 15 [.agg [i64 a, i64 r, i64 c], i64 n, ints b, i64 step, ints o] (.bool true) := by
  by_cases h0 : Paper a r c
  · by_cases h4 : -99990000 ≤ n ∧ n ≤ 99990000
    · by_cases h1 : Parts b
      · have p1 := h1.2.1
        have p2 := h1.2.2.1
        by_cases h2 : Step step
        · by_cases h3 : Stt b o step
          · have q1 := ptempt_ok a r c n step b
            rw [if_pos ⟨h0, h4, h1, h2⟩, bestS_val _ h2.1] at q1
            have hm := bestS_mem (c := b.length) (Erg a r c n b) h2.1
            have hst := stm_stt (b := b) (by omega) h2 hm
            have hbn := best_near (w := Erg a r c n b) (c := b.length) h2.1 (stt_mem h2.1 h3)
            have hfr : c < payD a r 0 (n - 10000) → Erg a r c n b (bestS (Erg a r c n b) b.length step).1 - Erg a r c n b b < 100 := fun h => free_lt h0.2.1.1 h0.2.2.1 h1 hst.2.1 hst.2.2.symm h
            generalize (bestS (Erg a r c n b) b.length step).1 = l at *
            have hll : l.length ≤ 3 := hst.2.1.2.2.1
            have q2 := earn_ok a r c n b l h0 h4 h1.small hst.2.1 hst.2.2.symm
            have q3 := earn_ok a r c n b o h0 h4 h1.small h3.2.1 h3.2.2.symm
            have q4 := before_ok o l ho
            have q5 := earn_ok a r c n b b h0 h4 h1.small h1 rfl
            have q6 := payx_ok a r 0 (n - 10000)
            rw [if_pos ⟨⟨h0.1, by omega, h0.2.2⟩, by omega, by omega⟩] at q6
            have e3 := Erg_bd h0 (sofar := n) (by omega) h1.small h1.small
            have e4 := Erg_bd h0 (sofar := n) (by omega) h1.small hst.2.1.small
            have e5 := Erg_bd h0 (sofar := n) (by omega) h1.small h3.2.1.small
            refine calls_abs Try.func15 Try.ntmps15 Try.results15 Try.call15 rfl (by simp) fun w0 S0 M0 => ?_
            repeat' (first
                | refine abs_seq ?_
                | refine abs_block ?_
                | refine abs_skip ?_
                | refine abs_exit ?_
                | refine abs_ret ?_
                | ((first | refine abs_region fun K hK => ?_ | refine abs_draw Try.ty.mixed (by kernel_rfl) fun K hK => ?_ | refine abs_if ?_); simp only [go_sem, bas, basL, Nat.reduceAdd, Nat.reduceSub, Nat.reduceMul, Nat.reduceLT, Nat.reduceLeDiff, Nat.reduceEqDiff, Nat.reduceBEq, Int.reduceLT, Int.reduceLE, Int.reduceToNat, Int.reduceAdd, Int.reduceSub, Int.reduceMul, Int.reduceNeg, Int.reduceEq, reduceCtorEq, eq_self, ne_eq, not_false_eq_true, if_true, reduceIte])
                | (refine hK _ ?_; clear hK K; simp only [thenQ, blockQ, if_true, Nat.reduceEqDiff, reduceIte])
                | (show thenQ _ _ _ _; simp only [thenQ, blockQ, if_true, Nat.reduceEqDiff, reduceIte])
                | (show blockQ _ _ _ _; simp only [thenQ, blockQ, if_true, Nat.reduceEqDiff, reduceIte])
                | ((first | refine callK (known_ok) ?_ | refine callK (q1) ?_ | refine callK (q2) ?_ | refine callK (q3) ?_ | refine callK (q5) ?_ | refine callK (q6) ?_ | refine callK (paper_ok a r c) ?_ | refine callK (sofar_ok n) ?_ | refine callK (parts_ok b hb) ?_ | refine callK (step_ok step) ?_ | refine callK (stated_ok b o step ho h2) ?_ | refine callK (stated_ok b l step (by omega) h2) ?_ | refine callK (q4) ?_); try simp only [go_sem, bas, basL, Nat.reduceAdd, Nat.reduceSub, Nat.reduceMul, Nat.reduceLT, Nat.reduceLeDiff, Nat.reduceEqDiff, Nat.reduceBEq, Int.reduceLT, Int.reduceLE, Int.reduceToNat, Int.reduceAdd, Int.reduceSub, Int.reduceMul, Int.reduceNeg, Int.reduceEq, reduceCtorEq, eq_self, ne_eq, not_false_eq_true, if_true, reduceIte])
                | (show retQ _ _ _ _ _; simp only [go_sem, bas, basL, Nat.reduceAdd, Nat.reduceSub, Nat.reduceMul, Nat.reduceLT, Nat.reduceLeDiff, Nat.reduceEqDiff, Nat.reduceBEq, Int.reduceLT, Int.reduceLE, Int.reduceToNat, Int.reduceAdd, Int.reduceSub, Int.reduceMul, Int.reduceNeg, Int.reduceEq, reduceCtorEq, eq_self, ne_eq, not_false_eq_true, if_true, reduceIte])
                | (intro hg; first | (exfalso; omega) | (exfalso; contradiction) | skip)
                | apply And.intro
                | (with_reducible rfl)
                | (clear hK; omega)
                | omega)
            all_goals
              exfalso
              first
              | (have := hbn.2 (by omega); rw [hg] at this; cases this)
              | (have := hfr (by omega); omega)
          · refine calls_abs Try.func15 Try.ntmps15 Try.results15 Try.call15 rfl (by simp) fun w0 S0 M0 => ?_
            repeat' (first
                | refine abs_seq ?_
                | refine abs_block ?_
                | refine abs_skip ?_
                | refine abs_exit ?_
                | refine abs_ret ?_
                | ((first | refine abs_region fun K hK => ?_ | refine abs_draw Try.ty.mixed (by kernel_rfl) fun K hK => ?_ | refine abs_if ?_); simp only [go_sem, bas, basL, Nat.reduceAdd, Nat.reduceSub, Nat.reduceMul, Nat.reduceLT, Nat.reduceLeDiff, Nat.reduceEqDiff, Nat.reduceBEq, Int.reduceLT, Int.reduceLE, Int.reduceToNat, Int.reduceAdd, Int.reduceSub, Int.reduceMul, Int.reduceNeg, Int.reduceEq, reduceCtorEq, eq_self, ne_eq, not_false_eq_true, if_true, reduceIte])
                | (refine hK _ ?_; clear hK K; simp only [thenQ, blockQ, if_true, Nat.reduceEqDiff, reduceIte])
                | (show thenQ _ _ _ _; simp only [thenQ, blockQ, if_true, Nat.reduceEqDiff, reduceIte])
                | (show blockQ _ _ _ _; simp only [thenQ, blockQ, if_true, Nat.reduceEqDiff, reduceIte])
                | ((first | refine callK (known_ok) ?_ | refine callK (paper_ok a r c) ?_ | refine callK (sofar_ok n) ?_ | refine callK (parts_ok b hb) ?_ | refine callK (step_ok step) ?_ | refine callK (stated_ok b o step ho h2) ?_); try simp only [go_sem, bas, basL, Nat.reduceAdd, Nat.reduceSub, Nat.reduceMul, Nat.reduceLT, Nat.reduceLeDiff, Nat.reduceEqDiff, Nat.reduceBEq, Int.reduceLT, Int.reduceLE, Int.reduceToNat, Int.reduceAdd, Int.reduceSub, Int.reduceMul, Int.reduceNeg, Int.reduceEq, reduceCtorEq, eq_self, ne_eq, not_false_eq_true, if_true, reduceIte])
                | (show retQ _ _ _ _ _; simp only [go_sem, bas, basL, Nat.reduceAdd, Nat.reduceSub, Nat.reduceMul, Nat.reduceLT, Nat.reduceLeDiff, Nat.reduceEqDiff, Nat.reduceBEq, Int.reduceLT, Int.reduceLE, Int.reduceToNat, Int.reduceAdd, Int.reduceSub, Int.reduceMul, Int.reduceNeg, Int.reduceEq, reduceCtorEq, eq_self, ne_eq, not_false_eq_true, if_true, reduceIte])
                | (intro hg; first | (exfalso; omega) | (exfalso; contradiction) | skip)
                | apply And.intro
                | (with_reducible rfl)
                | (clear hK; omega)
                | omega)
            all_goals skip
        · refine calls_abs Try.func15 Try.ntmps15 Try.results15 Try.call15 rfl (by simp) fun w0 S0 M0 => ?_
          repeat' (first
              | refine abs_seq ?_
              | refine abs_block ?_
              | refine abs_skip ?_
              | refine abs_exit ?_
              | refine abs_ret ?_
              | ((first | refine abs_region fun K hK => ?_ | refine abs_draw Try.ty.mixed (by kernel_rfl) fun K hK => ?_ | refine abs_if ?_); simp only [go_sem, bas, basL, Nat.reduceAdd, Nat.reduceSub, Nat.reduceMul, Nat.reduceLT, Nat.reduceLeDiff, Nat.reduceEqDiff, Nat.reduceBEq, Int.reduceLT, Int.reduceLE, Int.reduceToNat, Int.reduceAdd, Int.reduceSub, Int.reduceMul, Int.reduceNeg, Int.reduceEq, reduceCtorEq, eq_self, ne_eq, not_false_eq_true, if_true, reduceIte])
              | (refine hK _ ?_; clear hK K; simp only [thenQ, blockQ, if_true, Nat.reduceEqDiff, reduceIte])
              | (show thenQ _ _ _ _; simp only [thenQ, blockQ, if_true, Nat.reduceEqDiff, reduceIte])
              | (show blockQ _ _ _ _; simp only [thenQ, blockQ, if_true, Nat.reduceEqDiff, reduceIte])
              | ((first | refine callK (known_ok) ?_ | refine callK (paper_ok a r c) ?_ | refine callK (sofar_ok n) ?_ | refine callK (parts_ok b hb) ?_ | refine callK (step_ok step) ?_); try simp only [go_sem, bas, basL, Nat.reduceAdd, Nat.reduceSub, Nat.reduceMul, Nat.reduceLT, Nat.reduceLeDiff, Nat.reduceEqDiff, Nat.reduceBEq, Int.reduceLT, Int.reduceLE, Int.reduceToNat, Int.reduceAdd, Int.reduceSub, Int.reduceMul, Int.reduceNeg, Int.reduceEq, reduceCtorEq, eq_self, ne_eq, not_false_eq_true, if_true, reduceIte])
              | (show retQ _ _ _ _ _; simp only [go_sem, bas, basL, Nat.reduceAdd, Nat.reduceSub, Nat.reduceMul, Nat.reduceLT, Nat.reduceLeDiff, Nat.reduceEqDiff, Nat.reduceBEq, Int.reduceLT, Int.reduceLE, Int.reduceToNat, Int.reduceAdd, Int.reduceSub, Int.reduceMul, Int.reduceNeg, Int.reduceEq, reduceCtorEq, eq_self, ne_eq, not_false_eq_true, if_true, reduceIte])
              | (intro hg; first | (exfalso; omega) | (exfalso; contradiction) | skip)
              | apply And.intro
              | (with_reducible rfl)
              | (clear hK; omega)
              | omega)
          all_goals skip
      · refine calls_abs Try.func15 Try.ntmps15 Try.results15 Try.call15 rfl (by simp) fun w0 S0 M0 => ?_
        repeat' (first
            | refine abs_seq ?_
            | refine abs_block ?_
            | refine abs_skip ?_
            | refine abs_exit ?_
            | refine abs_ret ?_
            | ((first | refine abs_region fun K hK => ?_ | refine abs_draw Try.ty.mixed (by kernel_rfl) fun K hK => ?_ | refine abs_if ?_); simp only [go_sem, bas, basL, Nat.reduceAdd, Nat.reduceSub, Nat.reduceMul, Nat.reduceLT, Nat.reduceLeDiff, Nat.reduceEqDiff, Nat.reduceBEq, Int.reduceLT, Int.reduceLE, Int.reduceToNat, Int.reduceAdd, Int.reduceSub, Int.reduceMul, Int.reduceNeg, Int.reduceEq, reduceCtorEq, eq_self, ne_eq, not_false_eq_true, if_true, reduceIte])
            | (refine hK _ ?_; clear hK K; simp only [thenQ, blockQ, if_true, Nat.reduceEqDiff, reduceIte])
            | (show thenQ _ _ _ _; simp only [thenQ, blockQ, if_true, Nat.reduceEqDiff, reduceIte])
            | (show blockQ _ _ _ _; simp only [thenQ, blockQ, if_true, Nat.reduceEqDiff, reduceIte])
            | ((first | refine callK (known_ok) ?_ | refine callK (paper_ok a r c) ?_ | refine callK (sofar_ok n) ?_ | refine callK (parts_ok b hb) ?_); try simp only [go_sem, bas, basL, Nat.reduceAdd, Nat.reduceSub, Nat.reduceMul, Nat.reduceLT, Nat.reduceLeDiff, Nat.reduceEqDiff, Nat.reduceBEq, Int.reduceLT, Int.reduceLE, Int.reduceToNat, Int.reduceAdd, Int.reduceSub, Int.reduceMul, Int.reduceNeg, Int.reduceEq, reduceCtorEq, eq_self, ne_eq, not_false_eq_true, if_true, reduceIte])
            | (show retQ _ _ _ _ _; simp only [go_sem, bas, basL, Nat.reduceAdd, Nat.reduceSub, Nat.reduceMul, Nat.reduceLT, Nat.reduceLeDiff, Nat.reduceEqDiff, Nat.reduceBEq, Int.reduceLT, Int.reduceLE, Int.reduceToNat, Int.reduceAdd, Int.reduceSub, Int.reduceMul, Int.reduceNeg, Int.reduceEq, reduceCtorEq, eq_self, ne_eq, not_false_eq_true, if_true, reduceIte])
            | (intro hg; first | (exfalso; omega) | (exfalso; contradiction) | skip)
            | apply And.intro
            | (with_reducible rfl)
            | (clear hK; omega)
            | omega)
        all_goals skip
    · refine calls_abs Try.func15 Try.ntmps15 Try.results15 Try.call15 rfl (by simp) fun w0 S0 M0 => ?_
      repeat' (first
          | refine abs_seq ?_
          | refine abs_block ?_
          | refine abs_skip ?_
          | refine abs_exit ?_
          | refine abs_ret ?_
          | ((first | refine abs_region fun K hK => ?_ | refine abs_draw Try.ty.mixed (by kernel_rfl) fun K hK => ?_ | refine abs_if ?_); simp only [go_sem, bas, basL, Nat.reduceAdd, Nat.reduceSub, Nat.reduceMul, Nat.reduceLT, Nat.reduceLeDiff, Nat.reduceEqDiff, Nat.reduceBEq, Int.reduceLT, Int.reduceLE, Int.reduceToNat, Int.reduceAdd, Int.reduceSub, Int.reduceMul, Int.reduceNeg, Int.reduceEq, reduceCtorEq, eq_self, ne_eq, not_false_eq_true, if_true, reduceIte])
          | (refine hK _ ?_; clear hK K; simp only [thenQ, blockQ, if_true, Nat.reduceEqDiff, reduceIte])
          | (show thenQ _ _ _ _; simp only [thenQ, blockQ, if_true, Nat.reduceEqDiff, reduceIte])
          | (show blockQ _ _ _ _; simp only [thenQ, blockQ, if_true, Nat.reduceEqDiff, reduceIte])
          | ((first | refine callK (known_ok) ?_ | refine callK (paper_ok a r c) ?_ | refine callK (sofar_ok n) ?_); try simp only [go_sem, bas, basL, Nat.reduceAdd, Nat.reduceSub, Nat.reduceMul, Nat.reduceLT, Nat.reduceLeDiff, Nat.reduceEqDiff, Nat.reduceBEq, Int.reduceLT, Int.reduceLE, Int.reduceToNat, Int.reduceAdd, Int.reduceSub, Int.reduceMul, Int.reduceNeg, Int.reduceEq, reduceCtorEq, eq_self, ne_eq, not_false_eq_true, if_true, reduceIte])
          | (show retQ _ _ _ _ _; simp only [go_sem, bas, basL, Nat.reduceAdd, Nat.reduceSub, Nat.reduceMul, Nat.reduceLT, Nat.reduceLeDiff, Nat.reduceEqDiff, Nat.reduceBEq, Int.reduceLT, Int.reduceLE, Int.reduceToNat, Int.reduceAdd, Int.reduceSub, Int.reduceMul, Int.reduceNeg, Int.reduceEq, reduceCtorEq, eq_self, ne_eq, not_false_eq_true, if_true, reduceIte])
          | (intro hg; first | (exfalso; omega) | (exfalso; contradiction) | skip)
          | apply And.intro
          | (with_reducible rfl)
          | (clear hK; omega)
          | omega)
      all_goals skip
  · refine calls_abs Try.func15 Try.ntmps15 Try.results15 Try.call15 rfl (by simp) fun w0 S0 M0 => ?_
    repeat' (first
        | refine abs_seq ?_
        | refine abs_block ?_
        | refine abs_skip ?_
        | refine abs_exit ?_
        | refine abs_ret ?_
        | ((first | refine abs_region fun K hK => ?_ | refine abs_draw Try.ty.mixed (by kernel_rfl) fun K hK => ?_ | refine abs_if ?_); simp only [go_sem, bas, basL, Nat.reduceAdd, Nat.reduceSub, Nat.reduceMul, Nat.reduceLT, Nat.reduceLeDiff, Nat.reduceEqDiff, Nat.reduceBEq, Int.reduceLT, Int.reduceLE, Int.reduceToNat, Int.reduceAdd, Int.reduceSub, Int.reduceMul, Int.reduceNeg, Int.reduceEq, reduceCtorEq, eq_self, ne_eq, not_false_eq_true, if_true, reduceIte])
        | (refine hK _ ?_; clear hK K; simp only [thenQ, blockQ, if_true, Nat.reduceEqDiff, reduceIte])
        | (show thenQ _ _ _ _; simp only [thenQ, blockQ, if_true, Nat.reduceEqDiff, reduceIte])
        | (show blockQ _ _ _ _; simp only [thenQ, blockQ, if_true, Nat.reduceEqDiff, reduceIte])
        | ((first | refine callK (known_ok) ?_ | refine callK (paper_ok a r c) ?_); try simp only [go_sem, bas, basL, Nat.reduceAdd, Nat.reduceSub, Nat.reduceMul, Nat.reduceLT, Nat.reduceLeDiff, Nat.reduceEqDiff, Nat.reduceBEq, Int.reduceLT, Int.reduceLE, Int.reduceToNat, Int.reduceAdd, Int.reduceSub, Int.reduceMul, Int.reduceNeg, Int.reduceEq, reduceCtorEq, eq_self, ne_eq, not_false_eq_true, if_true, reduceIte])
        | (show retQ _ _ _ _ _; simp only [go_sem, bas, basL, Nat.reduceAdd, Nat.reduceSub, Nat.reduceMul, Nat.reduceLT, Nat.reduceLeDiff, Nat.reduceEqDiff, Nat.reduceBEq, Int.reduceLT, Int.reduceLE, Int.reduceToNat, Int.reduceAdd, Int.reduceSub, Int.reduceMul, Int.reduceNeg, Int.reduceEq, reduceCtorEq, eq_self, ne_eq, not_false_eq_true, if_true, reduceIte])
        | (intro hg; first | (exfalso; omega) | (exfalso; contradiction) | skip)
        | apply And.intro
        | (with_reducible rfl)
        | (clear hK; omega)
        | omega)
    all_goals skip
end Go.Proofs.Ythamljpomhjepaa
end
section
namespace Go.Proofs.Ythamljpomhjepaa
open Go.ChangeShapes Go.WideShapes Go.ChangeAt Go.RowKit Go.Ab
theorem own : ownKnob Try.prog.godebug = none := by kernel_rfl
theorem cells3 : Try.prog.cellsOf 3 = 1 := by kernel_rfl
theorem laid_ok : laidOutB Try.prog = true := by kernel_rfl
theorem maps_ok : mapsRowed Try.prog = true := by kernel_rfl
theorem full_ok : ∀ t e, t < Try.prog.types.size → Try.prog.underlying t = some (.slice e) → 0 < Try.prog.cellsOf e := slices_full_of Try.prog (by kernel_rfl)

set_option maxRecDepth 100000 in
theorem scoreTempted_lifted (os : Os) (started : os.Started) (H : Type) (enc : TypeId × Value → H) :
    ReturnsInHanded {} Try.checked os 15 .any (Rows.scoreTemptedSpec.pre6 enc Try.prog Try.f15 Rows.scoreTemptedRow.domain false) (Rows.scoreTemptedSpec.post enc Try.prog Try.f15 false true false false) := by
  refine returnsInHanded_of_change (C := Try.checked) own started (by kernel_rfl) Try.func15
    (ChangeSpec.witness6 (enc := enc) (C := Try.checked) false ⟨#[], #[.agg #[.int .i64 0, .int .i64 0, .int .i64 0], .int .i64 0, .slice none 0 0, .int .i64 0, .slice none 0 0], []⟩ 8 (by kernel_rfl) (by kernel_rfl) (by kernel_rfl) (by kernel_rfl)) ?_
  intro W base args ds gs before hval0 hW hcnd _
  have hval : ∀ (j : Nat) t v, Try.f15.params[j]? = some t → args[j]? = some v → Value.okWide Try.prog W .any base t v := hval0
  have hW' := hW
  obtain ⟨p, q, hA0, hV, hpq, hfz, hnd⟩ := hW'
  have hA : DataW.TrodAll enc Try.prog W 0 (fun _ => true) true Try.f15.params.toList args.toList ds p := hA0
  rw [Try.params15] at hA hval
  obtain ⟨v0, v1, v2, v3, v4, d0, d1, d2, d3, d4, p0, p1, p2, p3, p4, rfl, rfl, hp, h0, h1, h2, h3, h4⟩ := trodAll_five hA
  obtain ⟨_, _, _, ⟨a0x, rfl⟩, ⟨a0y, rfl⟩, ⟨a0z, rfl⟩, r0⟩ := rel_struct3 Try.underlying83 (by kernel_rfl) ⟨rfl, rfl, rfl⟩ cells3 cells3 cells3 (reads_int Try.underlying3) (reads_int Try.underlying3) (reads_int Try.underlying3) (hval 0 83 v0 rfl rfl) h0
  obtain ⟨a1, _, r1⟩ := rel_int Try.underlying3 (hval 1 3 v1 rfl rfl) h1
  obtain ⟨a2, k2, r2⟩ := rel_ints Try.underlying22 Try.underlying3 cells3 (hval 2 22 v2 rfl rfl) h2
  obtain ⟨a3, _, r3⟩ := rel_int Try.underlying3 (hval 3 3 v3 rfl rfl) h3
  obtain ⟨a4, k4, r4⟩ := rel_ints Try.underlying22 Try.underlying3 cells3 (hval 4 22 v4 rfl rfl) h4
  exact calls_law (s := Rows.scoreTemptedSpec) (Ds := [.agg [i64 a0x, i64 a0y, i64 a0z], i64 a1, ints a2, i64 a3, ints a4]) rfl rfl Try.underlying4 ⟨rfl, rfl, rfl⟩ laid_ok maps_ok full_ok (by rw [Try.params15]; decide +kernel) hW (tempted_law a0x a0y a0z a1 a3 a2 a4 k2 k4) rfl (fun q x hx => by
    match q, hx with
    | 0, hx => cases hx; exact r0
    | 1, hx => cases hx; exact r1
    | 2, hx => cases hx; exact r2
    | 3, hx => cases hx; exact r3
    | 4, hx => cases hx; exact r4)

theorem scoreTempted_holds : Rows.ScoreTemptedSaid :=
  OpenClaim.holds_of_wide 15 Try.f15 rfl rfl rfl rfl rfl rfl rfl ⟨rfl, rfl, rfl, rfl, rfl⟩ rfl rfl rfl rfl rfl (by kernel_rfl) Try.func15 (by kernel_rfl)
    (of_decide_eq_true (by kernel_rfl)) (by unfold Func.isWrapper; first | (rw [if_pos (by decide +kernel)]; kernel_rfl) | (rw [if_neg (by decide +kernel)]; exact ⟨rfl, rfl⟩))
    (fun os started H enc _ => scoreTempted_lifted os started H enc)
#print axioms scoreTempted_holds
end Go.Proofs.Ythamljpomhjepaa
end
