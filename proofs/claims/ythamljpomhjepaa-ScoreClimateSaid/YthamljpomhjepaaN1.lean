import Derived.Test.YthamljpomhjepaaL3
import Derived.Test.YthamljpomhjepaaR4
import Derived.Test.YthamljpomhjepaaR3
set_option linter.unusedVariables false
set_option linter.unusedSimpArgs false
namespace Go.Proofs.Ythamljpomhjepaa
open Go.Ab
attribute [local irreducible] Abs CallK CallR CallsTo

/-- Parts in a step, for as many classes as a belief. -/
def Stt (b l : List Int) (step : Int) : Prop := (∀ i, i < l.length → (nth l i).tmod step = 0) ∧ Parts l ∧ l.length = b.length
instance (b l : List Int) (step : Int) : Decidable (Stt b l step) := by unfold Stt; infer_instance

theorem before_app : ∀ (now a b : List Int), before (now ++ a) (now ++ b) = before a b
  | [], _, _ => rfl
  | x :: now, a, b => by
    show (if x = x then before (now ++ a) (now ++ b) else _) = _
    rw [if_pos rfl, before_app now a b]
theorem before_lt {n m : Int} (now a b : List Int) (h : n < m) : before (now ++ n :: a) (now ++ m :: b) = true := by
  rw [before_app]
  show (if n = m then _ else decide (n < m)) = true
  rw [if_neg (by omega)]; simpa using h
theorem before_asymm : ∀ (a b : List Int), before a b = true → before b a = false
  | [], b, h => by
    cases b with
    | nil => rfl
    | cons y b => rfl
  | x :: a, [], h => by cases h
  | x :: a, y :: b, h => by
    have h' : (if x = y then before a b else decide (x < y)) = true := h
    show (if y = x then before b a else decide (y < x)) = false
    by_cases e : x = y
    · rw [if_pos e] at h'; rw [if_pos e.symm]; exact before_asymm a b h'
    · rw [if_neg e] at h'; rw [if_neg (fun h => e h.symm)]
      have := of_decide_eq_true h'
      exact decide_eq_false (by omega)
theorem before_irrefl (a : List Int) : before a a = false := by
  cases h : before a a with
  | false => rfl
  | true => have := before_asymm a a h; rw [h] at this; exact this

theorem srch_pre (step : Int) : ∀ (k : Nat) (now : List Int) (left : Int), ∀ x ∈ srch step k now left, ∃ t, x = now ++ t
  | 0, now, left, x, h => ⟨[left], by simpa [srch] using h⟩
  | k + 1, now, left, x, h => by
    simp only [srch, List.mem_flatMap] at h
    obtain ⟨n, _, hx⟩ := h
    obtain ⟨t, rfl⟩ := srch_pre step k _ _ x hx
    exact ⟨n :: t, by simp⟩
theorem rng_sorted {step left : Int} (h : 1 ≤ step) : (rng step left).Pairwise (· < ·) := by
  unfold rng
  rw [List.pairwise_map]
  exact List.pairwise_lt_range.imp fun {a b} hab => by
    have : step * ((b : Int)) = step * (a : Int) + step * ((b - a : Nat) : Int) := by rw [← Int.mul_add]; congr 1; omega
    have h2 : step * 1 ≤ step * ((b - a : Nat) : Int) := Int.mul_le_mul_of_nonneg_left (by omega) (by omega)
    omega
/-- The statements stand in order. -/
theorem srch_sorted {step : Int} (h : 1 ≤ step) : ∀ (k : Nat) (now : List Int) (left : Int), (srch step k now left).Pairwise fun a b => before a b = true
  | 0, now, left => by simp [srch]
  | k + 1, now, left => by
    simp only [srch]
    rw [List.pairwise_flatMap]
    refine ⟨fun n _ => srch_sorted h k _ _, (rng_sorted h).imp fun {n m} hnm x hx y hy => ?_⟩
    obtain ⟨t, rfl⟩ := srch_pre step k _ _ x hx
    obtain ⟨u, rfl⟩ := srch_pre step k _ _ y hy
    simp only [List.append_assoc, List.singleton_append]
    exact before_lt now t u hnm
theorem stm_sorted (c : Nat) {step : Int} (h : 1 ≤ step) : (stm c step).Pairwise fun a b => before a b = true := srch_sorted h _ _ _
theorem stm_before (c : Nat) {step : Int} (h : 1 ≤ step) {i j : Nat} (hij : i < j) (hj : j < (stm c step).length) : before (nth (stm c step) j) (nth (stm c step) i) = false := by
  have := List.pairwise_iff_getElem.1 (stm_sorted c h) i j (by omega) hj hij
  rw [nth_eq _ i (by omega), nth_eq _ j hj]
  exact before_asymm _ _ this

theorem rng_has {step left n : Int} (h : 1 ≤ step) (h0 : 0 ≤ n) (hl : n ≤ left) (hd : n.tmod step = 0) : n ∈ rng step left := by
  have e : step * (n.tdiv step) + n.tmod step = n := Int.mul_tdiv_add_tmod n step
  have e2 : n.tdiv step = n / step := Int.tdiv_eq_ediv_of_nonneg h0
  have h3 : 0 ≤ n / step := Int.ediv_nonneg h0 (by omega)
  have h4 : n / step ≤ left / step := Int.ediv_le_ediv (by omega) hl
  unfold rng
  refine List.mem_map.2 ⟨(n / step).toNat, List.mem_range.2 (by omega), ?_⟩
  rw [Int.toNat_of_nonneg h3, ← e2]; omega
theorem srch_has {step : Int} (h : 1 ≤ step) : ∀ (k : Nat) (now : List Int) (left : Int) (t : List Int), t.length = k + 1 → t.sum = left → (∀ x ∈ t, 0 ≤ x) → (∀ x ∈ t, x.tmod step = 0) → now ++ t ∈ srch step k now left
  | 0, now, left, t, hl, hs, _, _ => by
    match t, hl with
    | [x], _ => simp at hs; simp [srch, hs]
  | k + 1, now, left, t, hl, hs, h0, hd => by
    match t, hl with
    | n :: t, hl =>
      have hl' : t.length = k + 1 := by simpa using hl
      have hs' : t.sum = left - n := by simp at hs; omega
      have hp : 0 ≤ t.sum := by
        have : ∀ (l : List Int), (∀ x ∈ l, 0 ≤ x) → 0 ≤ l.sum := fun l => by
          induction l with
          | nil => intro _; simp
          | cons a l ih => intro hh; have := ih (fun x hx => hh x (List.mem_cons_of_mem _ hx)); have := hh a List.mem_cons_self; simp; omega
        exact this t (fun x hx => h0 x (List.mem_cons_of_mem _ hx))
      simp only [srch, List.mem_flatMap]
      refine ⟨n, rng_has h (h0 n List.mem_cons_self) (by omega) (hd n List.mem_cons_self), ?_⟩
      have := srch_has h k (now ++ [n]) (left - n) t hl' hs' (fun x hx => h0 x (List.mem_cons_of_mem _ hx)) (fun x hx => hd x (List.mem_cons_of_mem _ hx))
      simpa using this
/-- Parts in a step are among the statements. -/
theorem stt_mem {b l : List Int} {step : Int} (h : 1 ≤ step) (hl : Stt b l step) : l ∈ stm b.length step := by
  obtain ⟨h1, h2, h3⟩ := hl
  have p := h2.2.1
  have := srch_has h (b.length - 1) [] 100 l (by omega) (by rw [← sumTo_sum]; exact h2.2.2.2) (fun x hx => by
    obtain ⟨i, hi, rfl⟩ := List.getElem_of_mem hx
    rw [← nth_eq l i hi]; exact (h2.1 i hi).1) (fun x hx => by
    obtain ⟨i, hi, rfl⟩ := List.getElem_of_mem hx
    rw [← nth_eq l i hi]; exact h1 i hi)
  simpa [stm] using this

theorem rng_mod {step left n : Int} (h : n ∈ rng step left) : n.tmod step = 0 := by
  unfold rng at h
  obtain ⟨i, _, rfl⟩ := List.mem_map.1 h
  exact Int.mul_tmod_right step i
/-- All numbers of a statement but the last are a step's multiples, and so is the last. -/
theorem srch_mod {step : Int} (h : 1 ≤ step) : ∀ (k : Nat) (now : List Int) (left : Int), 0 ≤ left → left.tmod step = 0 → (∀ x ∈ now, x.tmod step = 0) → ∀ y ∈ srch step k now left, ∀ x ∈ y, x.tmod step = 0
  | 0, now, left, _, hl, hn, y, hy, x, hx => by
    simp only [srch, List.mem_singleton] at hy
    subst hy
    rcases List.mem_append.1 hx with hx | hx
    · exact hn x hx
    · rw [List.mem_singleton.1 hx]; exact hl
  | k + 1, now, left, h0, hl, hn, y, hy, x, hx => by
    simp only [srch, List.mem_flatMap] at hy
    obtain ⟨n, hn1, hy⟩ := hy
    have hb := rng_mem h h0 hn1
    have hm := rng_mod hn1
    refine srch_mod h k (now ++ [n]) (left - n) (by omega) ?_ (fun z hz => ?_) y hy x hx
    · rw [Int.tmod_eq_emod_of_nonneg (by omega)]
      rw [Int.tmod_eq_emod_of_nonneg hb.1] at hm
      rw [Int.tmod_eq_emod_of_nonneg h0] at hl
      rw [Int.sub_emod, hl, hm]; simp
    · rcases List.mem_append.1 hz with hz | hz
      · exact hn z hz
      · rw [List.mem_singleton.1 hz]; exact hm
theorem stm_stt {b : List Int} {step : Int} (hb : b.length = 2 ∨ b.length = 3) (hs : Step step) {l : List Int} (hl : l ∈ stm b.length step) : Stt b l step := by
  have p := stm_parts hb hs.1 hl
  refine ⟨fun i hi => ?_, p.1, p.2⟩
  refine srch_mod hs.1 _ _ _ (by decide) ?_ (by simp) l hl _ (by rw [nth_eq l i hi]; exact List.getElem_mem hi)
  have := hs.2.2
  rw [Int.tmod_eq_emod_of_nonneg (by decide)]; exact this

/-- The first that is worth most: nothing is worth more, what comes before is worth less. -/
theorem bst_first {α : Type} [Inhabited α] (w : α → Int) (l : List α) : ∀ k, ∃ i, i < k + 1 ∧ (bst w l (k + 1)).1 = nth l i ∧ (∀ j, j < k + 1 → w (nth l j) ≤ w (nth l i)) ∧ ∀ j, j < i → w (nth l j) < w (nth l i)
  | 0 => ⟨0, by omega, by simp [bst], fun j hj => (by
      have e : j = 0 := by omega
      rw [e]; exact Int.le_refl _), fun j hj => absurd hj (Nat.not_lt_zero j)⟩
  | k + 1 => by
    obtain ⟨i, hi, he, h1, h2⟩ := bst_first w l k
    have hv := bst_val w l k
    by_cases hc : (bst w l (k + 1)).2 < w (nth l (k + 1))
    · refine ⟨k + 1, by omega, by rw [bst, if_pos (.inr hc)], fun j hj => ?_, fun j hj => ?_⟩
      · rw [hv, he] at hc
        by_cases e : j = k + 1
        · rw [e]; exact Int.le_refl _
        · have := h1 j (by omega); omega
      · rw [hv, he] at hc
        have := h1 j (by omega); omega
    · refine ⟨i, by omega, by rw [bst, if_neg (by simp; omega)]; exact he, fun j hj => ?_, h2⟩
      rw [hv, he] at hc
      by_cases e : j = k + 1
      · rw [e]; omega
      · exact h1 j (by omega)
/-- Of the statements, the told one is worth most, and none that is worth as much comes before it. -/
theorem best_near {w : List Int → Int} {c : Nat} {step : Int} (h : 1 ≤ step) {x : List Int} (hx : x ∈ stm c step) :
    w x ≤ w (bestS w c step).1 ∧ (w x = w (bestS w c step).1 → before x (bestS w c step).1 = false) := by
  have hp := List.length_pos_iff.2 (stm_ne (c := c) h)
  unfold bestS
  obtain ⟨m, hm⟩ : ∃ m, (stm c step).length = m + 1 := ⟨(stm c step).length - 1, by omega⟩
  obtain ⟨i, hi, he, h1, h2⟩ := bst_first w (stm c step) m
  rw [hm, he]
  obtain ⟨j, hj, rfl⟩ := List.getElem_of_mem hx
  rw [← nth_eq _ j hj]
  refine ⟨h1 j (by omega), fun e => ?_⟩
  rcases Nat.lt_trichotomy j i with hji | rfl | hji
  · have := h2 j hji; omega
  · exact before_irrefl _
  · exact stm_before c h hji hj
theorem sumTo_zero {f : Nat → Int} (h0 : ∀ i, 0 ≤ f i) : ∀ n, sumTo f n = 0 → ∀ i, i < n → f i = 0
  | 0, _, i, hi => absurd hi (Nat.not_lt_zero i)
  | n + 1, h, i, hi => by
    simp only [sumTo] at h
    have h1 := sumTo_nonneg (f := f) (n := n) (fun j _ => h0 j)
    have h2 := h0 n
    by_cases e : i = n
    · rw [e]; omega
    · exact sumTo_zero h0 n (by omega) i (by omega)
theorem apart_zero {b l : List Int} (hl : b.length = l.length) (h : apart b l = 0) : l = b := by
  refine List.ext_getElem hl.symm fun i h1 h2 => ?_
  have := sumTo_zero (f := fun k => (nth b k - nth l k) * (nth b k - nth l k)) (fun i => sq_nn _) _ h i h2
  have := Int.mul_eq_zero.1 this
  rw [← nth_eq l i h1, ← nth_eq b i h2]; omega

set_option maxRecDepth 100000 in
set_option maxHeartbeats 4000000 in
theorem stated_ok (b l : List Int) (step : Int) (hl : l.length ≤ 9223372036854775807) (hs : Step step) : CallsTo Try.prog 28 [ints b, ints l, i64 step] (.bool (decide (Stt b l step))) := by
  have h0 := hs.1
  have h9 := hs.2.1
  refine calls_abs Try.func28 Try.ntmps28 Try.results28 Try.call28 rfl (by simp) fun w0 S0 M0 => ?_
  repeat' (first
      | refine abs_seq ?_
      | refine abs_block ?_
      | refine abs_skip ?_
      | refine abs_exit ?_
      | refine abs_ret ?_
      | ((first | refine abs_region fun K hK => ?_ | refine abs_draw Try.ty.mixed (by kernel_rfl) fun K hK => ?_ | refine abs_if ?_); simp only [go_sem, bas, basL, Nat.reduceAdd, Nat.reduceSub, Nat.reduceMul, Nat.reduceLT, Nat.reduceLeDiff, Nat.reduceEqDiff, Nat.reduceBEq, Int.reduceLT, Int.reduceLE, Int.reduceToNat, Int.reduceAdd, Int.reduceSub, Int.reduceMul, Int.reduceNeg, Int.reduceEq, reduceCtorEq, eq_self, ne_eq, not_false_eq_true, if_true, reduceIte])
      | (refine hK _ ?_; clear hK K; simp only [thenQ, blockQ, if_true, Nat.reduceEqDiff, reduceIte])
      | (show thenQ _ _ _ _; simp only [thenQ, blockQ, if_true, Nat.reduceEqDiff, reduceIte])
      | (show blockQ _ _ _ _; simp only [thenQ, blockQ, if_true, Nat.reduceEqDiff, reduceIte])
      | (show retQ _ _ _ _ _; simp only [go_sem, bas, basL, Nat.reduceAdd, Nat.reduceSub, Nat.reduceMul, Nat.reduceLT, Nat.reduceLeDiff, Nat.reduceEqDiff, Nat.reduceBEq, Int.reduceLT, Int.reduceLE, Int.reduceToNat, Int.reduceAdd, Int.reduceSub, Int.reduceMul, Int.reduceNeg, Int.reduceEq, reduceCtorEq, eq_self, ne_eq, not_false_eq_true, if_true, reduceIte])
      | (intro hg; first | (exfalso; omega) | (exfalso; contradiction) | skip)
      | apply And.intro
      | (with_reducible rfl)
      | (clear hK; omega)
      | omega)
  refine abs_loopN (ι := Nat) (fun j => [(0, ints b), (1, ints l), (2, i64 step), (7, i64 j)]) (fun _ => []) (fun _ => [])
    (fun j => j ≤ l.length ∧ ∀ i, i < j → (nth l i).tmod step = 0) (fun j => l.length - j) (fun _ _ => ⟨rfl, rfl⟩) 0 ⟨Nat.zero_le _, fun i h => absurd h (Nat.not_lt_zero i)⟩ (le_of rfl (by try simp only [go_sem, bas, basL, Nat.reduceAdd, Nat.reduceSub, Nat.reduceMul, Nat.reduceLT, Nat.reduceLeDiff, Nat.reduceEqDiff, Nat.reduceBEq, Int.reduceLT, Int.reduceLE, Int.reduceToNat, Int.reduceAdd, Int.reduceSub, Int.reduceMul, Int.reduceNeg, Int.reduceEq, reduceCtorEq, eq_self, ne_eq, not_false_eq_true, if_true, reduceIte]; try simp) ⟨_, rfl⟩ ⟨_, rfl⟩) (fun j ⟨hj, hi⟩ => ?_)
  have b1 : (nth l j).tmod step < step := Int.tmod_lt_of_pos _ (by omega)
  have b2 : -step < (nth l j).tmod step := by
    have := Int.lt_tmod_of_pos (nth l j) (b := step) (by omega)
    omega
  simp only [go_sem, bas, basL, Nat.reduceAdd, Nat.reduceSub, Nat.reduceMul, Nat.reduceLT, Nat.reduceLeDiff, Nat.reduceEqDiff, Nat.reduceBEq, Int.reduceLT, Int.reduceLE, Int.reduceToNat, Int.reduceAdd, Int.reduceSub, Int.reduceMul, Int.reduceNeg, Int.reduceEq, reduceCtorEq, eq_self, ne_eq, not_false_eq_true, if_true, reduceIte]
  repeat' (first
      | refine abs_seq ?_
      | refine abs_block ?_
      | refine abs_skip ?_
      | refine abs_exit ?_
      | refine abs_ret ?_
      | ((first | refine abs_region fun K hK => ?_ | refine abs_draw Try.ty.mixed (by kernel_rfl) fun K hK => ?_ | refine abs_if ?_); simp only [go_sem, bas, basL, Nat.reduceAdd, Nat.reduceSub, Nat.reduceMul, Nat.reduceLT, Nat.reduceLeDiff, Nat.reduceEqDiff, Nat.reduceBEq, Int.reduceLT, Int.reduceLE, Int.reduceToNat, Int.reduceAdd, Int.reduceSub, Int.reduceMul, Int.reduceNeg, Int.reduceEq, reduceCtorEq, eq_self, ne_eq, not_false_eq_true, if_true, reduceIte])
      | (refine hK _ ?_; clear hK K; simp only [thenQ, blockQ, if_true, Nat.reduceEqDiff, reduceIte])
      | (show thenQ _ _ _ _; simp only [thenQ, blockQ, if_true, Nat.reduceEqDiff, reduceIte])
      | (show blockQ _ _ _ _; simp only [thenQ, blockQ, if_true, Nat.reduceEqDiff, reduceIte])
      | (refine callK (parts_ok l hl) ?_; try simp only [go_sem, bas, basL, Nat.reduceAdd, Nat.reduceSub, Nat.reduceMul, Nat.reduceLT, Nat.reduceLeDiff, Nat.reduceEqDiff, Nat.reduceBEq, Int.reduceLT, Int.reduceLE, Int.reduceToNat, Int.reduceAdd, Int.reduceSub, Int.reduceMul, Int.reduceNeg, Int.reduceEq, reduceCtorEq, eq_self, ne_eq, not_false_eq_true, if_true, reduceIte])
      | (show retQ _ _ _ _ _; simp only [go_sem, bas, basL, Nat.reduceAdd, Nat.reduceSub, Nat.reduceMul, Nat.reduceLT, Nat.reduceLeDiff, Nat.reduceEqDiff, Nat.reduceBEq, Int.reduceLT, Int.reduceLE, Int.reduceToNat, Int.reduceAdd, Int.reduceSub, Int.reduceMul, Int.reduceNeg, Int.reduceEq, reduceCtorEq, eq_self, ne_eq, not_false_eq_true, if_true, reduceIte])
      | (intro hg; first | (exfalso; omega) | (exfalso; contradiction) | skip)
      | apply And.intro
      | (with_reducible rfl)
      | (clear hK; omega)
      | omega)
  · have h3 : ¬ Stt b l step := fun h => hg (h.1 j (by omega))
    rw [decide_eq_false h3]
  · refine ⟨j + 1, ⟨by omega, fun i h => ?_⟩, by omega, le_of rfl (by try simp only [go_sem, bas, basL, Nat.reduceAdd, Nat.reduceSub, Nat.reduceMul, Nat.reduceLT, Nat.reduceLeDiff, Nat.reduceEqDiff, Nat.reduceBEq, Int.reduceLT, Int.reduceLE, Int.reduceToNat, Int.reduceAdd, Int.reduceSub, Int.reduceMul, Int.reduceNeg, Int.reduceEq, reduceCtorEq, eq_self, ne_eq, not_false_eq_true, if_true, reduceIte]; try simp) ⟨_, rfl⟩ ⟨_, rfl⟩⟩
    by_cases h9 : i = j
    · rw [h9]; omega
    · exact hi i (by omega)
  all_goals
    obtain rfl : j = l.length := by omega
    refine boolD ?_
    simp only [decide_eq_true_eq, Bool.false_eq_true]
    unfold Stt
    constructor
    · intro h
      first
      | exact h.elim
      | exact ⟨hi, by assumption, by omega⟩
    · rintro ⟨_, h2, h3⟩
      first
      | omega
      | (exfalso; contradiction)
end Go.Proofs.Ythamljpomhjepaa
