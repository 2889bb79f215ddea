import Derived.Test.YtmnepfejoneghaaGreatDoorK05
import Derived.Test.YtmnepfejoneghaaGreatDoorK12
import Derived.Test.YtmnepfejoneghaaGreatDoorK15
set_option linter.unusedVariables false
set_option linter.unusedSimpArgs false
/-!
  Plain facts of the chances of agreements and favourites.
-/
namespace Go.Watch
def sumN (f : Nat → Int) : Nat → Int
  | 0 => 0
  | n + 1 => sumN f n + f n
theorem sumN_nn {f : Nat → Int} : ∀ {n : Nat}, (∀ i, i < n → 0 ≤ f i) → 0 ≤ sumN f n
  | 0, _ => Int.le_refl _
  | n + 1, h => by have := sumN_nn (n := n) (fun i hi => h i (by omega)); have := h n (by omega); simp only [sumN]; omega
theorem sumN_le {f g : Nat → Int} : ∀ {n : Nat}, (∀ i, i < n → f i ≤ g i) → sumN f n ≤ sumN g n
  | 0, _ => Int.le_refl _
  | n + 1, h => by have := sumN_le (n := n) (fun i hi => h i (by omega)); have := h n (by omega); simp only [sumN]; omega
theorem sumN_mono {f : Nat → Int} {m : Nat} : ∀ {n : Nat}, m ≤ n → (∀ i, i < n → 0 ≤ f i) → sumN f m ≤ sumN f n
  | 0, h, _ => by obtain rfl : m = 0 := by omega
                  exact Int.le_refl _
  | n + 1, h, hf => by
    by_cases e : m = n + 1
    · rw [e]; exact Int.le_refl _
    · have := sumN_mono (m := m) (n := n) (by omega) (fun i hi => hf i (by omega)); have := hf n (by omega); simp only [sumN]; omega
theorem sumN_term {f : Nat → Int} {n i : Nat} (hi : i < n) (hf : ∀ i, i < n → 0 ≤ f i) : f i ≤ sumN f n := by
  have h1 := sumN_mono (f := f) (m := i + 1) (n := n) (by omega) hf
  have h2 := sumN_nn (f := f) (n := i) (fun j hj => hf j (by omega))
  simp only [sumN] at h1; omega
theorem sumN_shift (f : Nat → Int) (a : Nat) : ∀ n, sumN f a + sumN (fun i => f (a + i)) n = sumN f (a + n)
  | 0 => by simp [sumN]
  | n + 1 => by have := sumN_shift f a n; rw [← Nat.add_assoc]; simp only [sumN]; omega
/-- In how many ways some days can be taken of others, as it is computed. -/
def chK (d : Nat) : Nat → Int
  | 0 => 1
  | i + 1 => chK d i * ((d : Int) - i) / (i + 1)
theorem chK_bd : ∀ d, d < 19 → ∀ i, i < 19 → i ≤ d → 0 ≤ chK d i ∧ chK d i ≤ 48620 := by decide +kernel
/-- The chance of agreements: one number of them, and at least so many. -/
def agT (d s : Nat) : Int := chK d s * 9 ^ (d - s)
def ag (d least : Nat) : Int := sumN (fun i => agT d (least + i)) (d + 1 - least)
theorem agT_nn {d s : Nat} (hd : d ≤ 18) (hs : s ≤ d) : 0 ≤ agT d s := Int.mul_nonneg (chK_bd d (by omega) s (by omega) hs).1 (Int.pow_nonneg (by decide))
theorem agT_all : ∀ d, d < 19 → sumN (agT d) (d + 1) ≤ 1000000000000000000 := by decide +kernel
theorem ag_bd {d least j : Nat} (hd : d ≤ 18) (hj : least + j ≤ d + 1) : 0 ≤ sumN (fun i => agT d (least + i)) j ∧ sumN (fun i => agT d (least + i)) j ≤ 1000000000000000000 := by
  have h1 := sumN_shift (agT d) least j
  have h2 := sumN_mono (f := agT d) (m := least + j) (n := d + 1) hj (fun i hi => agT_nn hd (by omega))
  have h3 := agT_all d (by omega)
  have h4 := sumN_nn (f := agT d) (n := least) (fun i hi => agT_nn hd (by omega))
  exact ⟨sumN_nn (fun i hi => agT_nn hd (by omega)), by omega⟩
theorem agT_bd {d s : Nat} (hd : d ≤ 18) (hs : s ≤ d) : agT d s ≤ 1000000000000000000 := by
  have h2 := sumN_term (f := agT d) (n := d + 1) (i := s) (by omega) (fun i hi => agT_nn hd (by omega))
  have h3 := agT_all d (by omega)
  omega
theorem pow9_bd : ∀ k, k < 19 → (9 : Int) ^ k ≤ 1000000000000000000 := by decide +kernel
theorem pow10_bd : ∀ k, k < 19 → (10 : Int) ^ k ≤ 1000000000000000000 := by decide +kernel
/-- Fewer agreements are as likely at least. -/
theorem ag_mono {d m n : Nat} (hd : d ≤ 18) (h : m ≤ n) : ag d n ≤ ag d m := by
  by_cases hn : n ≤ d + 1
  · have h1 := sumN_shift (agT d) n (d + 1 - n)
    have h2 := sumN_shift (agT d) m (d + 1 - m)
    have h3 := sumN_mono (f := agT d) (m := m) (n := n) h (fun i hi => agT_nn hd (by omega))
    unfold ag
    rw [show n + (d + 1 - n) = d + 1 by omega] at h1
    rw [show m + (d + 1 - m) = d + 1 by omega] at h2
    omega
  · unfold ag
    rw [show d + 1 - n = 0 by omega]
    exact sumN_nn (fun i hi => agT_nn hd (by omega))
/-- In how many lists of some figures for some days none of them has as many places. -/
def fv (least : Nat) : Nat → Nat → Int
  | 0, d => if d = 0 then 1 else 0
  | f + 1, d => sumN (fun t => chK d t * fv least f (d - t)) (min least (d + 1))
theorem bin_all : ∀ d, d < 19 → ∀ f : Nat, f < 10 → sumN (fun t => chK d t * (f : Int) ^ (d - t)) (d + 1) ≤ ((f : Int) + 1) ^ d := by decide +kernel
theorem fv_bd (least : Nat) : ∀ f d, f ≤ 10 → d ≤ 18 → 0 ≤ fv least f d ∧ fv least f d ≤ (f : Int) ^ d
  | 0, d, _, _ => by
    unfold fv
    by_cases h : d = 0
    · subst h; simp
    · rw [if_neg h]; exact ⟨Int.le_refl _, Int.pow_nonneg (by decide)⟩
  | f + 1, d, hf, hd => by
    have ih := fun e (he : e ≤ 18) => fv_bd least f e (by omega) he
    have nn : ∀ t, t < d + 1 → 0 ≤ chK d t * fv least f (d - t) := fun t ht => Int.mul_nonneg (chK_bd d (by omega) t (by omega) (by omega)).1 (ih _ (by omega)).1
    unfold fv
    refine ⟨sumN_nn (fun t ht => nn t (by omega)), ?_⟩
    refine Int.le_trans (sumN_mono (n := d + 1) (by omega) nn) ?_
    refine Int.le_trans (sumN_le (g := fun t => chK d t * (f : Int) ^ (d - t)) (fun t ht => Int.mul_le_mul_of_nonneg_left (ih _ (by omega)).2 (chK_bd d (by omega) t (by omega) (by omega)).1)) ?_
    have := bin_all d (by omega) f (by omega)
    simpa using this
theorem fv_le (least f d : Nat) (hf : f ≤ 10) (hd : d ≤ 18) : 0 ≤ fv least f d ∧ fv least f d ≤ 1000000000000000000 := by
  obtain ⟨h1, h2⟩ := fv_bd least f d hf hd
  have h3 : (f : Int) ^ d ≤ 10 ^ d := by
    have : f ^ d ≤ 10 ^ d := Nat.pow_le_pow_left hf d
    exact_mod_cast this
  have h4 := pow10_bd d (by omega)
  exact ⟨h1, by omega⟩
/-- The sum, as far as it is computed. -/
def fvK (least f d k : Nat) : Int := sumN (fun t => chK d t * fv least f (d - t)) k
theorem fvK_bd {least f d k : Nat} (hf : f < 10) (hd : d ≤ 18) (hk : k ≤ min least (d + 1)) : (0 ≤ fvK least f d k ∧ fvK least f d k ≤ 1000000000000000000) ∧ ∀ t, t < min least (d + 1) → 0 ≤ chK d t * fv least f (d - t) ∧ chK d t * fv least f (d - t) ≤ 1000000000000000000 := by
  have nn : ∀ t, t < min least (d + 1) → 0 ≤ chK d t * fv least f (d - t) := fun t ht => Int.mul_nonneg (chK_bd d (by omega) t (by omega) (by omega)).1 (fv_bd least f _ (by omega) (by omega)).1
  have h1 := (fv_le least (f + 1) d (by omega) hd).2
  have h2 := sumN_mono (f := fun t => chK d t * fv least f (d - t)) (m := k) (n := min least (d + 1)) hk nn
  have e : fv least (f + 1) d = sumN (fun t => chK d t * fv least f (d - t)) (min least (d + 1)) := rfl
  refine ⟨⟨sumN_nn (fun t ht => nn t (by omega)), by unfold fvK; omega⟩, fun t ht => ⟨nn t ht, ?_⟩⟩
  have h3 := sumN_term (f := fun t => chK d t * fv least f (d - t)) (n := min least (d + 1)) ht nn
  have h3 : chK d t * fv least f (d - t) ≤ sumN (fun t => chK d t * fv least f (d - t)) (min least (d + 1)) := h3
  omega
/-- The first number from 0 on of which something holds; one more than the last, if there is none. -/
def firstN (p : Nat → Bool) : Nat → Nat → Nat
  | 0, k => k
  | n + 1, k => if p k then k else firstN p n (k + 1)
theorem firstN_spec (p : Nat → Bool) : ∀ n k, k ≤ firstN p n k ∧ firstN p n k ≤ k + n ∧ (∀ i, k ≤ i → i < firstN p n k → p i = false) ∧ (firstN p n k < k + n → p (firstN p n k) = true)
  | 0, k => by simp only [firstN]; exact ⟨Nat.le_refl _, by omega, fun i h1 h2 => by omega, fun h => by omega⟩
  | n + 1, k => by
    simp only [firstN]
    cases h : p k with
    | true => simp only [if_true]; exact ⟨Nat.le_refl _, by omega, fun i h1 h2 => by omega, fun _ => h⟩
    | false =>
      simp only [Bool.false_eq_true, if_false]
      obtain ⟨h1, h2, h3, h4⟩ := firstN_spec p n (k + 1)
      refine ⟨by omega, by omega, fun i g1 g2 => ?_, fun g => h4 (by omega)⟩
      by_cases e : i = k
      · subst e; exact h
      · exact h3 i (by omega) g2
end Go.Watch
namespace Go.Proofs.YtmnepfejoneghaaGreatDoor
open Go.Ab Go.Watch
attribute [local irreducible] Abs CallK CallR CallsTo IA
theorem mulC {a b A B : Int} (h0 : 0 ≤ a) (h1 : a ≤ A) (h2 : 0 ≤ b) (h3 : b ≤ B) : 0 ≤ a * b ∧ a * b ≤ A * B :=
  ⟨Int.mul_nonneg h0 h2, Int.mul_le_mul h1 h3 h2 (Int.le_trans h0 h1)⟩
set_option maxRecDepth 100000 in
set_option maxHeartbeats 4000000 in
theorem win_ok (x lo hi : Int) : CallsTo Tryz.prog 37 [i64 x, i64 lo, i64 hi] (.bool (decide (lo ≤ x ∧ x ≤ hi))) := by
  refine calls_abs Tryz.func37 Tryz.ntmps37 Tryz.results37 Tryz.call37 rfl (by simp) fun w0 S0 M0 => ?_
  repeat' (first | refine st1 ?_ | ((first | refine abs_region fun K hK => ?_ | refine abs_draw Tryz.ty.mixed (by kernel_rfl) fun K hK => ?_ | refine abs_if ?_ | show retQ _ _ _ _ _); (refine sim ?_; try exact trivial)) | ((first | (refine hK _ ?_; clear hK K) | show thenQ _ _ _ _ | show blockQ _ _ _ _ | show noGoQ _ _ _); refine qst ?_) | (intro hg; try exact fin2) | apply And.intro | exact fin | fail)
  all_goals (refine boolD ?_; simp only [decide_eq_true_eq, Bool.false_eq_true, false_iff, iff_false, true_iff, iff_true]; omega)
set_option maxRecDepth 100000 in
set_option maxHeartbeats 4000000 in
theorem product_ok (a b : Int) (ha : 0 ≤ a ∧ a ≤ 1000000000000000000) (hab : 0 ≤ a * b ∧ a * b ≤ 1000000000000000000) : CallsTo Tryz.prog 124 [ints [a, b]] (i64 (a * b)) := by
  have h1 : (1 : Int) * a = a := Int.one_mul a
  have n0 : nth [a, b] 0 = a := rfl
  have n1 : nth [a, b] 1 = b := rfl
  refine calls_abs Tryz.func124 Tryz.ntmps124 Tryz.results124 Tryz.call124 rfl (by simp) fun w0 S0 M0 => ?_
  repeat' (first | refine st1 ?_ | ((first | refine abs_region fun K hK => ?_ | refine abs_draw Tryz.ty.mixed (by kernel_rfl) fun K hK => ?_ | refine abs_if ?_ | show retQ _ _ _ _ _); (refine withX (And.intro @h1 (And.intro @n0 (@n1))) fun hX => ?_; refine simh ?_; clear hX; try exact trivial)) | ((first | (refine hK _ ?_; clear hK K) | show thenQ _ _ _ _ | show blockQ _ _ _ _ | show noGoQ _ _ _); refine qst ?_) | (intro hg; try exact fin2) | apply And.intro | exact fin | fail)
  refine abs_loopN (ι := Nat) (fun k => [(0, ints [a, b]), (3, i64 (match k with | 0 => 1 | 1 => a | _ => a * b)), (6, ints [a, b]), (7, i64 2), (8, i64 k)]) (fun _ => []) (fun _ => []) (fun k => k ≤ 2) (fun k => 2 - k) (fun _ _ => ⟨rfl, rfl⟩) 0 (by omega) (le_of rfl (by try (refine withX (And.intro @h1 (And.intro @n0 (@n1))) fun hX => ?_; refine simh ?_; clear hX; try exact trivial); try simp) ⟨_, rfl⟩ ⟨_, rfl⟩) (fun k hk => ?_)
  match k, hk with
  | 0, _ =>
    (refine withX (And.intro @h1 (And.intro @n0 (@n1))) fun hX => ?_; refine simh ?_; clear hX; try exact trivial)
    repeat' (first | refine st1 ?_ | ((first | refine abs_region fun K hK => ?_ | refine abs_draw Tryz.ty.mixed (by kernel_rfl) fun K hK => ?_ | refine abs_if ?_ | show retQ _ _ _ _ _); (refine withX (And.intro @h1 (And.intro @n0 (@n1))) fun hX => ?_; refine simh ?_; clear hX; try exact trivial)) | ((first | (refine hK _ ?_; clear hK K) | show thenQ _ _ _ _ | show blockQ _ _ _ _ | show noGoQ _ _ _); refine qst ?_) | (intro hg; try exact fin2) | apply And.intro | exact fin | fail)
    exact ⟨1, by omega, by omega, le_of rfl (by try (refine withX (And.intro @h1 (And.intro @n0 (@n1))) fun hX => ?_; refine simh ?_; clear hX; try exact trivial); try simp) ⟨_, rfl⟩ ⟨_, rfl⟩⟩
  | 1, _ =>
    (refine withX (And.intro @h1 (And.intro @n0 (@n1))) fun hX => ?_; refine simh ?_; clear hX; try exact trivial)
    repeat' (first | refine st1 ?_ | ((first | refine abs_region fun K hK => ?_ | refine abs_draw Tryz.ty.mixed (by kernel_rfl) fun K hK => ?_ | refine abs_if ?_ | show retQ _ _ _ _ _); (refine withX (And.intro @h1 (And.intro @n0 (@n1))) fun hX => ?_; refine simh ?_; clear hX; try exact trivial)) | ((first | (refine hK _ ?_; clear hK K) | show thenQ _ _ _ _ | show blockQ _ _ _ _ | show noGoQ _ _ _); refine qst ?_) | (intro hg; try exact fin2) | apply And.intro | exact fin | fail)
    exact ⟨2, by omega, by omega, le_of rfl (by try (refine withX (And.intro @h1 (And.intro @n0 (@n1))) fun hX => ?_; refine simh ?_; clear hX; try exact trivial); try simp) ⟨_, rfl⟩ ⟨_, rfl⟩⟩
  | 2, _ =>
    (refine withX (And.intro @h1 (And.intro @n0 (@n1))) fun hX => ?_; refine simh ?_; clear hX; try exact trivial)
    repeat' (first | refine st1 ?_ | ((first | refine abs_region fun K hK => ?_ | refine abs_draw Tryz.ty.mixed (by kernel_rfl) fun K hK => ?_ | refine abs_if ?_ | show retQ _ _ _ _ _); (refine withX (And.intro @h1 (And.intro @n0 (@n1))) fun hX => ?_; refine simh ?_; clear hX; try exact trivial)) | ((first | (refine hK _ ?_; clear hK K) | show thenQ _ _ _ _ | show blockQ _ _ _ _ | show noGoQ _ _ _); refine qst ?_) | (intro hg; try exact fin2) | apply And.intro | exact fin | fail)
    all_goals skip
set_option maxRecDepth 100000 in
set_option maxHeartbeats 4000000 in
theorem power_ok (n : Int) (t : Nat) (hn : 0 ≤ n ∧ n ≤ 1000) (hb : ∀ k, k ≤ t → n ^ k ≤ 1000000000000000000) (ht : t ≤ 1000) : CallsTo Tryz.prog 126 [i64 n, i64 t] (i64 (n ^ t)) := by
  refine calls_abs Tryz.func126 Tryz.ntmps126 Tryz.results126 Tryz.call126 rfl (by simp) fun w0 S0 M0 => ?_
  repeat' (first | refine st1 ?_ | ((first | refine abs_region fun K hK => ?_ | refine abs_draw Tryz.ty.mixed (by kernel_rfl) fun K hK => ?_ | refine abs_if ?_ | show retQ _ _ _ _ _); (refine sim ?_; try exact trivial)) | ((first | (refine hK _ ?_; clear hK K) | show thenQ _ _ _ _ | show blockQ _ _ _ _ | show noGoQ _ _ _); refine qst ?_) | (intro hg; try exact fin2) | apply And.intro | exact fin | fail)
  refine abs_loopN (ι := Nat) (fun k => [(0, i64 n), (5, i64 (n ^ k)), (6, i64 t), (7, i64 k)]) (fun _ => []) (fun _ => []) (fun k => k ≤ t) (fun k => t - k) (fun _ _ => ⟨rfl, rfl⟩) 0 (by omega) (le_of rfl (by try (refine sim ?_; try exact trivial); try simp) ⟨_, rfl⟩ ⟨_, rfl⟩) (fun k hk => ?_)
  have h1 := hb k hk
  have h2 : 0 ≤ n ^ k := Int.pow_nonneg hn.1
  by_cases hlt : k < t
  · have h3 := hb (k + 1) hlt
    have h4 : n ^ (k + 1) = n ^ k * n := Int.pow_succ n k
    have h5 : 0 ≤ n ^ (k + 1) := Int.pow_nonneg hn.1
    rw [h4] at h3 h5
    have hp := product_ok (n ^ k) n ⟨h2, h1⟩ ⟨h5, h3⟩
    (refine sim ?_; try exact trivial)
    repeat' (first | refine st1 ?_ | ((first | refine abs_region fun K hK => ?_ | refine abs_draw Tryz.ty.mixed (by kernel_rfl) fun K hK => ?_ | refine abs_if ?_ | show retQ _ _ _ _ _ | refine callK (hp) ?_); (refine sim ?_; try exact trivial)) | ((first | (refine hK _ ?_; clear hK K) | show thenQ _ _ _ _ | show blockQ _ _ _ _ | show noGoQ _ _ _); refine qst ?_) | (intro hg; try exact fin2) | apply And.intro | exact fin | fail)
    exact ⟨k + 1, by omega, by omega, le_of rfl (by try (refine sim ?_; try exact trivial); try simp [h4]) ⟨_, rfl⟩ ⟨_, rfl⟩⟩
  · obtain rfl : k = t := by omega
    (refine sim ?_; try exact trivial)
    repeat' (first | refine st1 ?_ | ((first | refine abs_region fun K hK => ?_ | refine abs_draw Tryz.ty.mixed (by kernel_rfl) fun K hK => ?_ | refine abs_if ?_ | show retQ _ _ _ _ _); (refine sim ?_; try exact trivial)) | ((first | (refine hK _ ?_; clear hK K) | show thenQ _ _ _ _ | show blockQ _ _ _ _ | show noGoQ _ _ _); refine qst ?_) | (intro hg; try exact fin2) | apply And.intro | exact fin | fail)
    all_goals skip
set_option maxRecDepth 100000 in
set_option maxHeartbeats 4000000 in
theorem choose_ok (d t : Nat) (hd : d ≤ 18) (ht : t ≤ d) : CallsTo Tryz.prog 125 [i64 d, i64 t] (i64 (chK d t)) := by
  refine calls_abs Tryz.func125 Tryz.ntmps125 Tryz.results125 Tryz.call125 rfl (by simp) fun w0 S0 M0 => ?_
  repeat' (first | refine st1 ?_ | ((first | refine abs_region fun K hK => ?_ | refine abs_draw Tryz.ty.mixed (by kernel_rfl) fun K hK => ?_ | refine abs_if ?_ | show retQ _ _ _ _ _); (refine sim ?_; try exact trivial)) | ((first | (refine hK _ ?_; clear hK K) | show thenQ _ _ _ _ | show blockQ _ _ _ _ | show noGoQ _ _ _); refine qst ?_) | (intro hg; try exact fin2) | apply And.intro | exact fin | fail)
  refine abs_loopN (ι := Nat) (fun k => [(0, i64 d), (5, i64 (chK d k)), (7, i64 t), (8, i64 k)]) (fun _ => []) (fun _ => []) (fun k => k ≤ t) (fun k => t - k) (fun _ _ => ⟨rfl, rfl⟩) 0 (by omega) (le_of rfl (by try (refine sim ?_; try exact trivial); try simp [chK]) ⟨_, rfl⟩ ⟨_, rfl⟩) (fun k hk => ?_)
  have h1 := chK_bd d (by omega) k (by omega) (by omega)
  by_cases hlt : k < t
  · have h3 : (0 : Int) ≤ d - k ∧ (d : Int) - k ≤ 18 := by omega
    have h4 := Go.Proofs.YtmnepfejoneghaaGreatDoor.mulC h1.1 h1.2 h3.1 h3.2
    have h5 : Int.tdiv (chK d k * ((d : Int) - k)) ((k : Int) + 1) = chK d (k + 1) := by
      rw [Int.tdiv_eq_ediv_of_nonneg h4.1]; rfl
    have h6 := chK_bd d (by omega) (k + 1) (by omega) (by omega)
    (refine withX (@h5) fun hX => ?_; refine simh ?_; clear hX; try exact trivial)
    repeat' (first | refine st1 ?_ | ((first | refine abs_region fun K hK => ?_ | refine abs_draw Tryz.ty.mixed (by kernel_rfl) fun K hK => ?_ | refine abs_if ?_ | show retQ _ _ _ _ _); (refine withX (@h5) fun hX => ?_; refine simh ?_; clear hX; try exact trivial)) | ((first | (refine hK _ ?_; clear hK K) | show thenQ _ _ _ _ | show blockQ _ _ _ _ | show noGoQ _ _ _); refine qst ?_) | (intro hg; try exact fin2) | apply And.intro | exact fin | fail)
    all_goals first | omega | exact ⟨k + 1, by omega, by omega, le_of rfl (by try (refine withX (@h5) fun hX => ?_; refine simh ?_; clear hX; try exact trivial); try simp) ⟨_, rfl⟩ ⟨_, rfl⟩⟩ | skip
  · obtain rfl : k = t := by omega
    (refine sim ?_; try exact trivial)
    repeat' (first | refine st1 ?_ | ((first | refine abs_region fun K hK => ?_ | refine abs_draw Tryz.ty.mixed (by kernel_rfl) fun K hK => ?_ | refine abs_if ?_ | show retQ _ _ _ _ _); (refine sim ?_; try exact trivial)) | ((first | (refine hK _ ?_; clear hK K) | show thenQ _ _ _ _ | show blockQ _ _ _ _ | show noGoQ _ _ _); refine qst ?_) | (intro hg; try exact fin2) | apply And.intro | exact fin | fail)
    all_goals skip
/-- The lists of a base for some days. -/
abbrev lsD (b d : Int) : D := .agg [i64 b, i64 d]
set_option maxRecDepth 100000 in
set_option maxHeartbeats 4000000 in
theorem wall_ok (d : Nat) (hd : d ≤ 18) : CallsTo Tryz.prog 81 [lsD 10 d] (i64 (10 ^ d)) := by
  have hp := power_ok 10 d (by omega) (fun k hk => pow10_bd k (by omega)) (by omega)
  refine calls_abs Tryz.func81 Tryz.ntmps81 Tryz.results81 Tryz.call81 rfl (by simp) fun w0 S0 M0 => ?_
  repeat' (first | refine st1 ?_ | ((first | refine abs_region fun K hK => ?_ | refine abs_draw Tryz.ty.mixed (by kernel_rfl) fun K hK => ?_ | refine abs_if ?_ | show retQ _ _ _ _ _ | refine callK (hp) ?_); (refine sim ?_; try exact trivial)) | ((first | (refine hK _ ?_; clear hK K) | show thenQ _ _ _ _ | show blockQ _ _ _ _ | show noGoQ _ _ _); refine qst ?_) | (intro hg; try exact fin2) | apply And.intro | exact fin | fail)
  all_goals skip
set_option maxRecDepth 100000 in
set_option maxHeartbeats 4000000 in
theorem excl_ok (d : Nat) (hd : d ≤ 18) (c o : Int) (ho : 1 ≤ o ∧ o ≤ 1000000) : CallsTo Tryz.prog 35 [lsD 10 d, i64 c, i64 o] (.bool (decide (c ≤ 10 ^ d / (2 * o)))) := by
  have hp := wall_ok d hd
  have h1 : Int.tdiv ((10 : Int) ^ d) (2 * o) = 10 ^ d / (2 * o) := Int.tdiv_eq_ediv_of_nonneg (Int.pow_nonneg (by decide))
  have h2 : (0 : Int) ≤ 10 ^ d := Int.pow_nonneg (by decide)
  have h3 := pow10_bd d (by omega)
  have h4 : (10 : Int) ^ d / (2 * o) ≤ 10 ^ d := Int.ediv_le_self _ h2
  have h5 : (0 : Int) ≤ 10 ^ d / (2 * o) := Int.ediv_nonneg h2 (by omega)
  refine calls_abs Tryz.func35 Tryz.ntmps35 Tryz.results35 Tryz.call35 rfl (by simp) fun w0 S0 M0 => ?_
  repeat' (first | refine st1 ?_ | ((first | refine abs_region fun K hK => ?_ | refine abs_draw Tryz.ty.mixed (by kernel_rfl) fun K hK => ?_ | refine abs_if ?_ | show retQ _ _ _ _ _ | refine callK (hp) ?_); (refine withX (@h1) fun hX => ?_; refine simh ?_; clear hX; try exact trivial)) | ((first | (refine hK _ ?_; clear hK K) | show thenQ _ _ _ _ | show blockQ _ _ _ _ | show noGoQ _ _ _); refine qst ?_) | (intro hg; try exact fin2) | apply And.intro | exact fin | fail)
  all_goals first | omega | skip
set_option maxRecDepth 100000 in
set_option maxHeartbeats 4000000 in
theorem agree_ok (d least : Nat) (hd : d ≤ 18) (hl : least ≤ 19) : CallsTo Tryz.prog 79 [lsD 10 d, i64 least] (i64 (ag d least)) := by
  refine calls_abs Tryz.func79 Tryz.ntmps79 Tryz.results79 Tryz.call79 rfl (by simp) fun w0 S0 M0 => ?_
  repeat' (first | refine st1 ?_ | ((first | refine abs_region fun K hK => ?_ | refine abs_draw Tryz.ty.mixed (by kernel_rfl) fun K hK => ?_ | refine abs_if ?_ | show retQ _ _ _ _ _); (refine sim ?_; try exact trivial)) | ((first | (refine hK _ ?_; clear hK K) | show thenQ _ _ _ _ | show blockQ _ _ _ _ | show noGoQ _ _ _); refine qst ?_) | (intro hg; try exact fin2) | apply And.intro | exact fin | fail)
  refine abs_loopN (ι := Nat) (fun k => [(2, .box 0 0), (5, i64 (sumN (fun i => agT d (least + i)) k)), (6, i64 ((least : Int) + k))]) (fun _ => [.mu [i64 10, i64 d]]) (fun _ => []) (fun k => k ≤ d + 1 - least) (fun k => d + 1 - least - k) (fun _ _ => ⟨rfl, rfl⟩) 0 (by omega) (le_of rfl (by try (refine sim ?_; try exact trivial); try simp [sumN]) ⟨_, rfl⟩ ⟨_, rfl⟩) (fun k hk => ?_)
  by_cases hlt : k < d + 1 - least
  · have hb := ag_bd (d := d) (least := least) (j := k) hd (by omega)
    have hb2 := ag_bd (d := d) (least := least) (j := k + 1) hd (by omega)
    have e1 : sumN (fun i => agT d (least + i)) (k + 1) = sumN (fun i => agT d (least + i)) k + agT d (least + k) := rfl
    have h1 := agT_nn (d := d) (s := least + k) hd (by omega)
    have h2 := agT_bd (d := d) (s := least + k) hd (by omega)
    have c1 : CallsTo Tryz.prog 125 [i64 d, i64 ((least : Int) + k)] (i64 (chK d (least + k))) := by have := choose_ok d (least + k) hd (by omega); rwa [show ((least + k : Nat) : Int) = (least : Int) + k by omega] at this
    have c2 : CallsTo Tryz.prog 126 [i64 9, i64 ((d : Int) - (least + k))] (i64 (9 ^ (d - (least + k)))) := by have := power_ok 9 (d - (least + k)) (by omega) (fun k hk => pow9_bd k (by omega)) (by omega); rwa [show ((d - (least + k) : Nat) : Int) = (d : Int) - (least + k) by omega] at this
    have hc := chK_bd d (by omega) (least + k) (by omega) (by omega)
    have c3 : CallsTo Tryz.prog 124 [ints [chK d (least + k), 9 ^ (d - (least + k))]] (i64 (agT d (least + k))) := product_ok _ _ ⟨hc.1, by omega⟩ ⟨h1, h2⟩
    (refine sim ?_; try exact trivial)
    repeat' (first | refine st1 ?_ | ((first | refine abs_region fun K hK => ?_ | refine abs_draw Tryz.ty.mixed (by kernel_rfl) fun K hK => ?_ | refine abs_if ?_ | show retQ _ _ _ _ _ | refine callK (c1) ?_ | refine callK (c2) ?_ | refine callK (c3) ?_); (refine sim ?_; try exact trivial)) | ((first | (refine hK _ ?_; clear hK K) | show thenQ _ _ _ _ | show blockQ _ _ _ _ | show noGoQ _ _ _); refine qst ?_) | (intro hg; try exact fin2) | apply And.intro | exact fin | fail)
    all_goals first | omega | exact ⟨k + 1, by omega, by omega, le_of rfl (by try (refine sim ?_; try exact trivial); try simp [e1, Int.add_assoc]) ⟨_, rfl⟩ ⟨_, rfl⟩⟩ | skip
  · obtain rfl : k = d + 1 - least := by omega
    (refine sim ?_; try exact trivial)
    repeat' (first | refine st1 ?_ | ((first | refine abs_region fun K hK => ?_ | refine abs_draw Tryz.ty.mixed (by kernel_rfl) fun K hK => ?_ | refine abs_if ?_ | show retQ _ _ _ _ _); (refine sim ?_; try exact trivial)) | ((first | (refine hK _ ?_; clear hK K) | show thenQ _ _ _ _ | show blockQ _ _ _ _ | show noGoQ _ _ _); refine qst ?_) | (intro hg; try exact fin2) | apply And.intro | exact fin | fail)
    all_goals rfl
end Go.Proofs.YtmnepfejoneghaaGreatDoor
namespace Go.Proofs.YtmnepfejoneghaaGreatDoor
open Go.Ab Go.Watch
attribute [local irreducible] Abs CallK CallR CallsTo CallsB IA
@[go_sem] theorem ky217 : KeyOk Tryz.prog 217 true 2 := key_struct (by kernel_rfl) (by kernel_rfl) (by kernel_rfl)
abbrev fvM (least : Nat) : Memo := ⟨true, .num, 2, fun l => [fv least (l.headD 0).toNat (nth l 1).toNat], []⟩
abbrev fwC : D := .clo 127 [.box 2 0, .box 1 0, .box 3 0]
set_option maxRecDepth 100000 in
set_option maxHeartbeats 4000000 in
theorem fewer_ok (least : Nat) (hle : least ≤ 19) : ∀ (f d : Nat), f ≤ 10 → d ≤ 18 → ∀ (L : List Bx) (rw : List Row) (n : Nat), L.length = n → 4 ≤ n → L[1]? = some (.mu [i64 least]) → L[2]? = some (.mu [.memo (fvM least)]) → L[3]? = some (.mu [fwC]) →
    CallsB Tryz.prog 127 [.agg [i64 f, i64 d], .box 2 0, .box 1 0, .box 3 0] L rw (fun x bx' rw' => x = i64 (fv least f d) ∧ rw' = rw ∧ ∃ t, bx' = L ++ t) := by
  intro f
  induction f with
  | zero =>
    intro d hf hd L rw n hn h4 b1 b2 b3
    have hz : fv least 0 d = if d = 0 then 1 else 0 := rfl
    show CallsB Tryz.prog 127 [.agg [i64 0, i64 d], .box 2 0, .box 1 0, .box 3 0] L rw _
    have g0 : (L ++ [Bx.mu [i64 0, i64 d]])[n]? = some (.mu [i64 0, i64 d]) := by rw [← hn]; simp
    refine callsB_abs Tryz.func127 Tryz.ntmps127 Tryz.results127 Tryz.call127 rfl (by simp) fun W0 S0 M0 own β hβ => ?_
    repeat' (first | (show retB _ _ _ _ _; (refine withX (And.intro @hn (@g0)) fun hX => ?_; refine simh ?_; clear hX; try exact trivial)) | refine st1 ?_ | ((first | refine abs_region fun K hK => ?_ | refine abs_draw Tryz.ty.mixed (by kernel_rfl) fun K hK => ?_ | refine abs_if ?_ | show retQ _ _ _ _ _); (refine withX (And.intro @hn (@g0)) fun hX => ?_; refine simh ?_; clear hX; try exact trivial)) | ((first | (refine hK _ ?_; clear hK K) | show thenQ _ _ _ _ | show blockQ _ _ _ _ | show noGoQ _ _ _); refine qst ?_) | (intro hg; try exact fin2) | apply And.intro | exact fin | fail)
    · rw [hz, if_pos (by omega)]
    · exact ⟨_, rfl⟩
    · rw [hz, if_neg (by omega)]
    · exact ⟨_, rfl⟩
  | succ f ih =>
    intro d hf hd L rw n hn h4 b1 b2 b3
    have hz : fv least (f + 1) d = fvK least f d (min least (d + 1)) := rfl
    have hm : (fvM least).f [((f + 1 : Nat) : Int), (d : Int)] = [fv least (f + 1) d] := rfl
    obtain ⟨F, hF⟩ : ∃ F : Int, F = ((f + 1 : Nat) : Int) := ⟨_, rfl⟩
    rw [← hF] at hm ⊢
    have hF0 : (F = 0) = False := by simp; omega
    have hF1 : F - 1 = (f : Int) := by omega
    have g0 : (L ++ [Bx.mu [i64 F, i64 d]])[n]? = some (.mu [i64 F, i64 d]) := by rw [← hn]; simp
    have g1 : (L ++ [Bx.mu [i64 F, i64 d]])[1]? = some (.mu [i64 least]) := by rw [List.getElem?_append_left (by omega)]; exact b1
    have g2 : (L ++ [Bx.mu [i64 F, i64 d]])[2]? = some (.mu [.memo (fvM least)]) := by rw [List.getElem?_append_left (by omega)]; exact b2
    have g3 : (L ++ [Bx.mu [i64 F, i64 d]])[3]? = some (.mu [fwC]) := by rw [List.getElem?_append_left (by omega)]; exact b3
    have gl : (L ++ [Bx.mu [i64 F, i64 d]]).length = n + 1 := by rw [List.length_append, hn]; rfl
    refine callsB_abs Tryz.func127 Tryz.ntmps127 Tryz.results127 Tryz.call127 rfl (by simp) fun W0 S0 M0 own β hβ => ?_
    rw [hn] at hβ
    have G0 : ∀ t, (L ++ [Bx.mu [i64 F, i64 d]] ++ t)[n]? = some (.mu [i64 F, i64 d]) := fun t => by rw [List.getElem?_append_left (by omega)]; exact g0
    have G2 : ∀ t, (L ++ [Bx.mu [i64 F, i64 d]] ++ t)[2]? = some (.mu [.memo (fvM least)]) := fun t => by rw [List.getElem?_append_left (by omega)]; exact g2
    have q1 : (1 < n + 1) = True := by simp; omega
    have q2 : (2 < n + 1) = True := by simp; omega
    have q3 : (3 < n + 1) = True := by simp; omega
    have qn : (n < n + 1) = True := by simp
    have hF2 : F.toNat = f + 1 := by omega
    repeat' (first | (show retB _ _ _ _ _; (refine withX (And.intro @hn (And.intro @g0 (And.intro @g1 (And.intro @g2 (And.intro @g3 (And.intro @gl (And.intro @hF0 (And.intro @hF1 (And.intro @G0 (And.intro @G2 (And.intro @q1 (And.intro @q2 (And.intro @q3 (@qn)))))))))))))) fun hX => ?_; refine simh ?_; clear hX; try exact trivial)) | refine st1 ?_ | ((first | refine abs_region fun K hK => ?_ | refine abs_draw Tryz.ty.mixed (by kernel_rfl) fun K hK => ?_ | refine abs_if ?_ | show retQ _ _ _ _ _); (refine withX (And.intro @hn (And.intro @g0 (And.intro @g1 (And.intro @g2 (And.intro @g3 (And.intro @gl (And.intro @hF0 (And.intro @hF1 (And.intro @G0 (And.intro @G2 (And.intro @q1 (And.intro @q2 (And.intro @q3 (@qn)))))))))))))) fun hX => ?_; refine simh ?_; clear hX; try exact trivial)) | ((first | (refine hK _ ?_; clear hK K) | show thenQ _ _ _ _ | show blockQ _ _ _ _ | show noGoQ _ _ _); refine qst ?_) | (intro hg; try exact fin2) | apply And.intro | exact fin | fail)
    · show D.int .i64 (fv least F.toNat ((d : Int)).toNat) = _
      rw [hF2, Int.toNat_natCast]
    · exact ⟨_, rfl⟩
    refine abs_loopC (ι := Nat) (fun k => [(1, .box 2 0), (2, .box 1 0), (3, .box 3 0), (4, .box n 0), (8, i64 (fvK least f d k)), (9, i64 k)]) (fun k => k ≤ min least (d + 1)) (fun k => min least (d + 1) - k) (fun k _ => by try (refine withX (And.intro @hn (And.intro @g0 (And.intro @g1 (And.intro @g2 (And.intro @g3 (And.intro @gl (And.intro @hF0 (And.intro @hF1 (And.intro @G0 (And.intro @G2 (And.intro @q1 (And.intro @q2 (And.intro @q3 (@qn)))))))))))))) fun hX => ?_; refine simh ?_; clear hX; try exact trivial); try simp) 0 (by omega) (le_of rfl (by try (refine withX (And.intro @hn (And.intro @g0 (And.intro @g1 (And.intro @g2 (And.intro @g3 (And.intro @gl (And.intro @hF0 (And.intro @hF1 (And.intro @G0 (And.intro @G2 (And.intro @q1 (And.intro @q2 (And.intro @q3 (@qn)))))))))))))) fun hX => ?_; refine simh ?_; clear hX; try exact trivial); try simp [fvK, sumN]) ⟨[], by simp⟩ ⟨[], by simp⟩) (by show β.length ≤ _; rw [gl]; omega) (fun k hk => ?_)
    have hb := fvK_bd (least := least) (f := f) (d := d) (k := k) (by omega) hd hk
    by_cases hlt : k < min least (d + 1)
    · have hb2 := fvK_bd (least := least) (f := f) (d := d) (k := k + 1) (by omega) hd hlt
      have hc := chK_bd d (by omega) k (by omega) (by omega)
      have ht := hb.2 k hlt
      have e1 : fvK least f d (k + 1) = fvK least f d k + chK d k * fv least f (d - k) := rfl
      have c1 := choose_ok d k hd (by omega)
      have c3 := product_ok (chK d k) (fv least f (d - k)) ⟨hc.1, by omega⟩ ht
      have hrec := ih (d - k) (by omega) (by omega) (L ++ [Bx.mu [i64 F, i64 d]]) rw (n + 1) gl (by omega) g1 g2 g3
      rw [show ((d - k : Nat) : Int) = (d : Int) - k by omega] at hrec
      (refine withX (And.intro @hn (And.intro @g0 (And.intro @g1 (And.intro @g2 (And.intro @g3 (And.intro @gl (And.intro @hF0 (And.intro @hF1 (And.intro @G0 (And.intro @G2 (And.intro @q1 (And.intro @q2 (And.intro @q3 (@qn)))))))))))))) fun hX => ?_; refine simh ?_; clear hX; try exact trivial)
      repeat' (first | (show retB _ _ _ _ _; (refine withX (And.intro @hn (And.intro @g0 (And.intro @g1 (And.intro @g2 (And.intro @g3 (And.intro @gl (And.intro @hF0 (And.intro @hF1 (And.intro @G0 (And.intro @G2 (And.intro @q1 (And.intro @q2 (And.intro @q3 (@qn)))))))))))))) fun hX => ?_; refine simh ?_; clear hX; try exact trivial)) | (show Abs _ (.region 12 _ _) _ _; refine abs_regionB 9 rfl (fun K1 hK1 => ?_); (refine withX (And.intro @hn (And.intro @g0 (And.intro @g1 (And.intro @g2 (And.intro @g3 (And.intro @gl (And.intro @hF0 (And.intro @hF1 (And.intro @G0 (And.intro @G2 (And.intro @q1 (And.intro @q2 (And.intro @q3 (@qn)))))))))))))) fun hX => ?_; refine simh ?_; clear hX; try exact trivial)) | (refine hK1 _ (atB_intro ?_ ?_); clear hK1 K1; (refine withX (And.intro @hn (And.intro @g0 (And.intro @g1 (And.intro @g2 (And.intro @g3 (And.intro @gl (And.intro @hF0 (And.intro @hF1 (And.intro @G0 (And.intro @G2 (And.intro @q1 (And.intro @q2 (And.intro @q3 (@qn)))))))))))))) fun hX => ?_; refine simh ?_; clear hX; try exact trivial); refine ⟨_, argsB_same, hrec.mono ?_⟩; rintro x bx' rw' ⟨rfl, rfl, t, rfl⟩; try (refine withX (And.intro @hn (And.intro @g0 (And.intro @g1 (And.intro @g2 (And.intro @g3 (And.intro @gl (And.intro @hF0 (And.intro @hF1 (And.intro @G0 (And.intro @G2 (And.intro @q1 (And.intro @q2 (And.intro @q3 (@qn)))))))))))))) fun hX => ?_; refine simh ?_; clear hX; try exact trivial)) | refine st1 ?_ | ((first | refine abs_region fun K hK => ?_ | refine abs_draw Tryz.ty.mixed (by kernel_rfl) fun K hK => ?_ | refine abs_if ?_ | show retQ _ _ _ _ _ | refine callK (c1) ?_ | refine callK (c3) ?_); (refine withX (And.intro @hn (And.intro @g0 (And.intro @g1 (And.intro @g2 (And.intro @g3 (And.intro @gl (And.intro @hF0 (And.intro @hF1 (And.intro @G0 (And.intro @G2 (And.intro @q1 (And.intro @q2 (And.intro @q3 (@qn)))))))))))))) fun hX => ?_; refine simh ?_; clear hX; try exact trivial)) | ((first | (refine hK _ ?_; clear hK K) | show thenQ _ _ _ _ | show blockQ _ _ _ _ | show noGoQ _ _ _); refine qst ?_) | (intro hg; try exact fin2) | apply And.intro | exact fin | fail)
      all_goals first | (show dstOk _ _; (refine withX (And.intro @hn (And.intro @g0 (And.intro @g1 (And.intro @g2 (And.intro @g3 (And.intro @gl (And.intro @hF0 (And.intro @hF1 (And.intro @G0 (And.intro @G2 (And.intro @q1 (And.intro @q2 (And.intro @q3 (@qn)))))))))))))) fun hX => ?_; refine simh ?_; clear hX; try exact trivial); done) | (exact ⟨k + 1, by omega, by omega, le_of rfl (by try (refine withX (And.intro @hn (And.intro @g0 (And.intro @g1 (And.intro @g2 (And.intro @g3 (And.intro @gl (And.intro @hF0 (And.intro @hF1 (And.intro @G0 (And.intro @G2 (And.intro @q1 (And.intro @q2 (And.intro @q3 (@qn)))))))))))))) fun hX => ?_; refine simh ?_; clear hX; try exact trivial); try simp [e1]) ⟨_, rfl⟩ ⟨[], by simp⟩⟩) | skip
    · obtain rfl : k = min least (d + 1) := by omega
      (refine withX (And.intro @hn (And.intro @g0 (And.intro @g1 (And.intro @g2 (And.intro @g3 (And.intro @gl (And.intro @hF0 (And.intro @hF1 (And.intro @G0 (And.intro @G2 (And.intro @q1 (And.intro @q2 (And.intro @q3 (@qn)))))))))))))) fun hX => ?_; refine simh ?_; clear hX; try exact trivial)
      repeat' (first | (show retB _ _ _ _ _; (refine withX (And.intro @hn (And.intro @g0 (And.intro @g1 (And.intro @g2 (And.intro @g3 (And.intro @gl (And.intro @hF0 (And.intro @hF1 (And.intro @G0 (And.intro @G2 (And.intro @q1 (And.intro @q2 (And.intro @q3 (@qn)))))))))))))) fun hX => ?_; refine simh ?_; clear hX; try exact trivial)) | refine st1 ?_ | ((first | refine abs_region fun K hK => ?_ | refine abs_draw Tryz.ty.mixed (by kernel_rfl) fun K hK => ?_ | refine abs_if ?_ | show retQ _ _ _ _ _); (refine withX (And.intro @hn (And.intro @g0 (And.intro @g1 (And.intro @g2 (And.intro @g3 (And.intro @gl (And.intro @hF0 (And.intro @hF1 (And.intro @G0 (And.intro @G2 (And.intro @q1 (And.intro @q2 (And.intro @q3 (@qn)))))))))))))) fun hX => ?_; refine simh ?_; clear hX; try exact trivial)) | ((first | (refine hK _ ?_; clear hK K) | show thenQ _ _ _ _ | show blockQ _ _ _ _ | show noGoQ _ _ _); refine qst ?_) | (intro hg; try exact fin2) | apply And.intro | exact fin | fail)
      all_goals first | exact ⟨_, rfl⟩ | (show i64 (fvK least f d (min least (d + 1))) = D.int .i64 (fv least F.toNat ((d : Int)).toNat); rw [hF2, Int.toNat_natCast]; rfl) | rfl | skip
set_option maxRecDepth 100000 in
set_option maxHeartbeats 4000000 in
theorem favour_ok (d least : Nat) (hd : d ≤ 18) (hl : least ≤ 19) : CallsTo Tryz.prog 80 [lsD 10 d, i64 least] (i64 (10 ^ d - fv least 10 d)) := by
  have hw := wall_ok d hd
  have h1 := fv_le least 10 d (by omega) hd
  have h2 := pow10_bd d (by omega)
  have h3 : (0 : Int) ≤ 10 ^ d := Int.pow_nonneg (by decide)
  have hrec := fewer_ok least hl 10 d (by omega) hd [.mu [i64 10, i64 d], .mu [i64 least], .mu [.memo (fvM least)], .mu [fwC]] [] 4 rfl (by omega) rfl rfl rfl
  have hrec : CallsB Tryz.prog 127 [.agg [i64 10, i64 d], .box 2 0, .box 1 0, .box 3 0] [.mu [i64 10, i64 d], .mu [i64 least], .mu [.memo (fvM least)], .mu [fwC]] [] _ := hrec
  refine calls_abs Tryz.func80 Tryz.ntmps80 Tryz.results80 Tryz.call80 rfl (by simp) fun w0 S0 M0 => ?_
  repeat' (first | (show Abs _ (.region 4 _ _) _ _; refine abs_regionB 6 rfl (fun K1 hK1 => ?_); (refine sim ?_; try exact trivial)) | (refine hK1 _ (atB_intro ?_ ?_); clear hK1 K1; (refine sim ?_; try exact trivial); refine ⟨_, argsB_same, hrec.mono ?_⟩; rintro x bx' rw' ⟨rfl, rfl, t, rfl⟩; try (refine sim ?_; try exact trivial)) | refine st1 ?_ | ((first | refine abs_region fun K hK => ?_ | refine abs_draw Tryz.ty.mixed (by kernel_rfl) fun K hK => ?_ | refine abs_if ?_ | show retQ _ _ _ _ _ | refine callK (hw) ?_); (refine sim ?_; try exact trivial)) | ((first | (refine hK _ ?_; clear hK K) | show thenQ _ _ _ _ | show blockQ _ _ _ _ | show noGoQ _ _ _); refine qst ?_) | (refine ⟨fvM least, rfl, ?_⟩) | (intro hg; try exact fin2) | apply And.intro | exact fin | fail)
  all_goals first | (show dstOk _ _; (refine sim ?_; try exact trivial); done) | skip
  all_goals trace_state
end Go.Proofs.YtmnepfejoneghaaGreatDoor
