import Derived.Test.YthamljpomhjepaaQ7
import Derived.Test.YthamljpomhjepaaQ6
import Derived.Test.YthamljpomhjepaaP10
set_option linter.unusedVariables false
set_option linter.unusedSimpArgs false
namespace Go.Proofs.Ythamljpomhjepaa
open Go.Ab
attribute [local irreducible] Abs CallK CallR CallsTo

theorem sumTo_mn {f g : Nat → Int} : ∀ n, (∀ i, i < n → f i ≤ g i) → sumTo f n ≤ sumTo g n
  | 0, _ => Int.le_refl _
  | n + 1, h => by have := sumTo_mn n (fun i hi => h i (by omega)); have := h n (by omega); simp only [sumTo]; omega
theorem sumTo_sb (f g : Nat → Int) : ∀ n, sumTo (fun k => f k - g k) n = sumTo f n - sumTo g n
  | 0 => by simp [sumTo]
  | n + 1 => by simp only [sumTo, sumTo_sb f g n]; omega
theorem tS_le {f g : Nat → Nat → Int} {w s : Nat} (h : ∀ i k, i < s → k < w → f i k ≤ g i k) : tS f w s ≤ tS g w s := sumTo_mn _ fun i hi => sumTo_mn _ fun k hk => h i k hi hk
theorem tS_cg {f g : Nat → Nat → Int} {w s : Nat} (h : ∀ i k, i < s → k < w → f i k = g i k) : tS f w s = tS g w s := sumTo_cg _ fun i hi => sumTo_cg _ fun k hk => h i k hi hk
theorem tS_sb (f g : Nat → Nat → Int) (w s : Nat) : tS (fun i k => f i k - g i k) w s = tS f w s - tS g w s := by
  unfold tS
  rw [← sumTo_sb]
  exact sumTo_cg _ fun i _ => sumTo_sb _ _ _

theorem in_ends {x : Sd} (h : x.Ok) {t : List (List Int)} (ht : Tru x.c x.W x.S t) :
    x.tlo ≤ tS (fun i k => nth x.W k * dif (nth (nth x.own i) k) (othL x.oth i k) (nth (nth t i) k).toNat) x.W.length x.S.length ∧
    tS (fun i k => nth x.W k * dif (nth (nth x.own i) k) (othL x.oth i k) (nth (nth t i) k).toNat) x.W.length x.S.length ≤ x.thi := by
  rw [(tlo_eq h).1, (tlo_eq h).2]
  have key : ∀ i k, i < x.S.length → k < x.W.length → sdL x i k ≤ dif (nth (nth x.own i) k) (othL x.oth i k) (nth (nth t i) k).toNat ∧ dif (nth (nth x.own i) k) (othL x.oth i k) (nth (nth t i) k).toNat ≤ sdH x i k := fun i k hi hk => by
    have h1 := tru_at h.ow ht hi hk
    exact (mr_lo (sd_set h hi hk)).2.2 _ (by omega) h1.2.2
  exact ⟨tS_le fun i k hi hk => Int.mul_le_mul_of_nonneg_left (key i k hi hk).1 (h.su.2.2.2.1 k hk).1, tS_le fun i k hi hk => Int.mul_le_mul_of_nonneg_left (key i k hi hk).2 (h.su.2.2.2.1 k hk).1⟩

theorem true_one {c : Int} {W : List Int} {S : List (List Int)} {f : List (List (List Int))} {t : List (List Int)} (hs : Suite c W S) (hf : Fore c W S f) (ht : Tru c W S t) :
    Sd.tlo ⟨c, W, S, f, none⟩ ≤ gnd W f t S.length ∧ gnd W f t S.length ≤ Sd.thi ⟨c, W, S, f, none⟩ :=
  in_ends (x := ⟨c, W, S, f, none⟩) ⟨hs, hf, fun _ h => by cases h⟩ ht
theorem true_two {c : Int} {W : List Int} {S : List (List Int)} {f g : List (List (List Int))} {t : List (List Int)} (hs : Suite c W S) (hf : Fore c W S f) (hg : Fore c W S g) (ht : Tru c W S t) :
    Sd.tlo ⟨c, W, S, f, some g⟩ ≤ gnd W f t S.length - gnd W g t S.length ∧ gnd W f t S.length - gnd W g t S.length ≤ Sd.thi ⟨c, W, S, f, some g⟩ := by
  have e : gnd W f t S.length - gnd W g t S.length = tS (fun i k => nth W k * dif (nth (nth f i) k) (othL (some g) i k) (nth (nth t i) k).toNat) W.length S.length := by
    unfold gnd
    rw [← tS_sb]
    refine tS_cg fun i k hi hk => ?_
    have h1 := (tru_at hg ht hi hk).1.1
    have hpos : 0 < (nth (nth g i) k).length := by have := h1.2.1; omega
    unfold dif othL
    simp only [if_pos hpos, Int.mul_sub]
  rw [e]
  exact in_ends (x := ⟨c, W, S, f, some g⟩) ⟨hs, hf, fun _ h => by cases h; exact hg⟩ ht
theorem gnd_bd {c : Int} {W : List Int} {S : List (List Int)} {f : List (List (List Int))} {t : List (List Int)} (hs : Suite c W S) (hf : Fore c W S f) (ht : Tru c W S t) : -100000000 ≤ gnd W f t S.length ∧ gnd W f t S.length ≤ 100000000 := by
  refine tsum_bd W.length S.length _ hs.2.1.2 hs.2.2.1 (fun i k hi hk => ?_) _ (Nat.le_refl _)
  have h1 := tru_at hf ht hi hk
  have h2 := Gn10 h1.1.1 (k := (nth (nth t i) k).toNat) (by omega)
  have h3 := hs.2.2.2.1 k hk
  have := mul_abs (b := Gn (nth (nth f i) k) (nth (nth t i) k).toNat) (B := 10000) h3.1 h3.2 h2.1 h2.2
  omega
theorem beatsW_bd (lo hi : Int) : 1 ≤ beatsW lo hi ∧ beatsW lo hi ≤ 3 := by
  unfold beatsW
  by_cases h1 : 0 < lo
  · rw [if_pos h1]; omega
  · rw [if_neg h1]
    by_cases h2 : 0 < hi
    · rw [if_pos h2]; omega
    · rw [if_neg h2]; omega
theorem beatsW_3 {lo hi : Int} (h : beatsW lo hi = 3) : 0 < lo := by
  unfold beatsW at h
  by_cases h1 : 0 < lo
  · exact h1
  · rw [if_neg h1] at h
    by_cases h2 : 0 < hi
    · rw [if_pos h2] at h; omega
    · rw [if_neg h2] at h; omega
theorem beatsW_1 {lo hi : Int} (h : beatsW lo hi = 1) : hi ≤ 0 ∧ lo ≤ 0 := by
  unfold beatsW at h
  by_cases h1 : 0 < lo
  · rw [if_pos h1] at h; omega
  · rw [if_neg h1] at h
    by_cases h2 : 0 < hi
    · rw [if_pos h2] at h; omega
    · omega
end Go.Proofs.Ythamljpomhjepaa
