import Derived.Test.YthamljpomhjepaaQ9
set_option linter.unusedVariables false
set_option linter.unusedSimpArgs false
namespace Go.Proofs.Ythamljpomhjepaa
open Go.Ab
attribute [local irreducible] Abs CallK CallR CallsTo

/-- A set of one class has just that one. -/
theorem has_one {j i : Nat} (hj : j < 3) (hi : i < 3) : hasB ((2 : Int) ^ j) i = true ↔ i = j := by
  have : ∀ j : Fin 3, ∀ i : Fin 3, hasB ((2 : Int) ^ j.val) i.val = true ↔ i.val = j.val := by decide
  exact this ⟨j, hj⟩ ⟨i, hi⟩
theorem one_bd {c : Int} (hc : 2 ≤ c ∧ c ≤ 3) {j : Nat} (hj : (j : Int) < c) : 1 ≤ (2 : Int) ^ j ∧ (2 : Int) ^ j ≤ 2 ^ c.toNat - 1 := by
  obtain rfl | rfl : c = 2 ∨ c = 3 := by omega
  · obtain rfl | rfl : j = 0 ∨ j = 1 := by omega
    · decide
    · decide
  · obtain rfl | rfl | rfl : j = 0 ∨ j = 1 ∨ j = 2 := by omega
    · decide
    · decide
    · decide
/-- What is known of one class. -/
theorem mr_one {j : Nat} {l o : List Int} (hj : j < l.length) (hl : l.length ≤ 3) : mrLo ((2 : Int) ^ j) l o = dif l o j ∧ mrHi ((2 : Int) ^ j) l o = dif l o j := by
  obtain ⟨⟨a, a1, a2, a3⟩, ⟨b, b1, b2, b3⟩, _⟩ := mr_lo (o := o) (set := (2 : Int) ^ j) (l := l) ⟨j, hj, (has_one (by omega) (by omega)).2 rfl⟩
  have e1 := (has_one (by omega) (by omega)).1 a2
  have e2 := (has_one (by omega) (by omega)).1 b2
  rw [a3, b3, e1, e2]
  exact ⟨rfl, rfl⟩
theorem chT_len (most : Bool) (c : Int) (W : List Int) (S : List (List Int)) (f : List (List (List Int))) : (chT most c W S f S.length).length = S.length := by simp [chT]
theorem chT_nth (most : Bool) (c : Int) (W : List Int) (S : List (List Int)) (f : List (List (List Int))) {i k : Nat} (hi : i < S.length) (hk : k < W.length) :
    (nth (chT most c W S f S.length) i).length = W.length ∧ nth (nth (chT most c W S f S.length) i) k = (2 : Int) ^ (chD most c S f i k).toNat := by
  have e : nth (chT most c W S f S.length) i = chR most c S f i W.length := by simp [chT, nth, hi]
  rw [e]
  exact ⟨by simp [chR], by simp [chR, nth, hk]⟩
theorem ch_bd {most : Bool} {c : Int} {W : List Int} {S : List (List Int)} {f : List (List (List Int))} (hs : Suite c W S) {i k : Nat} (hi : i < S.length) (hk : k < W.length) :
    ((0 ≤ chD most c S f i k ∧ chD most c S f i k < c) ∧ hasB (nth (nth S i) k) (chD most c S f i k).toNat = true) ∧
    ∀ j, j < c.toNat → hasB (nth (nth S i) k) j = true → (most = true → nth (nth (nth f i) k) j ≤ nth (nth (nth f i) k) (chD most c S f i k).toNat) ∧ (most = false → nth (nth (nth f i) k) (chD most c S f i k).toNat ≤ nth (nth (nth f i) k) j) := by
  have h5 := hs.2.2.2.2 i hi
  have h1 := chK_spec most _ (nth (nth f i) k) c.toNat (set_has hs.1 (h5.2 k (by omega)))
  have h2 := chK_lt most (nth (nth S i) k) (nth (nth f i) k) c.toNat
  have h3 := hs.1
  exact ⟨⟨⟨h1.1.1, by unfold chD; omega⟩, h1.1.2⟩, h1.2⟩
theorem chT_suite {most : Bool} {c : Int} {W : List Int} {S : List (List Int)} {f : List (List (List Int))} (hs : Suite c W S) : Suite c W (chT most c W S f S.length) := by
  have hl := chT_len most c W S f
  refine ⟨hs.1, hs.2.1, by rw [hl]; exact hs.2.2.1, hs.2.2.2.1, fun i hi => ?_⟩
  rw [hl] at hi
  have hw := hs.2.1
  refine ⟨(chT_nth most c W S f hi (k := 0) (by omega)).1, fun k hk => ?_⟩
  have hk' : k < W.length := by have := (chT_nth most c W S f hi (k := 0) (by omega)).1; omega
  rw [(chT_nth most c W S f hi hk').2]
  have h1 := (ch_bd (most := most) (f := f) hs hi hk').1.1
  exact one_bd hs.1 (by omega)
theorem chT_fore {most : Bool} {c : Int} {W : List Int} {S : List (List Int)} {f : List (List (List Int))} (hf : Fore c W S f) : Fore c W (chT most c W S f S.length) f := ⟨by rw [chT_len]; exact hf.1, hf.2⟩
theorem Gn_le {l : List Int} {a b : Nat} (h : nth l a ≤ nth l b) : Gn l a ≤ Gn l b := by unfold Gn; omega
theorem ends_at {c : Int} {W : List Int} {S : List (List Int)} {f : List (List (List Int))} (hs : Suite c W S) (hf : Fore c W S f) {i k : Nat} (hi : i < S.length) (hk : k < W.length) :
    (sdL ⟨c, W, chT false c W S f S.length, f, none⟩ i k = sdL ⟨c, W, S, f, none⟩ i k ∧ sdH ⟨c, W, chT false c W S f S.length, f, none⟩ i k = sdL ⟨c, W, S, f, none⟩ i k) ∧
    sdL ⟨c, W, chT true c W S f S.length, f, none⟩ i k = sdH ⟨c, W, S, f, none⟩ i k ∧ sdH ⟨c, W, chT true c W S f S.length, f, none⟩ i k = sdH ⟨c, W, S, f, none⟩ i k := by
  have h0 : Sd.Ok ⟨c, W, S, f, none⟩ := ⟨hs, hf, fun _ h => by cases h⟩
  have ho := sd_own h0 hi hk
  have hc := hs.1
  have ho2 : (nth (nth f i) k).length = c.toNat := ho.2
  obtain ⟨⟨a, a1, a2, a3⟩, ⟨b, b1, b2, b3⟩, h2⟩ := mr_lo (o := othL none i k) (sd_set h0 hi hk)
  have a1 : a < (nth (nth f i) k).length := a1
  have b1 : b < (nth (nth f i) k).length := b1
  have c1 := ch_bd (most := false) (f := f) hs hi hk
  have c2 := ch_bd (most := true) (f := f) hs hi hk
  have e1 := mr_one (l := nth (nth f i) k) (o := othL none i k) (j := (chD false c S f i k).toNat) (by omega) (by omega)
  have e2 := mr_one (l := nth (nth f i) k) (o := othL none i k) (j := (chD true c S f i k).toNat) (by omega) (by omega)
  have d1 := (h2 (chD false c S f i k).toNat (show _ < (nth (nth f i) k).length by omega) c1.1.2).1
  have d2 := (h2 (chD true c S f i k).toNat (show _ < (nth (nth f i) k).length by omega) c2.1.2).2
  have f1 := Gn_le ((c1.2 a (by omega) a2).2 rfl)
  have f2 := Gn_le ((c2.2 b (by omega) b2).1 rfl)
  have g1 : ∀ j, dif (nth (nth f i) k) (othL none i k) j = Gn (nth (nth f i) k) j := fun j => rfl
  have a3 : mrLo (nth (nth S i) k) (nth (nth f i) k) (othL none i k) = dif (nth (nth f i) k) (othL none i k) a := a3
  have b3 : mrHi (nth (nth S i) k) (nth (nth f i) k) (othL none i k) = dif (nth (nth f i) k) (othL none i k) b := b3
  have d1 : mrLo (nth (nth S i) k) (nth (nth f i) k) (othL none i k) ≤ dif (nth (nth f i) k) (othL none i k) (chD false c S f i k).toNat := d1
  have d2 : dif (nth (nth f i) k) (othL none i k) (chD true c S f i k).toNat ≤ mrHi (nth (nth S i) k) (nth (nth f i) k) (othL none i k) := d2
  rw [g1] at a3 b3 d1 d2
  rw [g1] at e1 e2
  show (mrLo (nth (nth (chT false c W S f S.length) i) k) _ _ = mrLo (nth (nth S i) k) _ _ ∧ mrHi (nth (nth (chT false c W S f S.length) i) k) _ _ = mrLo (nth (nth S i) k) _ _) ∧ mrLo (nth (nth (chT true c W S f S.length) i) k) _ _ = mrHi (nth (nth S i) k) _ _ ∧ mrHi (nth (nth (chT true c W S f S.length) i) k) _ _ = mrHi (nth (nth S i) k) _ _
  rw [(chT_nth false c W S f hi hk).2, (chT_nth true c W S f hi hk).2, e1.1, e1.2, e2.1, e2.2]
  simp only at *
  omega
theorem ends_eq {c : Int} {W : List Int} {S : List (List Int)} {f : List (List (List Int))} (hs : Suite c W S) (hf : Fore c W S f) :
    (Sd.tlo ⟨c, W, chT false c W S f S.length, f, none⟩ = Sd.tlo ⟨c, W, S, f, none⟩ ∧ Sd.thi ⟨c, W, chT false c W S f S.length, f, none⟩ = Sd.tlo ⟨c, W, S, f, none⟩) ∧
    Sd.tlo ⟨c, W, chT true c W S f S.length, f, none⟩ = Sd.thi ⟨c, W, S, f, none⟩ ∧ Sd.thi ⟨c, W, chT true c W S f S.length, f, none⟩ = Sd.thi ⟨c, W, S, f, none⟩ := by
  have h0 : Sd.Ok ⟨c, W, S, f, none⟩ := ⟨hs, hf, fun _ h => by cases h⟩
  have h1 : Sd.Ok ⟨c, W, chT false c W S f S.length, f, none⟩ := ⟨chT_suite hs, chT_fore hf, fun _ h => by cases h⟩
  have h2 : Sd.Ok ⟨c, W, chT true c W S f S.length, f, none⟩ := ⟨chT_suite hs, chT_fore hf, fun _ h => by cases h⟩
  have l1 := chT_len false c W S f
  have l2 := chT_len true c W S f
  rw [(tlo_eq h0).1, (tlo_eq h0).2, (tlo_eq h1).1, (tlo_eq h1).2, (tlo_eq h2).1, (tlo_eq h2).2]
  simp only [l1, l2]
  refine ⟨⟨tS_cg fun i k hi hk => ?_, tS_cg fun i k hi hk => ?_⟩, tS_cg fun i k hi hk => ?_, tS_cg fun i k hi hk => ?_⟩
  · rw [(ends_at hs hf hi hk).1.1]
  · rw [(ends_at hs hf hi hk).1.2]
  · rw [(ends_at hs hf hi hk).2.1]
  · rw [(ends_at hs hf hi hk).2.2]
end Go.Proofs.Ythamljpomhjepaa
