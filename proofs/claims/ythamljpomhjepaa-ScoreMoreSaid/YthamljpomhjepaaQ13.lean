import Derived.Test.YthamljpomhjepaaQ10
set_option linter.unusedVariables false
set_option linter.unusedSimpArgs false
namespace Go.Proofs.Ythamljpomhjepaa
open Go.Ab
attribute [local irreducible] Abs CallK CallR CallsTo

/-- Parts that put all upon one class. -/
def hot (c n : Nat) : List Int := (List.replicate c 0).set n 100
theorem hot_len (c n : Nat) : (hot c n).length = c := by simp [hot]
theorem hot_parts {c n : Nat} (hc : 2 ≤ c ∧ c ≤ 3) (hn : n < c) : Parts (hot c n) := by
  obtain rfl | rfl : c = 2 ∨ c = 3 := by omega
  · obtain rfl | rfl : n = 0 ∨ n = 1 := by omega
    · decide
    · decide
  · obtain rfl | rfl | rfl : n = 0 ∨ n = 1 ∨ n = 2 := by omega
    · decide
    · decide
    · decide
theorem hot_gain {c n : Nat} (hc : 2 ≤ c ∧ c ≤ 3) (hn : n < c) : Gn (hot c n) n = 10000 := by
  obtain rfl | rfl : c = 2 ∨ c = 3 := by omega
  · obtain rfl | rfl : n = 0 ∨ n = 1 := by omega
    · decide
    · decide
  · obtain rfl | rfl | rfl : n = 0 ∨ n = 1 ∨ n = 2 := by omega
    · decide
    · decide
    · decide
theorem hot_cells (c n : Nat) (hn : n < c) : (hot c n).map (D.int .i64) = (List.replicate c (i64 0)).take n ++ [i64 100] ++ (List.replicate c (i64 0)).drop (n + 1) := by
  unfold hot
  rw [List.map_set, List.map_replicate, List.set_eq_take_append_cons_drop, if_pos (by simpa using hn)]
  simp

theorem pureL_i64 {bx : List Bx} {rw : List Row} : ∀ l : List Int, pureL bx rw (l.map (D.int .i64)) = some (l.map (D.int .i64))
  | [] => rfl
  | x :: l => by
    simp only [List.map_cons, pureL, pureL_i64 l]
    rfl
theorem pure_hot {bx : List Bx} {rw : List Row} {c n : Nat} {cs : List D} (h : cs = (List.replicate c (i64 0)).take n ++ [i64 100] ++ (List.replicate c (i64 0)).drop (n + 1)) (hn : n < c) : pureL bx rw cs = some ((hot c n).map (D.int .i64)) := by
  rw [h, ← hot_cells c n hn]; exact pureL_i64 _

/-- What came, as sets of one class. -/
def onR (t : List (List Int)) (i n : Nat) : List Int := (List.range n).map fun k => (2 : Int) ^ (nth (nth t i) k).toNat
def onS (t : List (List Int)) (w n : Nat) : List (List Int) := (List.range n).map fun i => onR t i w
/-- .. as it came up to some day. -/
def toS (S t : List (List Int)) (w : Nat) (days : Int) (n : Nat) : List (List Int) := (List.range n).map fun (i : Nat) => if (i : Int) < days then onR t i w else nth S i
/-- The forecast that stated each day as it came. -/
def rgR (c : Nat) (t : List (List Int)) (i n : Nat) : List (List Int) := (List.range n).map fun k => hot c (nth (nth t i) k).toNat
def rgF (c : Nat) (t : List (List Int)) (w n : Nat) : List (List (List Int)) := (List.range n).map fun i => rgR c t i w
theorem onR_succ (t : List (List Int)) (i n : Nat) : onR t i (n + 1) = onR t i n ++ [(2 : Int) ^ (nth (nth t i) n).toNat] := by simp [onR, List.range_succ]
theorem onS_succ (t : List (List Int)) (w n : Nat) : onS t w (n + 1) = onS t w n ++ [onR t n w] := by simp [onS, List.range_succ]
theorem toS_yes (S t : List (List Int)) (w : Nat) {days : Int} {n : Nat} (h : (n : Int) < days) : toS S t w days (n + 1) = toS S t w days n ++ [onR t n w] := by simp [toS, List.range_succ, h]
theorem toS_no (S t : List (List Int)) (w : Nat) {days : Int} {n : Nat} (h : ¬ (n : Int) < days) : toS S t w days (n + 1) = toS S t w days n ++ [nth S n] := by simp [toS, List.range_succ, h]
theorem rgR_succ (c : Nat) (t : List (List Int)) (i n : Nat) : rgR c t i (n + 1) = rgR c t i n ++ [hot c (nth (nth t i) n).toNat] := by simp [rgR, List.range_succ]
theorem rgF_succ (c : Nat) (t : List (List Int)) (w n : Nat) : rgF c t w (n + 1) = rgF c t w n ++ [rgR c t n w] := by simp [rgF, List.range_succ]
theorem onS_nth (t : List (List Int)) {w n i k : Nat} (hi : i < n) (hk : k < w) : (nth (onS t w n) i).length = w ∧ nth (nth (onS t w n) i) k = (2 : Int) ^ (nth (nth t i) k).toNat := by
  have e : nth (onS t w n) i = onR t i w := by simp [onS, nth, hi]
  rw [e]
  exact ⟨by simp [onR], by simp [onR, nth, hk]⟩
theorem toS_nth (S t : List (List Int)) (w : Nat) (days : Int) {n i : Nat} (hi : i < n) : nth (toS S t w days n) i = if (i : Int) < days then onR t i w else nth S i := by simp [toS, nth, hi]
theorem onR_nth (t : List (List Int)) (i : Nat) {w k : Nat} (hk : k < w) : (onR t i w).length = w ∧ nth (onR t i w) k = (2 : Int) ^ (nth (nth t i) k).toNat := ⟨by simp [onR], by simp [onR, nth, hk]⟩
theorem rgF_nth (c : Nat) (t : List (List Int)) {w n i k : Nat} (hi : i < n) (hk : k < w) : (nth (rgF c t w n) i).length = w ∧ nth (nth (rgF c t w n) i) k = hot c (nth (nth t i) k).toNat := by
  have e : nth (rgF c t w n) i = rgR c t i w := by simp [rgF, nth, hi]
  rw [e]
  exact ⟨by simp [rgR], by simp [rgR, nth, hk]⟩

theorem tru_c {c : Int} {W : List Int} {S t : List (List Int)} (ht : Tru c W S t) {i k : Nat} (hi : i < S.length) (hk : k < W.length) : (0 ≤ nth (nth t i) k ∧ nth (nth t i) k < c) ∧ hasB (nth (nth S i) k) (nth (nth t i) k).toNat = true ∧ k < (nth t i).length := by
  have h1 := ht.2 i (by have := ht.1; omega)
  have h2 := h1.2 k (by omega)
  exact ⟨h2.1, h2.2, by omega⟩
theorem one_set {c v : Int} (hc : 2 ≤ c ∧ c ≤ 3) (hv : 0 ≤ v ∧ v < c) : 1 ≤ (2 : Int) ^ v.toNat ∧ (2 : Int) ^ v.toNat ≤ 2 ^ c.toNat - 1 := one_bd hc (by omega)
theorem on_suite {c : Int} {W : List Int} {S t : List (List Int)} (hs : Suite c W S) (ht : Tru c W S t) : Suite c W (onS t W.length S.length) := by
  have hl : (onS t W.length S.length).length = S.length := by simp [onS]
  have hw := hs.2.1
  refine ⟨hs.1, hs.2.1, by rw [hl]; exact hs.2.2.1, hs.2.2.2.1, fun i hi => ?_⟩
  rw [hl] at hi
  have h0 := (onS_nth t (w := W.length) hi (k := 0) (by omega)).1
  refine ⟨h0, fun k hk => ?_⟩
  rw [(onS_nth t (w := W.length) hi (k := k) (by omega)).2]
  exact one_set hs.1 (tru_c ht hi (by omega)).1
theorem to_suite {c : Int} {W : List Int} {S t : List (List Int)} (days : Int) (hs : Suite c W S) (ht : Tru c W S t) : Suite c W (toS S t W.length days S.length) := by
  have hl : (toS S t W.length days S.length).length = S.length := by simp [toS]
  have hw := hs.2.1
  refine ⟨hs.1, hs.2.1, by rw [hl]; exact hs.2.2.1, hs.2.2.2.1, fun i hi => ?_⟩
  rw [hl] at hi
  rw [toS_nth S t W.length days hi]
  by_cases hd : (i : Int) < days
  · rw [if_pos hd]
    have h0 := (onR_nth t i (w := W.length) (k := 0) (by omega)).1
    refine ⟨h0, fun k hk => ?_⟩
    rw [(onR_nth t i (w := W.length) (k := k) (by omega)).2]
    exact one_set hs.1 (tru_c ht hi (by omega)).1
  · rw [if_neg hd]
    exact hs.2.2.2.2 i hi
theorem fore_len {c : Int} {W : List Int} {S S' : List (List Int)} {f : List (List (List Int))} (hf : Fore c W S f) (h : S'.length = S.length) : Fore c W S' f := ⟨by rw [h]; exact hf.1, hf.2⟩
theorem rg_fore {c : Int} {W : List Int} {S t : List (List Int)} (hs : Suite c W S) (ht : Tru c W S t) : Fore c W (onS t W.length S.length) (rgF c.toNat t W.length S.length) := by
  have hl : (rgF c.toNat t W.length S.length).length = S.length := by simp [rgF]
  have hw := hs.2.1
  have hc := hs.1
  refine ⟨by rw [hl]; simp [onS], fun i hi => ?_⟩
  rw [hl] at hi
  have h0 := (rgF_nth c.toNat t (w := W.length) hi (k := 0) (by omega)).1
  refine ⟨h0, fun k hk => ?_⟩
  rw [(rgF_nth c.toNat t (w := W.length) hi (k := k) (by omega)).2]
  have h1 := (tru_c ht hi (k := k) (by omega)).1
  exact ⟨by rw [hot_len]; omega, hot_parts (by omega) (by omega)⟩

/-- A set that has what came, and no more than another one, never makes bounds wider. -/
theorem more_at {c : Int} {W : List Int} {S t : List (List Int)} {f : List (List (List Int))} (days : Int) (o : Option (List (List (List Int)))) (hs : Suite c W S) (hf : Fore c W S f) (ho : ∀ g, o = some g → Fore c W S g) (ht : Tru c W S t) {i k : Nat} (hi : i < S.length) (hk : k < W.length) :
    sdL ⟨c, W, S, f, o⟩ i k ≤ sdL ⟨c, W, toS S t W.length days S.length, f, o⟩ i k ∧ sdH ⟨c, W, toS S t W.length days S.length, f, o⟩ i k ≤ sdH ⟨c, W, S, f, o⟩ i k := by
  have h0 : Sd.Ok ⟨c, W, S, f, o⟩ := ⟨hs, hf, ho⟩
  have h9 := sd_own h0 hi hk
  have hc := hs.1
  unfold sdL sdH
  simp only [toS_nth S t W.length days hi]
  by_cases hd : (i : Int) < days
  · rw [if_pos hd, (onR_nth t i hk).2]
    have h1 := tru_c ht hi hk
    have h8 : (nth (nth f i) k).length = c.toNat := h9.2
    have e := mr_one (l := nth (nth f i) k) (o := othL o i k) (j := (nth (nth t i) k).toNat) (by omega) (by omega)
    rw [e.1, e.2]
    exact (mr_lo (o := othL o i k) (sd_set h0 hi hk)).2.2 _ (show _ < (nth (nth f i) k).length by omega) h1.2.1
  · rw [if_neg hd]
    exact ⟨Int.le_refl _, Int.le_refl _⟩
theorem more_ends {c : Int} {W : List Int} {S t : List (List Int)} {f : List (List (List Int))} (days : Int) (o : Option (List (List (List Int)))) (hs : Suite c W S) (hf : Fore c W S f) (ho : ∀ g, o = some g → Fore c W S g) (ht : Tru c W S t) :
    Sd.tlo ⟨c, W, S, f, o⟩ ≤ Sd.tlo ⟨c, W, toS S t W.length days S.length, f, o⟩ ∧ Sd.thi ⟨c, W, toS S t W.length days S.length, f, o⟩ ≤ Sd.thi ⟨c, W, S, f, o⟩ := by
  have hl : (toS S t W.length days S.length).length = S.length := by simp [toS]
  have h0 : Sd.Ok ⟨c, W, S, f, o⟩ := ⟨hs, hf, ho⟩
  have h1 : Sd.Ok ⟨c, W, toS S t W.length days S.length, f, o⟩ := ⟨to_suite days hs ht, fore_len hf hl, fun g hg => fore_len (ho g hg) hl⟩
  rw [(tlo_eq h0).1, (tlo_eq h0).2, (tlo_eq h1).1, (tlo_eq h1).2]
  simp only [hl]
  exact ⟨tS_le fun i k hi hk => Int.mul_le_mul_of_nonneg_left (more_at days o hs hf ho ht hi hk).1 (hs.2.2.2.1 k hk).1, tS_le fun i k hi hk => Int.mul_le_mul_of_nonneg_left (more_at days o hs hf ho ht hi hk).2 (hs.2.2.2.1 k hk).1⟩
theorem lo_hi {x : Sd} (h : x.Ok) : x.tlo ≤ x.thi := by
  rw [(tlo_eq h).1, (tlo_eq h).2]
  refine tS_le fun i k hi hk => Int.mul_le_mul_of_nonneg_left ?_ (h.su.2.2.2.1 k hk).1
  obtain ⟨⟨a, a1, a2, _⟩, _, h2⟩ := mr_lo (o := othL x.oth i k) (sd_set h hi hk)
  have := h2 a a1 a2
  unfold sdL sdH
  omega
/-- What was stated as it came is never beaten. -/
theorem never {c : Int} {W : List Int} {S t : List (List Int)} {f : List (List (List Int))} (hs : Suite c W S) (hf : Fore c W S f) (ht : Tru c W S t) :
    Sd.thi ⟨c, W, onS t W.length S.length, f, some (rgF c.toNat t W.length S.length)⟩ ≤ 0 := by
  have hl : (onS t W.length S.length).length = S.length := by simp [onS]
  have hr := rg_fore hs ht
  have hc := hs.1
  have h : Sd.Ok ⟨c, W, onS t W.length S.length, f, some (rgF c.toNat t W.length S.length)⟩ := ⟨on_suite hs ht, fore_len hf hl, fun g hg => by cases hg; exact hr⟩
  rw [(tlo_eq h).2]
  simp only [hl]
  have hz : ∀ n, sumTo (fun _ => 0) n = 0 := fun n => by induction n with | zero => rfl | succ n ih => simp only [sumTo, ih]; rfl
  have hz2 : tS (fun _ _ => 0) W.length S.length = 0 := by unfold tS; rw [sumTo_cg (g := fun _ => 0) _ (fun i _ => hz _)]; exact hz _
  rw [← hz2]
  refine tS_le fun i k hi hk => ?_
  have h1 := tru_c ht hi hk
  have h9 := sd_own h (show i < (onS t W.length S.length).length by rw [hl]; exact hi) hk
  have h8 : (nth (nth f i) k).length = c.toNat := h9.2
  have hp : Parts (nth (nth f i) k) := h9.1
  have e := mr_one (l := nth (nth f i) k) (o := othL (some (rgF c.toNat t W.length S.length)) i k) (j := (nth (nth t i) k).toNat) (by omega) (by omega)
  have hg1 := Gn10 hp (k := (nth (nth t i) k).toNat) (by omega)
  have hg2 := hot_gain (c := c.toNat) (n := (nth (nth t i) k).toNat) (by omega) (by omega)
  have e3 : dif (nth (nth f i) k) (othL (some (rgF c.toNat t W.length S.length)) i k) (nth (nth t i) k).toNat = Gn (nth (nth f i) k) (nth (nth t i) k).toNat - 10000 := by
    unfold dif othL
    simp only [(rgF_nth c.toNat t hi hk).2]
    rw [if_pos (by rw [hot_len]; omega), hg2]
  have e4 : sdH ⟨c, W, onS t W.length S.length, f, some (rgF c.toNat t W.length S.length)⟩ i k = Gn (nth (nth f i) k) (nth (nth t i) k).toNat - 10000 := by
    unfold sdH
    simp only [(onS_nth t hi hk).2]
    rw [e.2, e3]
  rw [e4]
  have h3 := (hs.2.2.2.1 k hk).1
  have := Int.mul_le_mul_of_nonneg_left (show Gn (nth (nth f i) k) (nth (nth t i) k).toNat - 10000 ≤ 0 by omega) h3
  simpa using this
theorem beats_more {lo hi lo' hi' : Int} (h1 : lo ≤ lo') (h2 : hi' ≤ hi) (h3 : lo' ≤ hi') : beatsW lo hi = 2 ∨ beatsW lo' hi' = beatsW lo hi := by
  unfold beatsW
  by_cases a : 0 < lo
  · rw [if_pos a, if_pos (by omega)]; exact .inr rfl
  · rw [if_neg a]
    by_cases b : 0 < hi
    · rw [if_pos b]; exact .inl rfl
    · rw [if_neg b, if_neg (by omega), if_neg (by omega)]; exact .inr rfl
end Go.Proofs.Ythamljpomhjepaa
