import Derived.Test.YthamljpomhjepaaQ2
import Derived.Test.YthamljpomhjepaaP9
set_option linter.unusedVariables false
set_option linter.unusedSimpArgs false
namespace Go.Proofs.Ythamljpomhjepaa
open Go.Ab
attribute [local irreducible] Abs CallK CallR CallsTo

theorem sqNn (a : Int) : 0 ≤ a * a := by
  rcases Int.le_total 0 a with h | h
  · exact Int.mul_nonneg h h
  · have := Int.mul_nonneg (a := -a) (b := -a) (by omega) (by omega)
    rwa [Int.neg_mul_neg] at this
theorem sqsLe {l : List Int} (hl : Parts l) : ∀ n, n ≤ l.length → sumTo (fun k => nth l k * nth l k) n ≤ 100 * sumTo (nth l) n
  | 0, _ => by simp [sumTo]
  | n + 1, h => by
    have ih := sqsLe hl n (by omega)
    have h1 := hl.1 n (by omega)
    have h2 : nth l n * nth l n ≤ 100 * nth l n := Int.mul_le_mul_of_nonneg_right h1.2 h1.1
    simp only [sumTo]
    omega
theorem sqOne {l : List Int} {k : Nat} : ∀ n, k < n → nth l k * nth l k ≤ sumTo (fun k => nth l k * nth l k) n
  | 0, h => by omega
  | n + 1, h => by
    have h0 : 0 ≤ sumTo (fun k => nth l k * nth l k) n := sumTo_nonneg fun i _ => sqNn _
    have h1 := sqNn (nth l n)
    simp only [sumTo]
    by_cases hk : k = n
    · subst hk; omega
    · have := sqOne (l := l) n (show k < n by omega)
      omega
theorem Gn10 {l : List Int} (hl : Parts l) {k : Nat} (hk : k < l.length) : -10000 ≤ Gn l k ∧ Gn l k ≤ 10000 := by
  have h1 := sqsLe hl l.length (Nat.le_refl _)
  have h2 := sqOne (l := l) l.length hk
  have h3 := hl.1 k hk
  have h4 := sqNn (100 - nth l k)
  have e : (100 - nth l k) * (100 - nth l k) = 10000 - 200 * nth l k + nth l k * nth l k := by rw [Int.sub_mul, Int.mul_sub, Int.mul_sub]; omega
  have h5 := hl.2.2.2
  unfold Gn sqs
  rw [h5] at h1
  omega
theorem bstV {α : Type} [Inhabited α] (w : α → Int) (l : List α) : ∀ k, (bst w l (k + 1)).2 = w (bst w l (k + 1)).1
  | 0 => by simp [bst]
  | k + 1 => by
    rw [bst]
    split
    · rfl
    · exact bstV w l k
theorem bstF {α : Type} [Inhabited α] (w : α → Int) (l : List α) : ∀ k, ∃ i, i < k + 1 ∧ (bst w l (k + 1)).1 = nth l i ∧ (∀ j, j < k + 1 → w (nth l j) ≤ w (nth l i)) ∧ ∀ j, j < i → w (nth l j) < w (nth l i)
  | 0 => ⟨0, by omega, by simp [bst], fun j hj => (by
      have e : j = 0 := by omega
      rw [e]; exact Int.le_refl _), fun j hj => absurd hj (Nat.not_lt_zero j)⟩
  | k + 1 => by
    obtain ⟨i, hi, he, h1, h2⟩ := bstF w l k
    have hv := bstV w l k
    by_cases hc : (bst w l (k + 1)).2 < w (nth l (k + 1))
    · refine ⟨k + 1, by omega, by rw [bst, if_pos (.inr hc)], fun j hj => ?_, fun j hj => ?_⟩
      · rw [hv, he] at hc
        by_cases e : j = k + 1
        · rw [e]; exact Int.le_refl _
        · have := h1 j (by omega); omega
      · rw [hv, he] at hc
        have := h1 j (by omega); omega
    · refine ⟨i, by omega, by rw [bst, if_neg (by simp; omega)]; exact he, fun j hj => ?_, h2⟩
      rw [hv, he] at hc
      by_cases e : j = k + 1
      · rw [e]; omega
      · exact h1 j (by omega)

def IsLo (n : Int) (l : List Int) : Prop := n ∈ l ∧ ∀ x ∈ l, n ≤ x
def IsHi (n : Int) (l : List Int) : Prop := n ∈ l ∧ ∀ x ∈ l, x ≤ n
theorem IsLo.eq {a b : Int} {l : List Int} (h : IsLo a l) (g : IsLo b l) : a = b := Int.le_antisymm (h.2 b g.1) (g.2 a h.1)
theorem IsHi.eq {a b : Int} {l : List Int} (h : IsHi a l) (g : IsHi b l) : a = b := Int.le_antisymm (g.2 a h.1) (h.2 b g.1)
theorem mem_nth {l : List Int} {x : Int} (h : x ∈ l) : ∃ j, j < l.length ∧ nth l j = x := by
  obtain ⟨j, hj, rfl⟩ := List.getElem_of_mem h
  exact ⟨j, hj, nth_eq l j hj⟩
theorem bst_lo {l : List Int} (h : l ≠ []) : IsLo (-(bst (fun n => -n) l l.length).2) l := by
  have hp := List.length_pos_iff.2 h
  obtain ⟨m, hm⟩ : ∃ m, l.length = m + 1 := ⟨l.length - 1, by omega⟩
  obtain ⟨i, hi, he, h1, _⟩ := bstF (fun n : Int => -n) l m
  have hv := bstV (fun n : Int => -n) l m
  rw [hm, hv, he]
  have e : - -nth l i = nth l i := Int.neg_neg _
  simp only [e]
  refine ⟨by rw [nth_eq l i (by omega)]; exact List.getElem_mem _, fun x hx => ?_⟩
  obtain ⟨j, hj, rfl⟩ := mem_nth hx
  have := h1 j (by omega)
  omega
theorem bst_hi {l : List Int} (h : l ≠ []) : IsHi (bst (fun n => n) l l.length).2 l := by
  have hp := List.length_pos_iff.2 h
  obtain ⟨m, hm⟩ : ∃ m, l.length = m + 1 := ⟨l.length - 1, by omega⟩
  obtain ⟨i, hi, he, h1, _⟩ := bstF (fun n : Int => n) l m
  have hv := bstV (fun n : Int => n) l m
  rw [hm, hv, he]
  refine ⟨by rw [nth_eq l i (by omega)]; exact List.getElem_mem _, fun x hx => ?_⟩
  obtain ⟨j, hj, rfl⟩ := mem_nth hx
  exact h1 j (by omega)

theorem mrK_spec (set : Int) (l o : List Int) : ∀ k, (∃ i, i < k ∧ hasB set i = true) → (mrK set l o k).1 = true ∧ (∃ i, i < k ∧ hasB set i = true ∧ (mrK set l o k).2.1 = dif l o i) ∧ (∃ i, i < k ∧ hasB set i = true ∧ (mrK set l o k).2.2 = dif l o i) ∧
    ∀ i, i < k → hasB set i = true → (mrK set l o k).2.1 ≤ dif l o i ∧ dif l o i ≤ (mrK set l o k).2.2
  | 0, ⟨i, h, _⟩ => absurd h (Nat.not_lt_zero i)
  | k + 1, hex => by
    have emp : (mrK set l o k).1 = false → ∀ i, i < k → hasB set i = false := fun h i hi => by
      cases hb : hasB set i with
      | false => rfl
      | true => have := (mrK_spec set l o k ⟨i, hi, hb⟩).1; rw [h] at this; cases this
    cases hk : hasB set k with
    | false =>
      rw [mrK_no hk]
      obtain ⟨i, hi, hb⟩ := hex
      have hik : i < k := by
        rcases Nat.lt_or_ge i k with h | h
        · exact h
        · obtain rfl : i = k := by omega
          rw [hk] at hb; cases hb
      obtain ⟨h1, ⟨a, a1, a2⟩, ⟨b, b1, b2⟩, h2⟩ := mrK_spec set l o k ⟨i, hik, hb⟩
      refine ⟨h1, ⟨a, by omega, a2⟩, ⟨b, by omega, b2⟩, fun j hj hjb => ?_⟩
      rcases Nat.lt_or_ge j k with h | h
      · exact h2 j h hjb
      · obtain rfl : j = k := by omega
        rw [hk] at hjb; cases hjb
    | true =>
      cases hm : (mrK set l o k).1 with
      | false =>
        rw [mrK_new hk hm]
        refine ⟨rfl, ⟨k, by omega, hk, rfl⟩, ⟨k, by omega, hk, rfl⟩, fun j hj hjb => ?_⟩
        rcases Nat.lt_or_ge j k with h | h
        · rw [emp hm j h] at hjb; cases hjb
        · obtain rfl : j = k := by omega
          exact ⟨Int.le_refl _, Int.le_refl _⟩
      | true =>
        rw [mrK_on hk hm]
        have hsome : ∃ i, i < k ∧ hasB set i = true := by
          refine Classical.byContradiction fun hno => ?_
          have : ∀ n, n ≤ k → (mrK set l o n).1 = false := by
            intro n
            induction n with
            | zero => intro _; rfl
            | succ n ih =>
              intro hn
              have hb : hasB set n = false := by
                cases hb : hasB set n with
                | false => rfl
                | true => exact absurd ⟨n, by omega, hb⟩ hno
              rw [mrK_no hb]; exact ih (by omega)
          rw [this k (Nat.le_refl _)] at hm; cases hm
        obtain ⟨_, ⟨a, a1, a2, a3⟩, ⟨b, b1, b2, b3⟩, h2⟩ := mrK_spec set l o k hsome
        simp only []
        refine ⟨trivial, ?_, ?_, fun j hj hjb => ?_⟩
        · rcases Int.le_total (mrK set l o k).2.1 (dif l o k) with h | h
          · exact ⟨a, by omega, a2, by rw [Int.min_eq_left h]; exact a3⟩
          · exact ⟨k, by omega, hk, by rw [Int.min_eq_right h]⟩
        · rcases Int.le_total (mrK set l o k).2.2 (dif l o k) with h | h
          · exact ⟨k, by omega, hk, by rw [Int.max_eq_right h]⟩
          · exact ⟨b, by omega, b2, by rw [Int.max_eq_left h]; exact b3⟩
        · rcases Nat.lt_or_ge j k with h | h
          · have := h2 j h hjb; omega
          · obtain rfl : j = k := by omega
            omega
/-- A set that is one of a suite's has a class. -/
theorem set_has {c set : Int} (hc : 2 ≤ c ∧ c ≤ 3) (h : 1 ≤ set ∧ set ≤ 2 ^ c.toNat - 1) : ∃ i, i < c.toNat ∧ hasB set i = true := by
  obtain rfl | rfl : c = 2 ∨ c = 3 := by omega
  · have h2 : set ≤ 3 := h.2
    obtain rfl | rfl | rfl : set = 1 ∨ set = 2 ∨ set = 3 := by omega
    · exact ⟨0, by decide, by decide⟩
    · exact ⟨1, by decide, by decide⟩
    · exact ⟨0, by decide, by decide⟩
  · have h2 : set ≤ 7 := h.2
    obtain rfl | rfl | rfl | rfl | rfl | rfl | rfl : set = 1 ∨ set = 2 ∨ set = 3 ∨ set = 4 ∨ set = 5 ∨ set = 6 ∨ set = 7 := by omega
    · exact ⟨0, by decide, by decide⟩
    · exact ⟨1, by decide, by decide⟩
    · exact ⟨0, by decide, by decide⟩
    · exact ⟨2, by decide, by decide⟩
    · exact ⟨0, by decide, by decide⟩
    · exact ⟨1, by decide, by decide⟩
    · exact ⟨0, by decide, by decide⟩
/-- What is known of a set with a class. -/
theorem mr_lo {set : Int} {l o : List Int} (h : ∃ i, i < l.length ∧ hasB set i = true) : (∃ i, i < l.length ∧ hasB set i = true ∧ mrLo set l o = dif l o i) ∧ (∃ i, i < l.length ∧ hasB set i = true ∧ mrHi set l o = dif l o i) ∧
    ∀ i, i < l.length → hasB set i = true → mrLo set l o ≤ dif l o i ∧ dif l o i ≤ mrHi set l o := (mrK_spec set l o l.length h).2
theorem mr_bd {l o : List Int} (hl : Small l) (ho : Small o) (set : Int) : (-50000 ≤ mrLo set l o ∧ mrLo set l o ≤ 50000) ∧ -50000 ≤ mrHi set l o ∧ mrHi set l o ≤ 50000 := mrK_bd hl ho set l.length

/-- The other one's parts of a day and a district; none, if there is no other one. -/
def othL (oth : Option (List (List (List Int)))) (day dist : Nat) : List Int := match oth with | some g => nth (nth g day) dist | none => []
theorem pts_dif {x : Sd} (h : x.Ok) {day dist : Nat} (hd : day < x.S.length) (hk : dist < x.W.length) :
    x.pts day dist = ((List.range x.c.toNat).filter (hasB (nth (nth x.S day) dist))).map fun k => dif (nth (nth x.own day) dist) (othL x.oth day dist) k * nth x.W dist := by
  unfold Sd.pts ptsL othL dif
  cases ho : x.oth with
  | none => simp
  | some g =>
    have f := fit_of (h.ot g ho) hd hk
    have h1 := h.su.1
    have hpos : 0 < (nth (nth g day) dist).length := by have := f.2.2.2; omega
    simp only [Option.map_some, if_pos hpos]
theorem sd_own {x : Sd} (h : x.Ok) {day dist : Nat} (hd : day < x.S.length) (hk : dist < x.W.length) : Parts (nth (nth x.own day) dist) ∧ (nth (nth x.own day) dist).length = x.c.toNat := by
  have h1 := h.ow.2 day (by have := h.ow.1; omega)
  have h2 := h1.2 dist (by omega)
  exact ⟨h2.2, by omega⟩
theorem sd_set {x : Sd} (h : x.Ok) {day dist : Nat} (hd : day < x.S.length) (hk : dist < x.W.length) : ∃ i, i < (nth (nth x.own day) dist).length ∧ hasB (nth (nth x.S day) dist) i = true := by
  rw [(sd_own h hd hk).2]
  have h5 := h.su.2.2.2.2 day hd
  exact set_has h.su.1 (h5.2 dist (by omega))
theorem sd_oth {x : Sd} (h : x.Ok) {day dist : Nat} (hd : day < x.S.length) (hk : dist < x.W.length) : Small (othL x.oth day dist) ∧ ((othL x.oth day dist).length = 0 ∨ (othL x.oth day dist).length = x.c.toNat) := by
  unfold othL
  cases ho : x.oth with
  | none => exact ⟨⟨by simp, fun i => by simp [nth]⟩, .inl rfl⟩
  | some g =>
    have f := fit_of (h.ot g ho) hd hk
    exact ⟨f.2.2.1, .inr (by have := f.2.2.2; simp only; omega)⟩
theorem sd_lo {x : Sd} (h : x.Ok) {day dist : Nat} (hd : day < x.S.length) (hk : dist < x.W.length) :
    x.lo day dist = nth x.W dist * mrLo (nth (nth x.S day) dist) (nth (nth x.own day) dist) (othL x.oth day dist) ∧ x.hi day dist = nth x.W dist * mrHi (nth (nth x.S day) dist) (nth (nth x.own day) dist) (othL x.oth day dist) := by
  obtain ⟨⟨a, a1, a2, a3⟩, ⟨b, b1, b2, b3⟩, h2⟩ := mr_lo (o := othL x.oth day dist) (sd_set h hd hk)
  have hl := (sd_own h hd hk).2
  rw [hl] at a1 b1 h2
  have hw := (h.su.2.2.2.1 dist hk).1
  have hp := pts_dif h hd hk
  have hmem : ∀ i, i < x.c.toNat → hasB (nth (nth x.S day) dist) i = true → nth x.W dist * dif (nth (nth x.own day) dist) (othL x.oth day dist) i ∈ x.pts day dist := fun i hi hb => by
    rw [hp]
    exact List.mem_map.2 ⟨i, List.mem_filter.2 ⟨List.mem_range.2 hi, hb⟩, Int.mul_comm _ _⟩
  have hne : x.pts day dist ≠ [] := List.ne_nil_of_mem (hmem a a1 a2)
  have hall : ∀ y ∈ x.pts day dist, ∃ i, i < x.c.toNat ∧ hasB (nth (nth x.S day) dist) i = true ∧ y = nth x.W dist * dif (nth (nth x.own day) dist) (othL x.oth day dist) i := fun y hy => by
    rw [hp] at hy
    obtain ⟨i, hi, rfl⟩ := List.mem_map.1 hy
    obtain ⟨h1, h2⟩ := List.mem_filter.1 hi
    exact ⟨i, List.mem_range.1 h1, h2, Int.mul_comm _ _⟩
  constructor
  · refine (bst_lo hne).eq ⟨?_, fun y hy => ?_⟩
    · rw [a3]; exact hmem a a1 a2
    · obtain ⟨i, hi, hb, rfl⟩ := hall y hy
      exact Int.mul_le_mul_of_nonneg_left (h2 i hi hb).1 hw
  · refine (bst_hi hne).eq ⟨?_, fun y hy => ?_⟩
    · rw [b3]; exact hmem b b1 b2
    · obtain ⟨i, hi, hb, rfl⟩ := hall y hy
      exact Int.mul_le_mul_of_nonneg_left (h2 i hi hb).2 hw
theorem sumTo_cg {f g : Nat → Int} : ∀ n, (∀ i, i < n → f i = g i) → sumTo f n = sumTo g n
  | 0, _ => rfl
  | n + 1, h => by simp only [sumTo]; rw [sumTo_cg n (fun i hi => h i (by omega)), h n (by omega)]
/-- The ends of all points, as the specification sums them. -/
def sdL (x : Sd) (i k : Nat) : Int := mrLo (nth (nth x.S i) k) (nth (nth x.own i) k) (othL x.oth i k)
def sdH (x : Sd) (i k : Nat) : Int := mrHi (nth (nth x.S i) k) (nth (nth x.own i) k) (othL x.oth i k)
theorem tlo_eq {x : Sd} (h : x.Ok) : x.tlo = tS (fun i k => nth x.W k * sdL x i k) x.W.length x.S.length ∧ x.thi = tS (fun i k => nth x.W k * sdH x i k) x.W.length x.S.length :=
  ⟨sumTo_cg _ fun i hi => sumTo_cg _ fun k hk => (sd_lo h hi hk).1, sumTo_cg _ fun i hi => sumTo_cg _ fun k hk => (sd_lo h hi hk).2⟩
end Go.Proofs.Ythamljpomhjepaa
