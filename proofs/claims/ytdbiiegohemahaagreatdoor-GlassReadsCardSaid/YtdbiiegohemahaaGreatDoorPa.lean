import Derived.Lib.SplitLaws
import Derived.Lib.ItoaNum
import Derived.Lib.Join
set_option linter.unusedVariables false
set_option linter.unusedSimpArgs false
namespace Go.Sheet
open Go.Lib
/-- The parts of a text between bytes. -/
def parts (c : UInt8) : List UInt8 → List (List UInt8)
  | [] => [[]]
  | b :: s => if b = c then [] :: parts c s else match parts c s with
    | w :: ws => (b :: w) :: ws
    | [] => [[b]]
theorem parts_ne (c : UInt8) : ∀ s, parts c s ≠ []
  | [] => by simp [parts]
  | b :: s => by
    unfold parts
    split
    · simp
    · split <;> simp
theorem parts_cons_ne {c b : UInt8} {s : List UInt8} (h : b ≠ c) : ∃ w ws, parts c s = w :: ws ∧ parts c (b :: s) = (b :: w) :: ws := by
  cases hp : parts c s with
  | nil => exact absurd hp (parts_ne c s)
  | cons w ws =>
    refine ⟨w, ws, rfl, ?_⟩
    rw [parts, if_neg h, hp]
theorem parts_cons_eq {c : UInt8} {s : List UInt8} : parts c (c :: s) = [] :: parts c s := by rw [parts, if_pos rfl]
theorem join_two (w x : List UInt8) (ws : List (List UInt8)) (sep : List UInt8) : join (w :: x :: ws) sep = w ++ sep ++ join (x :: ws) sep := by
  rw [join_cons, join_cons]; simp [joinTail]
theorem join_head (b : UInt8) (w : List UInt8) (ws : List (List UInt8)) (sep : List UInt8) : join ((b :: w) :: ws) sep = b :: join (w :: ws) sep := by
  rw [join_cons, join_cons]; rfl
theorem join_parts (c : UInt8) : ∀ s, join (parts c s) [c] = s
  | [] => join_one _ _
  | b :: s => by
    by_cases h : b = c
    · subst h
      rw [parts_cons_eq]
      cases hp : parts b s with
      | nil => exact absurd hp (parts_ne b s)
      | cons w ws => rw [join_two, ← hp, join_parts b s]; rfl
    · obtain ⟨w, ws, h1, h2⟩ := parts_cons_ne (s := s) h
      rw [h2, join_head, ← h1, join_parts c s]
theorem parts_free (c : UInt8) : ∀ s, ∀ w ∈ parts c s, c ∉ w
  | [], w, hw => by simp [parts] at hw; subst hw; simp
  | b :: s, w, hw => by
    by_cases h : b = c
    · subst h
      rw [parts_cons_eq] at hw
      rcases List.mem_cons.1 hw with rfl | hw
      · simp
      · exact parts_free b s w hw
    · obtain ⟨x, xs, h1, h2⟩ := parts_cons_ne (s := s) h
      rw [h2] at hw
      rcases List.mem_cons.1 hw with rfl | hw
      · have := parts_free c s x (by rw [h1]; exact List.mem_cons_self ..)
        simp only [List.mem_cons, not_or]
        exact ⟨fun e => h e.symm, this⟩
      · exact parts_free c s w (by rw [h1]; exact List.mem_cons_of_mem _ hw)
theorem parts_app (c : UInt8) (t : List UInt8) : ∀ p : List UInt8, c ∉ p → parts c (p ++ c :: t) = p :: parts c t
  | [], _ => parts_cons_eq
  | b :: p, h => by
    simp only [List.mem_cons, not_or] at h
    have ih := parts_app c t p h.2
    obtain ⟨w, ws, h1, h2⟩ := parts_cons_ne (c := c) (b := b) (s := p ++ c :: t) (fun e => h.1 e.symm)
    rw [List.cons_append, h2]
    rw [ih] at h1
    cases h1; rfl
theorem parts_one (c : UInt8) : ∀ p : List UInt8, c ∉ p → parts c p = [p]
  | [], _ => rfl
  | b :: p, h => by
    simp only [List.mem_cons, not_or] at h
    have ih := parts_one c p h.2
    obtain ⟨w, ws, h1, h2⟩ := parts_cons_ne (c := c) (b := b) (s := p) (fun e => h.1 e.symm)
    rw [h2]
    rw [ih] at h1
    cases h1; rfl
theorem parts_join (c : UInt8) : ∀ ws : List (List UInt8), ws ≠ [] → (∀ w ∈ ws, c ∉ w) → parts c (join ws [c]) = ws
  | [], h, _ => absurd rfl h
  | [w], _, h => by rw [join_one]; exact parts_one c w (h w (List.mem_cons_self ..))
  | w :: x :: ws, _, h => by
    rw [join_two, List.append_assoc]
    show parts c (w ++ c :: join (x :: ws) [c]) = _
    rw [parts_app c _ w (h w (List.mem_cons_self ..)), parts_join c (x :: ws) (by simp) (fun y hy => h y (List.mem_cons_of_mem _ hy))]
theorem count_free (c : UInt8) : ∀ p : List UInt8, c ∉ p → p.count c = 0 := fun p h => List.count_eq_zero.2 h
theorem occ_one {c : UInt8} {s : List UInt8} {j : Nat} : occAt s [c] j = true ↔ s[j]? = some c := by
  unfold occAt
  cases h : s.drop j with
  | nil =>
    have : s[j]? = none := by rw [List.getElem?_eq_none_iff]; have := List.length_drop (l := s) (i := j); rw [h] at this; simp at this; omega
    simp [this]
  | cons a t =>
    have : s[j]? = some a := by have := List.getElem?_drop (xs := s) (i := j) (j := 0); rw [h] at this; simpa using this.symm
    rw [this]; simp only [List.isPrefixOf, Bool.and_true, beq_iff_eq, Option.some.injEq]; exact eq_comm
theorem index_free {c : UInt8} {s : List UInt8} (h : c ∉ s) : index s [c] = -1 := index_none fun j _ => by
  rw [Bool.eq_false_iff]
  intro hh
  exact h (List.mem_of_getElem? (occ_one.1 hh))
theorem index_at {c : UInt8} {p t : List UInt8} (h : c ∉ p) : index (p ++ c :: t) [c] = p.length :=
  index_first (by simp) (occ_one.2 (by simp)) fun j hj => by
    rw [Bool.eq_false_iff]
    intro hh
    have := occ_one.1 hh
    rw [List.getElem?_append_left hj] at this
    exact h (List.mem_of_getElem? this)
theorem cut_at {c : UInt8} : ∀ s : List UInt8, c ∈ s → ∃ p t, s = p ++ c :: t ∧ c ∉ p
  | b :: s, h => by
    by_cases hb : b = c
    · exact ⟨[], s, by rw [hb]; rfl, by simp⟩
    · obtain ⟨p, t, e, hp⟩ := cut_at s (by rcases List.mem_cons.1 h with h | h; exact absurd h.symm hb; exact h)
      exact ⟨b :: p, t, by rw [e]; rfl, by simp only [List.mem_cons, not_or]; exact ⟨fun e => hb e.symm, hp⟩⟩
theorem splitK_parts (c : UInt8) : ∀ (k : Nat) (s : List UInt8), s.count c = k → splitK [c] 0 k s = parts c s
  | 0, s, h => by
    have hf : c ∉ s := List.count_eq_zero.1 h
    rw [parts_one c s hf]; rfl
  | k + 1, s, h => by
    obtain ⟨p, t, rfl, hp⟩ := cut_at s (List.count_pos_iff.1 (show 0 < s.count c by omega))
    have hc : t.count c = k := by rw [List.count_append, count_free c p hp] at h; simp at h; omega
    have e : splitK [c] 0 (k + 1) (p ++ c :: t) = p :: splitK [c] 0 k t := by
      have h1 : ¬ ((index (p ++ c :: t) [c] == -1) = true) := by rw [index_at hp]; simp
      rw [splitK, if_neg h1, index_at hp]
      simp
    rw [parts_app c t p hp, ← splitK_parts c k t hc, e]
/-- Parts, as byte arrays. -/
def partsB (c : UInt8) (s : ByteArray) : List ByteArray := (parts c s.data.toList).map fun w => ⟨w.toArray⟩
theorem splitB_parts (c : UInt8) (s : ByteArray) : splitB ⟨#[c]⟩ 0 (countB s ⟨#[c]⟩) s = partsB c s := by
  have h := splitB_data ⟨#[c]⟩ 0 (countB s ⟨#[c]⟩) s
  have e : countB s ⟨#[c]⟩ = s.data.toList.count c := by unfold countB; exact count_one c _
  rw [e] at h ⊢
  rw [show (ByteArray.mk #[c]).data.toList = [c] from rfl, splitK_parts c _ _ rfl] at h
  unfold partsB
  rw [← h, List.map_map]
  conv => lhs; rw [← List.map_id (splitB _ _ _ _)]
  refine List.map_congr_left fun x _ => ?_
  show x = ⟨x.data.toList.toArray⟩
  simp

/-! ## Numerals -/
theorem dec_small {u : Nat} (h : u < 10) : decDigits u = [UInt8.ofNat (48 + u)] := by rw [decDigits, dif_pos h]
theorem dec_big {u : Nat} (h : ¬ u < 10) : decDigits u = decDigits (u / 10) ++ [UInt8.ofNat (48 + u % 10)] := by rw [decDigits, dif_neg h]
def isDig (b : UInt8) : Prop := 48 ≤ b.toNat ∧ b.toNat ≤ 57
instance (b : UInt8) : Decidable (isDig b) := by unfold isDig; infer_instance
theorem dig_toNat {n : Nat} (h : n < 10) : (UInt8.ofNat (48 + n)).toNat = 48 + n := by
  rw [UInt8.toNat_ofNat']; omega
theorem dec_dig : ∀ (u : Nat), ∀ b ∈ decDigits u, isDig b := by
  intro u
  induction u using Nat.strongRecOn with
  | _ u ih =>
    intro b hb
    by_cases h : u < 10
    · rw [dec_small h] at hb
      simp only [List.mem_singleton] at hb
      subst hb
      unfold isDig; rw [dig_toNat h]; omega
    · rw [dec_big h] at hb
      rcases List.mem_append.1 hb with hb | hb
      · exact ih (u / 10) (by omega) b hb
      · simp only [List.mem_singleton] at hb
        subst hb
        unfold isDig; rw [dig_toNat (Nat.mod_lt _ (by decide))]; omega
/-- The number that digits say. -/
def val (l : List UInt8) : Nat := l.foldl (fun n b => 10 * n + (b.toNat - 48)) 0
theorem val_snoc (l : List UInt8) (b : UInt8) : val (l ++ [b]) = 10 * val l + (b.toNat - 48) := by simp [val]
theorem val_dec : ∀ u : Nat, val (decDigits u) = u := by
  intro u
  induction u using Nat.strongRecOn with
  | _ u ih =>
    by_cases h : u < 10
    · rw [dec_small h]
      show 10 * 0 + ((UInt8.ofNat (48 + u)).toNat - 48) = u
      rw [dig_toNat h]; omega
    · rw [dec_big h, val_snoc, ih (u / 10) (by omega), dig_toNat (Nat.mod_lt _ (by decide))]; omega
theorem dec_ne (u : Nat) : decDigits u ≠ [] := by
  by_cases h : u < 10
  · rw [dec_small h]; simp
  · rw [dec_big h]; simp
theorem dec_inj {u v : Nat} (h : decDigits u = decDigits v) : u = v := by rw [← val_dec u, ← val_dec v, h]
theorem itoa_head (n : Int) (h : 0 ≤ n) : itoa n = decDigits n.toNat := by unfold itoa; rw [if_neg (by omega)]
theorem itoa_minus (n : Int) (h : n < 0) : itoa n = 45 :: decDigits n.natAbs := by unfold itoa; rw [if_pos h]
theorem dec_no45 (u : Nat) : (45 : UInt8) ∉ decDigits u := fun h => by have := dec_dig u 45 h; unfold isDig at this; exact absurd this.1 (by decide)
theorem itoa_inj {n m : Int} (h : itoa n = itoa m) : n = m := by
  by_cases hn : n < 0 <;> by_cases hm : m < 0
  · rw [itoa_minus n hn, itoa_minus m hm] at h
    have := dec_inj (List.cons.inj h).2; omega
  · rw [itoa_minus n hn, itoa_head m (by omega)] at h
    exact absurd (by rw [← h]; exact List.mem_cons_self ..) (dec_no45 m.toNat)
  · rw [itoa_head n (by omega), itoa_minus m hm] at h
    exact absurd (by rw [h]; exact List.mem_cons_self ..) (dec_no45 n.toNat)
  · rw [itoa_head n (by omega), itoa_head m (by omega)] at h
    have := dec_inj h; omega
theorem itoa_bytes (n : Int) : ∀ b ∈ itoa n, b = 45 ∨ isDig b := fun b hb => by
  unfold itoa at hb
  split at hb
  · rcases List.mem_cons.1 hb with h | h
    · exact .inl h
    · exact .inr (dec_dig _ b h)
  · exact .inr (dec_dig _ b hb)
theorem itoa_ne (n : Int) : itoa n ≠ [] := by
  unfold itoa; split
  · simp
  · exact dec_ne _
end Go.Sheet
namespace Go.Lib
theorem index_byte (c : UInt8) : ∀ s : List UInt8, index s [c] = indexByte s c := by
  intro s
  by_cases h : c ∈ s
  · obtain ⟨p, t, rfl, hp⟩ := Go.Sheet.cut_at s h
    rw [Go.Sheet.index_at hp]
    rcases Int.lt_or_le (indexByte (p ++ c :: t) c) 0 with hn | hn
    · have hm : indexByte (p ++ c :: t) c = -1 := by have := indexByte_ge (p ++ c :: t) c; omega
      exact absurd (by simp) (indexByte_none hm p.length)
    · obtain ⟨o, ho⟩ := Int.eq_ofNat_of_zero_le hn
      obtain ⟨h1, h2⟩ := indexByte_some ho
      rw [ho]
      rcases Nat.lt_trichotomy o p.length with hlt | he | hgt
      · rw [List.getElem?_append_left hlt] at h1
        exact absurd (List.mem_of_getElem? h1) hp
      · rw [he]
      · exact absurd (by simp) (h2 p.length hgt)
  · rw [Go.Sheet.index_free h]
    rcases Int.lt_or_le (indexByte s c) 0 with hn | hn
    · have := indexByte_ge s c; omega
    · obtain ⟨o, ho⟩ := Int.eq_ofNat_of_zero_le hn
      exact absurd (List.mem_of_getElem? (indexByte_some ho).1) h
end Go.Lib
