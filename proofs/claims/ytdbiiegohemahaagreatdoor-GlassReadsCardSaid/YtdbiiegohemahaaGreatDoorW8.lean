import Derived.Test.YtdbiiegohemahaaGreatDoorV5
import Derived.Test.YtdbiiegohemahaaGreatDoorU3
set_option linter.unusedVariables false
set_option linter.unusedSimpArgs false
namespace Go.Proofs.YtdbiiegohemahaaGreatDoor
open Go.Ab Go.Sheet
attribute [local irreducible] Abs CallK CallR CallsTo CallsE IA
theorem byteAt_data (s : ByteArray) (k : Nat) (h : k < s.data.toList.length) : byteAt s k = ((s.data.toList[k]'h).toNat : Int) := by
  rw [byteAt_eq (by rw [d_size]; exact h)]
  show (((s.data[k]'_).toNat : Nat) : Int) = ((s.data.toList[k]'h).toNat : Int)
  simp
/-- What is split off by the first bytes, and where the next part begins. -/
def spK (s : ByteArray) (c : Int) : Nat → List ByteArray × Nat
  | 0 => ([], 0)
  | k + 1 => if byteAt s k = c then ((spK s c k).1 ++ [s.extract (spK s c k).2 k], k + 1) else spK s c k
theorem spK_le (s : ByteArray) (c : Int) : ∀ k, (spK s c k).2 ≤ k ∧ (spK s c k).1.length ≤ k
  | 0 => ⟨Nat.le_refl _, Nat.le_refl _⟩
  | k + 1 => by
    have := spK_le s c k
    simp only [spK]
    split
    · simp; omega
    · omega
theorem ext_data (s : ByteArray) (a b : Nat) : (s.extract a b).data.toList = (s.data.toList.drop a).take (b - a) := by
  rw [ByteArray.data_extract, Array.toList_extract]
theorem spK_parts (s : ByteArray) (c : UInt8) : ∀ k, k ≤ s.data.toList.length → (spK s c.toNat k).1.map (·.data.toList) ++ parts c (s.data.toList.drop (spK s c.toNat k).2) = parts c s.data.toList ∧ c ∉ (s.data.toList.drop (spK s c.toNat k).2).take (k - (spK s c.toNat k).2)
  | 0, _ => by simp [spK]
  | k + 1, h => by
    obtain ⟨i1, i2⟩ := spK_parts s c k (by omega)
    have hle := (spK_le s c.toNat k).1
    have hk : k < s.data.toList.length := by omega
    have hb := byteAt_data s k hk
    generalize hF : (spK s c.toNat k).2 = F at *
    have e0 : (s.data.toList.drop F) = (s.data.toList.drop F).take (k - F) ++ s.data.toList[k] :: s.data.toList.drop (k + 1) := by
      conv => lhs; rw [← List.take_append_drop (k - F) (s.data.toList.drop F)]
      rw [List.drop_drop, show F + (k - F) = k by omega, List.drop_eq_getElem_cons hk]
    simp only [spK]
    by_cases e : byteAt s k = c.toNat
    · rw [if_pos e]
      have ec : s.data.toList[k] = c := UInt8.toNat_inj.1 (by omega)
      rw [ec] at e0
      refine ⟨?_, by simp⟩
      rw [e0, parts_app c _ _ i2] at i1
      rw [List.map_append, List.map_cons, List.map_nil, ext_data, hF, List.append_assoc, ← i1]; rfl
    · rw [if_neg e, hF]
      refine ⟨i1, ?_⟩
      have ec : s.data.toList[k] ≠ c := fun h => e (by rw [hb, h])
      rw [show k + 1 - F = (k - F) + 1 by omega, e0, List.take_append]
      have hl : ((s.data.toList.drop F).take (k - F)).length = k - F := by rw [List.length_take, List.length_drop]; omega
      rw [hl, List.take_of_length_le (by rw [hl]; omega), show k - F + 1 - (k - F) = 1 by omega]
      intro hm
      rcases List.mem_append.1 hm with hm | hm
      · exact i2 hm
      · simp at hm; exact ec hm.symm
theorem spK_all (s : ByteArray) (c : UInt8) : (spK s c.toNat s.size).1 ++ [s.extract (spK s c.toNat s.size).2 s.size] = partsB c s := by
  have hz := d_size s
  obtain ⟨i1, i2⟩ := spK_parts s c s.size (by omega)
  have hle := (spK_le s c.toNat s.size).1
  have e1 : (s.data.toList.drop (spK s c.toNat s.size).2).take (s.size - (spK s c.toNat s.size).2) = s.data.toList.drop (spK s c.toNat s.size).2 := List.take_of_length_le (by rw [List.length_drop]; omega)
  rw [e1] at i2
  rw [parts_one c _ i2] at i1
  have key : ((spK s c.toNat s.size).1 ++ [s.extract (spK s c.toNat s.size).2 s.size]).map (·.data.toList) = (partsB c s).map (·.data.toList) := by
    rw [parts_data, ← i1, List.map_append, List.map_cons, List.map_nil, ext_data, e1]
  exact (List.map_inj_right (fun a b h => d_ext h)).1 key
set_option maxRecDepth 100000 in
set_option maxHeartbeats 4000000 in
theorem rsplit_ok (s : ByteArray) (c : UInt8) (hs : s.size ≤ 100000) : CallsTo Tryz.prog 32 [.str s, .int .u8 c.toNat] (.list ((partsB c s).map D.str)) := by
  rw [← spK_all]
  refine calls_abs Tryz.func32 Tryz.ntmps32 Tryz.results32 Tryz.call32 rfl (by simp) fun w0 S0 M0 => ?_
  repeat' (first | refine abs_seq ?_ | refine abs_block ?_ | refine abs_skip ?_ | refine abs_scope ?_ | refine abs_label ?_ | refine abs_exit ?_ | refine abs_ret ?_ | ((first | refine abs_region fun K hK => ?_ | refine abs_draw Tryz.ty.mixed (by kernel_rfl) fun K hK => ?_ | refine abs_if ?_ | show retQ _ _ _ _ _); simp -implicitDefEqProofs only [go_sem, bas, basL, Nat.reduceAdd, Nat.reduceSub, Nat.reduceMul, Nat.reduceLT, Nat.reduceLeDiff, Nat.reduceEqDiff, Nat.reduceBEq, Int.reduceLT, Int.reduceLE, Int.reduceToNat, Int.reduceAdd, Int.reduceSub, Int.reduceMul, Int.reduceNeg, Int.reduceEq, reduceCtorEq, eq_self, ne_eq, not_false_eq_true, if_true, reduceIte, Tryz.underlying9]) | ((first | (refine hK _ ?_; clear hK K) | show thenQ _ _ _ _ | show blockQ _ _ _ _ | show noGoQ _ _ _); simp only [noGoQ, thenQ, blockQ, if_true, Nat.reduceEqDiff, reduceIte]) | (intro hg; first | (exfalso; omega) | (exfalso; contradiction) | skip) | apply And.intro | (with_reducible rfl) | (clear hK; omega) | omega)
  refine abs_adopt 5 9 1 rfl ?_
  refine abs_loopN (ι := Nat) (fun k => [(0, .str s), (1, .int .u8 c.toNat), (5, .own 0), (6, i64 (spK s c.toNat k).2), (7, i64 k)]) (fun _ => []) (fun k => [⟨true, 9, 1, ((spK s c.toNat k).1).map D.str⟩])
    (fun k => k ≤ s.size) (fun k => s.size - k) (fun _ _ => ⟨rfl, rfl⟩) 0 (Nat.zero_le _) (le_of rfl (by try simp -implicitDefEqProofs only [go_sem, bas, basL, Nat.reduceAdd, Nat.reduceSub, Nat.reduceMul, Nat.reduceLT, Nat.reduceLeDiff, Nat.reduceEqDiff, Nat.reduceBEq, Int.reduceLT, Int.reduceLE, Int.reduceToNat, Int.reduceAdd, Int.reduceSub, Int.reduceMul, Int.reduceNeg, Int.reduceEq, reduceCtorEq, eq_self, ne_eq, not_false_eq_true, if_true, reduceIte, Tryz.underlying9]; try simp [spK]) ⟨_, rfl⟩ ⟨_, rfl⟩) (fun k hk => ?_)
  have hle := spK_le s c.toNat k
  by_cases hlt : k < s.size
  · have hsp : spK s c.toNat (k + 1) = if byteAt s k = c.toNat then ((spK s c.toNat k).1 ++ [s.extract (spK s c.toNat k).2 k], k + 1) else spK s c.toNat k := rfl
    by_cases hb : byteAt s k = c.toNat
    · rw [if_pos hb] at hsp
      simp -implicitDefEqProofs only [go_sem, bas, basL, Nat.reduceAdd, Nat.reduceSub, Nat.reduceMul, Nat.reduceLT, Nat.reduceLeDiff, Nat.reduceEqDiff, Nat.reduceBEq, Int.reduceLT, Int.reduceLE, Int.reduceToNat, Int.reduceAdd, Int.reduceSub, Int.reduceMul, Int.reduceNeg, Int.reduceEq, reduceCtorEq, eq_self, ne_eq, not_false_eq_true, if_true, reduceIte, Tryz.underlying9]
      repeat' (first | refine abs_seq ?_ | refine abs_block ?_ | refine abs_skip ?_ | refine abs_scope ?_ | refine abs_label ?_ | refine abs_exit ?_ | refine abs_ret ?_ | ((first | refine abs_region fun K hK => ?_ | refine abs_draw Tryz.ty.mixed (by kernel_rfl) fun K hK => ?_ | refine abs_if ?_ | show retQ _ _ _ _ _); simp -implicitDefEqProofs only [go_sem, bas, basL, Nat.reduceAdd, Nat.reduceSub, Nat.reduceMul, Nat.reduceLT, Nat.reduceLeDiff, Nat.reduceEqDiff, Nat.reduceBEq, Int.reduceLT, Int.reduceLE, Int.reduceToNat, Int.reduceAdd, Int.reduceSub, Int.reduceMul, Int.reduceNeg, Int.reduceEq, reduceCtorEq, eq_self, ne_eq, not_false_eq_true, if_true, reduceIte, Tryz.underlying9]) | ((first | (refine hK _ ?_; clear hK K) | show thenQ _ _ _ _ | show blockQ _ _ _ _ | show noGoQ _ _ _); simp only [noGoQ, thenQ, blockQ, if_true, Nat.reduceEqDiff, reduceIte]) | (intro hg; first | (exfalso; omega) | (exfalso; contradiction) | skip) | apply And.intro | (with_reducible rfl) | (clear hK; omega) | omega)
      exact ⟨k + 1, by omega, by omega, le_of rfl (by try simp -implicitDefEqProofs only [go_sem, bas, basL, Nat.reduceAdd, Nat.reduceSub, Nat.reduceMul, Nat.reduceLT, Nat.reduceLeDiff, Nat.reduceEqDiff, Nat.reduceBEq, Int.reduceLT, Int.reduceLE, Int.reduceToNat, Int.reduceAdd, Int.reduceSub, Int.reduceMul, Int.reduceNeg, Int.reduceEq, reduceCtorEq, eq_self, ne_eq, not_false_eq_true, if_true, reduceIte, Tryz.underlying9]; try simp [hsp]) ⟨_, rfl⟩ ⟨[], by simp [hsp]⟩⟩
    · rw [if_neg hb] at hsp
      simp -implicitDefEqProofs only [go_sem, bas, basL, Nat.reduceAdd, Nat.reduceSub, Nat.reduceMul, Nat.reduceLT, Nat.reduceLeDiff, Nat.reduceEqDiff, Nat.reduceBEq, Int.reduceLT, Int.reduceLE, Int.reduceToNat, Int.reduceAdd, Int.reduceSub, Int.reduceMul, Int.reduceNeg, Int.reduceEq, reduceCtorEq, eq_self, ne_eq, not_false_eq_true, if_true, reduceIte, Tryz.underlying9]
      repeat' (first | refine abs_seq ?_ | refine abs_block ?_ | refine abs_skip ?_ | refine abs_scope ?_ | refine abs_label ?_ | refine abs_exit ?_ | refine abs_ret ?_ | ((first | refine abs_region fun K hK => ?_ | refine abs_draw Tryz.ty.mixed (by kernel_rfl) fun K hK => ?_ | refine abs_if ?_ | show retQ _ _ _ _ _); simp -implicitDefEqProofs only [go_sem, bas, basL, Nat.reduceAdd, Nat.reduceSub, Nat.reduceMul, Nat.reduceLT, Nat.reduceLeDiff, Nat.reduceEqDiff, Nat.reduceBEq, Int.reduceLT, Int.reduceLE, Int.reduceToNat, Int.reduceAdd, Int.reduceSub, Int.reduceMul, Int.reduceNeg, Int.reduceEq, reduceCtorEq, eq_self, ne_eq, not_false_eq_true, if_true, reduceIte, Tryz.underlying9]) | ((first | (refine hK _ ?_; clear hK K) | show thenQ _ _ _ _ | show blockQ _ _ _ _ | show noGoQ _ _ _); simp only [noGoQ, thenQ, blockQ, if_true, Nat.reduceEqDiff, reduceIte]) | (intro hg; first | (exfalso; omega) | (exfalso; contradiction) | skip) | apply And.intro | (with_reducible rfl) | (clear hK; omega) | omega)
      exact ⟨k + 1, by omega, by omega, le_of rfl (by try simp -implicitDefEqProofs only [go_sem, bas, basL, Nat.reduceAdd, Nat.reduceSub, Nat.reduceMul, Nat.reduceLT, Nat.reduceLeDiff, Nat.reduceEqDiff, Nat.reduceBEq, Int.reduceLT, Int.reduceLE, Int.reduceToNat, Int.reduceAdd, Int.reduceSub, Int.reduceMul, Int.reduceNeg, Int.reduceEq, reduceCtorEq, eq_self, ne_eq, not_false_eq_true, if_true, reduceIte, Tryz.underlying9]; try simp [hsp]) ⟨_, rfl⟩ ⟨[], by simp [hsp]⟩⟩
  · obtain rfl : k = s.size := by omega
    simp -implicitDefEqProofs only [go_sem, bas, basL, Nat.reduceAdd, Nat.reduceSub, Nat.reduceMul, Nat.reduceLT, Nat.reduceLeDiff, Nat.reduceEqDiff, Nat.reduceBEq, Int.reduceLT, Int.reduceLE, Int.reduceToNat, Int.reduceAdd, Int.reduceSub, Int.reduceMul, Int.reduceNeg, Int.reduceEq, reduceCtorEq, eq_self, ne_eq, not_false_eq_true, if_true, reduceIte, Tryz.underlying9]
    repeat' (first | refine abs_seq ?_ | refine abs_block ?_ | refine abs_skip ?_ | refine abs_scope ?_ | refine abs_label ?_ | refine abs_exit ?_ | refine abs_ret ?_ | ((first | refine abs_region fun K hK => ?_ | refine abs_draw Tryz.ty.mixed (by kernel_rfl) fun K hK => ?_ | refine abs_if ?_ | show retQ _ _ _ _ _); simp -implicitDefEqProofs only [go_sem, bas, basL, Nat.reduceAdd, Nat.reduceSub, Nat.reduceMul, Nat.reduceLT, Nat.reduceLeDiff, Nat.reduceEqDiff, Nat.reduceBEq, Int.reduceLT, Int.reduceLE, Int.reduceToNat, Int.reduceAdd, Int.reduceSub, Int.reduceMul, Int.reduceNeg, Int.reduceEq, reduceCtorEq, eq_self, ne_eq, not_false_eq_true, if_true, reduceIte, Tryz.underlying9]) | ((first | (refine hK _ ?_; clear hK K) | show thenQ _ _ _ _ | show blockQ _ _ _ _ | show noGoQ _ _ _); simp only [noGoQ, thenQ, blockQ, if_true, Nat.reduceEqDiff, reduceIte]) | (intro hg; first | (exfalso; omega) | (exfalso; contradiction) | skip) | apply And.intro | (with_reducible rfl) | (clear hK; omega) | omega)
    all_goals simp
end Go.Proofs.YtdbiiegohemahaaGreatDoor
set_option linter.unusedVariables false
set_option linter.unusedSimpArgs false
namespace Go.Proofs.YtdbiiegohemahaaGreatDoor
open Go.Ab Go.Sheet
attribute [local irreducible] Abs CallK CallR CallsTo CallsE IA
/-- Has it the form of a number? -/
def fmT (d : List UInt8) : Bool := !d.isEmpty && decide (d.length ≤ 5) && d.all fun b => decide (isDig b)
/-- What the reference reads in a word. -/
def rnV (w : ByteArray) : Int := if fmT (numT w) then (if w.data.toList == numT w then (val (numT w) : Int) else -(val (numT w) : Int)) else 0
theorem numB_fm {w : ByteArray} (h : fmT (numT w) = false) : numB w = false := by
  unfold numB
  unfold fmT at h
  cases h1 : (!(numT w).isEmpty) <;> cases h2 : decide ((numT w).length ≤ 5) <;> cases h3 : (numT w).all (fun b => decide (isDig b)) <;> simp_all
theorem fm_len {d : List UInt8} (h : d.length = 0 ∨ 5 < d.length) : fmT d = false := by
  unfold fmT
  rcases h with h | h
  · rw [List.length_eq_zero_iff.1 h]; rfl
  · have : decide (d.length ≤ 5) = false := decide_eq_false (by omega)
    rw [this]; simp
theorem fm_dig {d : List UInt8} {k : Nat} (hk : k < d.length) (h : ¬ isDig d[k]) : fmT d = false := by
  unfold fmT
  have : d.all (fun b => decide (isDig b)) = false := by
    rw [List.all_eq_false]
    exact ⟨_, List.getElem_mem hk, by simpa using h⟩
  rw [this]; simp
theorem fm_yes {d : List UInt8} (h0 : 0 < d.length) (h5 : d.length ≤ 5) (hp : pK d d.length) : fmT d = true := by
  unfold fmT
  have h1 : (!d.isEmpty) = true := by cases d with | nil => simp at h0 | cons a l => rfl
  have h3 : d.all (fun b => decide (isDig b)) = true := List.all_eq_true.2 fun b hb => decide_eq_true (hp.1 b (by rw [List.take_length]; exact hb))
  rw [h1, decide_eq_true h5, h3]; rfl
theorem numT_minus {w : ByteArray} (h : 0 < w.size ∧ byteAt w 0 = 45) : w.data.toList = 45 :: numT w := by
  have hl : 0 < w.data.toList.length := by rw [← d_size]; exact h.1
  have hb := byteAt_data w 0 hl
  rw [h.2] at hb
  cases e : w.data.toList with
  | nil => rw [e] at hl; simp at hl
  | cons a l =>
    have ha : a = 45 := by
      simp only [e, List.getElem_cons_zero] at hb
      exact UInt8.toNat_inj.1 (by simp; omega)
    subst ha
    unfold numT Go.Lib.trimPrefix Go.Lib.hasPrefix
    rw [e]
    simp [List.isPrefixOf]
theorem numT_plain {w : ByteArray} (h : ¬ (0 < w.size ∧ byteAt w 0 = 45)) : numT w = w.data.toList := by
  rcases numT_data w with e | e
  · exact e.symm
  · exfalso
    have hl : 0 < w.data.toList.length := by rw [e]; simp
    have hb := byteAt_data w 0 hl
    simp only [e, List.getElem_cons_zero] at hb
    exact h ⟨by rw [d_size]; exact hl, hb⟩
end Go.Proofs.YtdbiiegohemahaaGreatDoor
set_option linter.unusedVariables false
set_option linter.unusedSimpArgs false
namespace Go.Proofs.YtdbiiegohemahaaGreatDoor
open Go.Ab Go.Sheet
attribute [local irreducible] Abs CallK CallR CallsTo CallsE IA
theorem fm_and {d : List UInt8} (h : fmT d = true) : (!d.isEmpty && d.all (fun b => decide (isDig b)) && decide (d.length ≤ 5)) = true := by
  unfold fmT at h
  simp only [Bool.and_eq_true] at h ⊢
  exact ⟨⟨h.1.1, h.2⟩, h.1.2⟩
theorem res_plain {w : ByteArray} (hd : w.data.toList = numT w) (hf : fmT (numT w) = true) : numB w = ((itoa (val (numT w) : Int)).toList == w.toList) ∧ rnV w = (val (numT w) : Int) := by
  have t2 : (itoa (val (numT w) : Int)).toList = Go.Lib.itoa (val (numT w) : Int) := mk_toList _
  have t3 : w.toList = w.data.toList := Go.Lib.toList_data w
  have e : (w.data.toList == numT w) = true := by rw [hd, beq_self_eq_true]
  constructor
  · unfold numB
    rw [fm_and hf, e, t2, t3, hd]; simp
  · unfold rnV
    rw [hf, e]; rfl
theorem res_minus {w : ByteArray} (hd : w.data.toList = 45 :: numT w) (hf : fmT (numT w) = true) : numB w = ((itoa (-(val (numT w) : Int))).toList == w.toList) ∧ rnV w = -(val (numT w) : Int) := by
  have t2 : (itoa (-(val (numT w) : Int))).toList = Go.Lib.itoa (-(val (numT w) : Int)) := mk_toList _
  have t3 : w.toList = w.data.toList := Go.Lib.toList_data w
  have e : (w.data.toList == numT w) = false := by
    rw [hd, beq_eq_false_iff_ne]
    intro h
    have := congrArg List.length h
    simp at this
  constructor
  · unfold numB
    rw [fm_and hf, e, t2, t3, hd]
    by_cases hp : 0 < val (numT w)
    · have n1 : (-(val (numT w) : Int)).natAbs = val (numT w) := by omega
      rw [itoa_minus (-(val (numT w) : Int)) (by omega), itoa_head (val (numT w) : Int) (by omega), n1]
      simp [hp]
    · have v0 : val (numT w) = 0 := by omega
      have : (Go.Lib.itoa (-((0 : Nat) : Int)) == 45 :: numT w) = false := by
        rw [beq_eq_false_iff_ne, itoa_head _ (by omega)]
        intro h
        exact dec_no45 _ (by rw [h]; exact List.mem_cons_self ..)
      rw [v0, this]; simp
  · unfold rnV
    rw [hf, e]; rfl
set_option maxRecDepth 100000 in
set_option maxHeartbeats 4000000 in
theorem rnumber_ok (w : ByteArray) (hs : w.size ≤ 100000) : CallsTo Tryz.prog 33 [.str w] (.tup [i64 (rnV w), .bool (numB w)]) := by
  by_cases hm : 0 < w.size ∧ byteAt w 0 = 45
  ·
    have hd := numT_minus hm
    have hx : w.extract 1 w.size = ⟨(numT w).toArray⟩ := by
      apply d_ext
      rw [ext_data, mk_list, hd, d_size, hd]; simp
    have hDD : (⟨(numT w).toArray⟩ : ByteArray).data.toList = numT w := mk_list _
    rw [← hx] at hDD
    generalize hG : w.extract 1 w.size = DD at *
    have hlen : DD.size = (numT w).length := by rw [d_size, hDD]
    have hbyte : ∀ k (h : k < (numT w).length), byteAt DD k = (((numT w)[k]'h).toNat : Int) := fun k h => by
      rw [byteAt_data DD k (by rw [hDD]; exact h)]; simp only [hDD]
    have hb0 : (w[0]'hm.1).toNat = 45 := by have := byteAt_eq hm.1; omega
    by_cases hl : (numT w).length = 0 ∨ 5 < (numT w).length
    · have hf := fm_len hl
      have hO := numB_fm hf
      have hV : rnV w = 0 := by unfold rnV; rw [hf]; rfl
      rw [hO, hV]
      refine calls_abs Tryz.func33 Tryz.ntmps33 Tryz.results33 Tryz.call33 rfl (by simp) fun w0 S0 M0 => ?_
      repeat' (first | refine abs_seq ?_ | refine abs_block ?_ | refine abs_skip ?_ | refine abs_scope ?_ | refine abs_label ?_ | refine abs_exit ?_ | refine abs_ret ?_ | ((first | refine abs_region fun K hK => ?_ | refine abs_draw Tryz.ty.mixed (by kernel_rfl) fun K hK => ?_ | refine abs_if ?_ | show retQ _ _ _ _ _); simp -implicitDefEqProofs only [go_sem, bas, basL, Nat.reduceAdd, Nat.reduceSub, Nat.reduceMul, Nat.reduceLT, Nat.reduceLeDiff, Nat.reduceEqDiff, Nat.reduceBEq, Int.reduceLT, Int.reduceLE, Int.reduceToNat, Int.reduceAdd, Int.reduceSub, Int.reduceMul, Int.reduceNeg, Int.reduceEq, reduceCtorEq, eq_self, ne_eq, not_false_eq_true, if_true, reduceIte, Tryz.underlying9, hG]) | ((first | (refine hK _ ?_; clear hK K) | show thenQ _ _ _ _ | show blockQ _ _ _ _ | show noGoQ _ _ _); simp only [noGoQ, thenQ, blockQ, if_true, Nat.reduceEqDiff, reduceIte]) | (refine ⟨by omega, ?_⟩) | (intro hg; first | (exfalso; omega) | (exfalso; contradiction) | skip) | apply And.intro | (with_reducible rfl) | (clear hK; omega) | omega)
      all_goals skip
    · have hs5 : (numT w).length ≤ 5 := by omega
      refine calls_abs Tryz.func33 Tryz.ntmps33 Tryz.results33 Tryz.call33 rfl (by simp) fun w0 S0 M0 => ?_
      repeat' (first | refine abs_seq ?_ | refine abs_block ?_ | refine abs_skip ?_ | refine abs_scope ?_ | refine abs_label ?_ | refine abs_exit ?_ | refine abs_ret ?_ | ((first | refine abs_region fun K hK => ?_ | refine abs_draw Tryz.ty.mixed (by kernel_rfl) fun K hK => ?_ | refine abs_if ?_ | show retQ _ _ _ _ _); simp -implicitDefEqProofs only [go_sem, bas, basL, Nat.reduceAdd, Nat.reduceSub, Nat.reduceMul, Nat.reduceLT, Nat.reduceLeDiff, Nat.reduceEqDiff, Nat.reduceBEq, Int.reduceLT, Int.reduceLE, Int.reduceToNat, Int.reduceAdd, Int.reduceSub, Int.reduceMul, Int.reduceNeg, Int.reduceEq, reduceCtorEq, eq_self, ne_eq, not_false_eq_true, if_true, reduceIte, Tryz.underlying9, hG]) | ((first | (refine hK _ ?_; clear hK K) | show thenQ _ _ _ _ | show blockQ _ _ _ _ | show noGoQ _ _ _); simp only [noGoQ, thenQ, blockQ, if_true, Nat.reduceEqDiff, reduceIte]) | (refine ⟨by omega, ?_⟩) | (intro hg; first | (exfalso; omega) | (exfalso; contradiction) | skip) | apply And.intro | (with_reducible rfl) | (clear hK; omega) | omega)
      all_goals skip
      refine abs_loopN (ι := Nat) (fun k => [(0, .str w), (4, .str DD), (5, i64 (vK (numT w) k)), (6, i64 k)]) (fun _ => []) (fun _ => [])
        (fun k => k ≤ (numT w).length ∧ pK (numT w) k) (fun k => (numT w).length - k) (fun _ _ => ⟨rfl, rfl⟩) 0 ⟨Nat.zero_le _, by simp, .inl rfl⟩ (le_of rfl (by try simp -implicitDefEqProofs only [go_sem, bas, basL, Nat.reduceAdd, Nat.reduceSub, Nat.reduceMul, Nat.reduceLT, Nat.reduceLeDiff, Nat.reduceEqDiff, Nat.reduceBEq, Int.reduceLT, Int.reduceLE, Int.reduceToNat, Int.reduceAdd, Int.reduceSub, Int.reduceMul, Int.reduceNeg, Int.reduceEq, reduceCtorEq, eq_self, ne_eq, not_false_eq_true, if_true, reduceIte, Tryz.underlying9, hG]; try simp [vK, val]) ⟨_, rfl⟩ ⟨_, rfl⟩) (fun k hk => ?_)
      obtain ⟨hk, hp⟩ := hk
      have hbd := vK_bd hp
      by_cases hlt : k < (numT w).length
      · have hb := hbyte k hlt
        by_cases hdg : isDig (numT w)[k]
        · have hsucc := vK_succ hlt hdg
          have hp2 := pK_succ hlt hp hdg hs5
          unfold isDig at hdg
          simp -implicitDefEqProofs only [go_sem, bas, basL, Nat.reduceAdd, Nat.reduceSub, Nat.reduceMul, Nat.reduceLT, Nat.reduceLeDiff, Nat.reduceEqDiff, Nat.reduceBEq, Int.reduceLT, Int.reduceLE, Int.reduceToNat, Int.reduceAdd, Int.reduceSub, Int.reduceMul, Int.reduceNeg, Int.reduceEq, reduceCtorEq, eq_self, ne_eq, not_false_eq_true, if_true, reduceIte, Tryz.underlying9, hG]
          repeat' (first | refine abs_seq ?_ | refine abs_block ?_ | refine abs_skip ?_ | refine abs_scope ?_ | refine abs_label ?_ | refine abs_exit ?_ | refine abs_ret ?_ | ((first | refine abs_region fun K hK => ?_ | refine abs_draw Tryz.ty.mixed (by kernel_rfl) fun K hK => ?_ | refine abs_if ?_ | show retQ _ _ _ _ _); simp -implicitDefEqProofs only [go_sem, bas, basL, Nat.reduceAdd, Nat.reduceSub, Nat.reduceMul, Nat.reduceLT, Nat.reduceLeDiff, Nat.reduceEqDiff, Nat.reduceBEq, Int.reduceLT, Int.reduceLE, Int.reduceToNat, Int.reduceAdd, Int.reduceSub, Int.reduceMul, Int.reduceNeg, Int.reduceEq, reduceCtorEq, eq_self, ne_eq, not_false_eq_true, if_true, reduceIte, Tryz.underlying9, hG]) | ((first | (refine hK _ ?_; clear hK K) | show thenQ _ _ _ _ | show blockQ _ _ _ _ | show noGoQ _ _ _); simp only [noGoQ, thenQ, blockQ, if_true, Nat.reduceEqDiff, reduceIte]) | (intro hg; first | (exfalso; omega) | (exfalso; contradiction) | skip) | apply And.intro | (with_reducible rfl) | (clear hK; omega) | omega)
          exact ⟨k + 1, ⟨by omega, hp2⟩, by omega, le_of rfl (by try simp -implicitDefEqProofs only [go_sem, bas, basL, Nat.reduceAdd, Nat.reduceSub, Nat.reduceMul, Nat.reduceLT, Nat.reduceLeDiff, Nat.reduceEqDiff, Nat.reduceBEq, Int.reduceLT, Int.reduceLE, Int.reduceToNat, Int.reduceAdd, Int.reduceSub, Int.reduceMul, Int.reduceNeg, Int.reduceEq, reduceCtorEq, eq_self, ne_eq, not_false_eq_true, if_true, reduceIte, Tryz.underlying9, hG]; try simp [hsucc, hb]) ⟨_, rfl⟩ ⟨_, rfl⟩⟩
        · have hf := fm_dig hlt hdg
          have hO := numB_fm hf
          have hV : rnV w = 0 := by unfold rnV; rw [hf]; rfl
          rw [hO, hV]
          unfold isDig at hdg
          simp -implicitDefEqProofs only [go_sem, bas, basL, Nat.reduceAdd, Nat.reduceSub, Nat.reduceMul, Nat.reduceLT, Nat.reduceLeDiff, Nat.reduceEqDiff, Nat.reduceBEq, Int.reduceLT, Int.reduceLE, Int.reduceToNat, Int.reduceAdd, Int.reduceSub, Int.reduceMul, Int.reduceNeg, Int.reduceEq, reduceCtorEq, eq_self, ne_eq, not_false_eq_true, if_true, reduceIte, Tryz.underlying9, hG]
          repeat' (first | refine abs_seq ?_ | refine abs_block ?_ | refine abs_skip ?_ | refine abs_scope ?_ | refine abs_label ?_ | refine abs_exit ?_ | refine abs_ret ?_ | ((first | refine abs_region fun K hK => ?_ | refine abs_draw Tryz.ty.mixed (by kernel_rfl) fun K hK => ?_ | refine abs_if ?_ | show retQ _ _ _ _ _); simp -implicitDefEqProofs only [go_sem, bas, basL, Nat.reduceAdd, Nat.reduceSub, Nat.reduceMul, Nat.reduceLT, Nat.reduceLeDiff, Nat.reduceEqDiff, Nat.reduceBEq, Int.reduceLT, Int.reduceLE, Int.reduceToNat, Int.reduceAdd, Int.reduceSub, Int.reduceMul, Int.reduceNeg, Int.reduceEq, reduceCtorEq, eq_self, ne_eq, not_false_eq_true, if_true, reduceIte, Tryz.underlying9, hG]) | ((first | (refine hK _ ?_; clear hK K) | show thenQ _ _ _ _ | show blockQ _ _ _ _ | show noGoQ _ _ _); simp only [noGoQ, thenQ, blockQ, if_true, Nat.reduceEqDiff, reduceIte]) | (intro hg; first | (exfalso; omega) | (exfalso; contradiction) | skip) | apply And.intro | (with_reducible rfl) | (clear hK; omega) | omega)
          all_goals skip
      · obtain rfl : k = (numT w).length := by omega
        have hf : fmT (numT w) = true := fm_yes (by omega) hs5 hp
        have hv : vK (numT w) (numT w).length = (val (numT w) : Int) := by unfold vK; rw [List.take_length]
        obtain ⟨r1, r2⟩ := res_minus hd hf
        have hne : (DD.toList == w.toList) = false := by
          rw [Go.Lib.toList_data, Go.Lib.toList_data, hDD, hd, beq_eq_false_iff_ne]
          intro h
          have := congrArg List.length h
          simp at this
        rw [hv] at hbd ⊢
        rw [r1, r2]
        have hde := decimal_ok (-(val (numT w) : Int)) (by omega)
        generalize (val (numT w) : Int) = N at *
        simp -implicitDefEqProofs only [go_sem, bas, basL, Nat.reduceAdd, Nat.reduceSub, Nat.reduceMul, Nat.reduceLT, Nat.reduceLeDiff, Nat.reduceEqDiff, Nat.reduceBEq, Int.reduceLT, Int.reduceLE, Int.reduceToNat, Int.reduceAdd, Int.reduceSub, Int.reduceMul, Int.reduceNeg, Int.reduceEq, reduceCtorEq, eq_self, ne_eq, not_false_eq_true, if_true, reduceIte, Tryz.underlying9, hG, hne, Bool.not_false]
        repeat' (first | refine abs_seq ?_ | refine abs_block ?_ | refine abs_skip ?_ | refine abs_scope ?_ | refine abs_label ?_ | refine abs_exit ?_ | refine abs_ret ?_ | ((first | refine abs_region fun K hK => ?_ | refine abs_draw Tryz.ty.mixed (by kernel_rfl) fun K hK => ?_ | refine abs_if ?_ | show retQ _ _ _ _ _ | refine callK (hde) ?_); simp -implicitDefEqProofs only [go_sem, bas, basL, Nat.reduceAdd, Nat.reduceSub, Nat.reduceMul, Nat.reduceLT, Nat.reduceLeDiff, Nat.reduceEqDiff, Nat.reduceBEq, Int.reduceLT, Int.reduceLE, Int.reduceToNat, Int.reduceAdd, Int.reduceSub, Int.reduceMul, Int.reduceNeg, Int.reduceEq, reduceCtorEq, eq_self, ne_eq, not_false_eq_true, if_true, reduceIte, Tryz.underlying9, hG, hne, Bool.not_false]) | ((first | (refine hK _ ?_; clear hK K) | show thenQ _ _ _ _ | show blockQ _ _ _ _ | show noGoQ _ _ _); simp only [noGoQ, thenQ, blockQ, if_true, Nat.reduceEqDiff, reduceIte]) | (intro hg; first | (exfalso; omega) | (exfalso; contradiction) | skip) | apply And.intro | (with_reducible rfl) | (clear hK; omega) | omega)
        all_goals skip
  · by_cases hz : 0 < w.size
    ·
      have hDD : w.data.toList = numT w := (numT_plain hm).symm
      have hlen : w.size = (numT w).length := by rw [d_size, hDD]
      have hbyte : ∀ k (h : k < (numT w).length), byteAt w k = (((numT w)[k]'h).toNat : Int) := fun k h => by
        rw [byteAt_data w k (by rw [hDD]; exact h)]; simp only [hDD]
      have hb0 : (w[0]'hz).toNat ≠ 45 := fun e => hm ⟨hz, by rw [byteAt_eq hz, e]; rfl⟩
      by_cases hl : (numT w).length = 0 ∨ 5 < (numT w).length
      · have hf := fm_len hl
        have hO := numB_fm hf
        have hV : rnV w = 0 := by unfold rnV; rw [hf]; rfl
        rw [hO, hV]
        refine calls_abs Tryz.func33 Tryz.ntmps33 Tryz.results33 Tryz.call33 rfl (by simp) fun w0 S0 M0 => ?_
        repeat' (first | refine abs_seq ?_ | refine abs_block ?_ | refine abs_skip ?_ | refine abs_scope ?_ | refine abs_label ?_ | refine abs_exit ?_ | refine abs_ret ?_ | ((first | refine abs_region fun K hK => ?_ | refine abs_draw Tryz.ty.mixed (by kernel_rfl) fun K hK => ?_ | refine abs_if ?_ | show retQ _ _ _ _ _); simp -implicitDefEqProofs only [go_sem, bas, basL, Nat.reduceAdd, Nat.reduceSub, Nat.reduceMul, Nat.reduceLT, Nat.reduceLeDiff, Nat.reduceEqDiff, Nat.reduceBEq, Int.reduceLT, Int.reduceLE, Int.reduceToNat, Int.reduceAdd, Int.reduceSub, Int.reduceMul, Int.reduceNeg, Int.reduceEq, reduceCtorEq, eq_self, ne_eq, not_false_eq_true, if_true, reduceIte, Tryz.underlying9]) | ((first | (refine hK _ ?_; clear hK K) | show thenQ _ _ _ _ | show blockQ _ _ _ _ | show noGoQ _ _ _); simp only [noGoQ, thenQ, blockQ, if_true, Nat.reduceEqDiff, reduceIte]) | (refine ⟨by omega, ?_⟩) | (intro hg; first | (exfalso; omega) | (exfalso; contradiction) | skip) | apply And.intro | (with_reducible rfl) | (clear hK; omega) | omega)
        all_goals skip
      · have hs5 : (numT w).length ≤ 5 := by omega
        refine calls_abs Tryz.func33 Tryz.ntmps33 Tryz.results33 Tryz.call33 rfl (by simp) fun w0 S0 M0 => ?_
        repeat' (first | refine abs_seq ?_ | refine abs_block ?_ | refine abs_skip ?_ | refine abs_scope ?_ | refine abs_label ?_ | refine abs_exit ?_ | refine abs_ret ?_ | ((first | refine abs_region fun K hK => ?_ | refine abs_draw Tryz.ty.mixed (by kernel_rfl) fun K hK => ?_ | refine abs_if ?_ | show retQ _ _ _ _ _); simp -implicitDefEqProofs only [go_sem, bas, basL, Nat.reduceAdd, Nat.reduceSub, Nat.reduceMul, Nat.reduceLT, Nat.reduceLeDiff, Nat.reduceEqDiff, Nat.reduceBEq, Int.reduceLT, Int.reduceLE, Int.reduceToNat, Int.reduceAdd, Int.reduceSub, Int.reduceMul, Int.reduceNeg, Int.reduceEq, reduceCtorEq, eq_self, ne_eq, not_false_eq_true, if_true, reduceIte, Tryz.underlying9]) | ((first | (refine hK _ ?_; clear hK K) | show thenQ _ _ _ _ | show blockQ _ _ _ _ | show noGoQ _ _ _); simp only [noGoQ, thenQ, blockQ, if_true, Nat.reduceEqDiff, reduceIte]) | (refine ⟨by omega, ?_⟩) | (intro hg; first | (exfalso; omega) | (exfalso; contradiction) | skip) | apply And.intro | (with_reducible rfl) | (clear hK; omega) | omega)
        all_goals skip
        refine abs_loopN (ι := Nat) (fun k => [(0, .str w), (4, .str w), (5, i64 (vK (numT w) k)), (6, i64 k)]) (fun _ => []) (fun _ => [])
          (fun k => k ≤ (numT w).length ∧ pK (numT w) k) (fun k => (numT w).length - k) (fun _ _ => ⟨rfl, rfl⟩) 0 ⟨Nat.zero_le _, by simp, .inl rfl⟩ (le_of rfl (by try simp -implicitDefEqProofs only [go_sem, bas, basL, Nat.reduceAdd, Nat.reduceSub, Nat.reduceMul, Nat.reduceLT, Nat.reduceLeDiff, Nat.reduceEqDiff, Nat.reduceBEq, Int.reduceLT, Int.reduceLE, Int.reduceToNat, Int.reduceAdd, Int.reduceSub, Int.reduceMul, Int.reduceNeg, Int.reduceEq, reduceCtorEq, eq_self, ne_eq, not_false_eq_true, if_true, reduceIte, Tryz.underlying9]; try simp [vK, val]) ⟨_, rfl⟩ ⟨_, rfl⟩) (fun k hk => ?_)
        obtain ⟨hk, hp⟩ := hk
        have hbd := vK_bd hp
        by_cases hlt : k < (numT w).length
        · have hb := hbyte k hlt
          by_cases hdg : isDig (numT w)[k]
          · have hsucc := vK_succ hlt hdg
            have hp2 := pK_succ hlt hp hdg hs5
            unfold isDig at hdg
            simp -implicitDefEqProofs only [go_sem, bas, basL, Nat.reduceAdd, Nat.reduceSub, Nat.reduceMul, Nat.reduceLT, Nat.reduceLeDiff, Nat.reduceEqDiff, Nat.reduceBEq, Int.reduceLT, Int.reduceLE, Int.reduceToNat, Int.reduceAdd, Int.reduceSub, Int.reduceMul, Int.reduceNeg, Int.reduceEq, reduceCtorEq, eq_self, ne_eq, not_false_eq_true, if_true, reduceIte, Tryz.underlying9]
            repeat' (first | refine abs_seq ?_ | refine abs_block ?_ | refine abs_skip ?_ | refine abs_scope ?_ | refine abs_label ?_ | refine abs_exit ?_ | refine abs_ret ?_ | ((first | refine abs_region fun K hK => ?_ | refine abs_draw Tryz.ty.mixed (by kernel_rfl) fun K hK => ?_ | refine abs_if ?_ | show retQ _ _ _ _ _); simp -implicitDefEqProofs only [go_sem, bas, basL, Nat.reduceAdd, Nat.reduceSub, Nat.reduceMul, Nat.reduceLT, Nat.reduceLeDiff, Nat.reduceEqDiff, Nat.reduceBEq, Int.reduceLT, Int.reduceLE, Int.reduceToNat, Int.reduceAdd, Int.reduceSub, Int.reduceMul, Int.reduceNeg, Int.reduceEq, reduceCtorEq, eq_self, ne_eq, not_false_eq_true, if_true, reduceIte, Tryz.underlying9]) | ((first | (refine hK _ ?_; clear hK K) | show thenQ _ _ _ _ | show blockQ _ _ _ _ | show noGoQ _ _ _); simp only [noGoQ, thenQ, blockQ, if_true, Nat.reduceEqDiff, reduceIte]) | (intro hg; first | (exfalso; omega) | (exfalso; contradiction) | skip) | apply And.intro | (with_reducible rfl) | (clear hK; omega) | omega)
            exact ⟨k + 1, ⟨by omega, hp2⟩, by omega, le_of rfl (by try simp -implicitDefEqProofs only [go_sem, bas, basL, Nat.reduceAdd, Nat.reduceSub, Nat.reduceMul, Nat.reduceLT, Nat.reduceLeDiff, Nat.reduceEqDiff, Nat.reduceBEq, Int.reduceLT, Int.reduceLE, Int.reduceToNat, Int.reduceAdd, Int.reduceSub, Int.reduceMul, Int.reduceNeg, Int.reduceEq, reduceCtorEq, eq_self, ne_eq, not_false_eq_true, if_true, reduceIte, Tryz.underlying9]; try simp [hsucc, hb]) ⟨_, rfl⟩ ⟨_, rfl⟩⟩
          · have hf := fm_dig hlt hdg
            have hO := numB_fm hf
            have hV : rnV w = 0 := by unfold rnV; rw [hf]; rfl
            rw [hO, hV]
            unfold isDig at hdg
            simp -implicitDefEqProofs only [go_sem, bas, basL, Nat.reduceAdd, Nat.reduceSub, Nat.reduceMul, Nat.reduceLT, Nat.reduceLeDiff, Nat.reduceEqDiff, Nat.reduceBEq, Int.reduceLT, Int.reduceLE, Int.reduceToNat, Int.reduceAdd, Int.reduceSub, Int.reduceMul, Int.reduceNeg, Int.reduceEq, reduceCtorEq, eq_self, ne_eq, not_false_eq_true, if_true, reduceIte, Tryz.underlying9]
            repeat' (first | refine abs_seq ?_ | refine abs_block ?_ | refine abs_skip ?_ | refine abs_scope ?_ | refine abs_label ?_ | refine abs_exit ?_ | refine abs_ret ?_ | ((first | refine abs_region fun K hK => ?_ | refine abs_draw Tryz.ty.mixed (by kernel_rfl) fun K hK => ?_ | refine abs_if ?_ | show retQ _ _ _ _ _); simp -implicitDefEqProofs only [go_sem, bas, basL, Nat.reduceAdd, Nat.reduceSub, Nat.reduceMul, Nat.reduceLT, Nat.reduceLeDiff, Nat.reduceEqDiff, Nat.reduceBEq, Int.reduceLT, Int.reduceLE, Int.reduceToNat, Int.reduceAdd, Int.reduceSub, Int.reduceMul, Int.reduceNeg, Int.reduceEq, reduceCtorEq, eq_self, ne_eq, not_false_eq_true, if_true, reduceIte, Tryz.underlying9]) | ((first | (refine hK _ ?_; clear hK K) | show thenQ _ _ _ _ | show blockQ _ _ _ _ | show noGoQ _ _ _); simp only [noGoQ, thenQ, blockQ, if_true, Nat.reduceEqDiff, reduceIte]) | (intro hg; first | (exfalso; omega) | (exfalso; contradiction) | skip) | apply And.intro | (with_reducible rfl) | (clear hK; omega) | omega)
            all_goals skip
        · obtain rfl : k = (numT w).length := by omega
          have hf : fmT (numT w) = true := fm_yes (by omega) hs5 hp
          have hv : vK (numT w) (numT w).length = (val (numT w) : Int) := by unfold vK; rw [List.take_length]
          obtain ⟨r1, r2⟩ := res_plain hDD hf
          rw [hv] at hbd ⊢
          rw [r1, r2]
          have hde := decimal_ok (val (numT w) : Int) (by omega)
          generalize (val (numT w) : Int) = N at *
          simp -implicitDefEqProofs only [go_sem, bas, basL, Nat.reduceAdd, Nat.reduceSub, Nat.reduceMul, Nat.reduceLT, Nat.reduceLeDiff, Nat.reduceEqDiff, Nat.reduceBEq, Int.reduceLT, Int.reduceLE, Int.reduceToNat, Int.reduceAdd, Int.reduceSub, Int.reduceMul, Int.reduceNeg, Int.reduceEq, reduceCtorEq, eq_self, ne_eq, not_false_eq_true, if_true, reduceIte, Tryz.underlying9, beq_self_eq_true, Bool.not_true]
          repeat' (first | refine abs_seq ?_ | refine abs_block ?_ | refine abs_skip ?_ | refine abs_scope ?_ | refine abs_label ?_ | refine abs_exit ?_ | refine abs_ret ?_ | ((first | refine abs_region fun K hK => ?_ | refine abs_draw Tryz.ty.mixed (by kernel_rfl) fun K hK => ?_ | refine abs_if ?_ | show retQ _ _ _ _ _ | refine callK (hde) ?_); simp -implicitDefEqProofs only [go_sem, bas, basL, Nat.reduceAdd, Nat.reduceSub, Nat.reduceMul, Nat.reduceLT, Nat.reduceLeDiff, Nat.reduceEqDiff, Nat.reduceBEq, Int.reduceLT, Int.reduceLE, Int.reduceToNat, Int.reduceAdd, Int.reduceSub, Int.reduceMul, Int.reduceNeg, Int.reduceEq, reduceCtorEq, eq_self, ne_eq, not_false_eq_true, if_true, reduceIte, Tryz.underlying9, beq_self_eq_true, Bool.not_true]) | ((first | (refine hK _ ?_; clear hK K) | show thenQ _ _ _ _ | show blockQ _ _ _ _ | show noGoQ _ _ _); simp only [noGoQ, thenQ, blockQ, if_true, Nat.reduceEqDiff, reduceIte]) | (intro hg; first | (exfalso; omega) | (exfalso; contradiction) | skip) | apply And.intro | (with_reducible rfl) | (clear hK; omega) | omega)
          all_goals skip
    ·
      have hDD : w.data.toList = numT w := (numT_plain hm).symm
      have hlen : w.size = (numT w).length := by rw [d_size, hDD]
      have hbyte : ∀ k (h : k < (numT w).length), byteAt w k = (((numT w)[k]'h).toNat : Int) := fun k h => by
        rw [byteAt_data w k (by rw [hDD]; exact h)]; simp only [hDD]
      by_cases hl : (numT w).length = 0 ∨ 5 < (numT w).length
      · have hf := fm_len hl
        have hO := numB_fm hf
        have hV : rnV w = 0 := by unfold rnV; rw [hf]; rfl
        rw [hO, hV]
        refine calls_abs Tryz.func33 Tryz.ntmps33 Tryz.results33 Tryz.call33 rfl (by simp) fun w0 S0 M0 => ?_
        repeat' (first | refine abs_seq ?_ | refine abs_block ?_ | refine abs_skip ?_ | refine abs_scope ?_ | refine abs_label ?_ | refine abs_exit ?_ | refine abs_ret ?_ | ((first | refine abs_region fun K hK => ?_ | refine abs_draw Tryz.ty.mixed (by kernel_rfl) fun K hK => ?_ | refine abs_if ?_ | show retQ _ _ _ _ _); simp -implicitDefEqProofs only [go_sem, bas, basL, Nat.reduceAdd, Nat.reduceSub, Nat.reduceMul, Nat.reduceLT, Nat.reduceLeDiff, Nat.reduceEqDiff, Nat.reduceBEq, Int.reduceLT, Int.reduceLE, Int.reduceToNat, Int.reduceAdd, Int.reduceSub, Int.reduceMul, Int.reduceNeg, Int.reduceEq, reduceCtorEq, eq_self, ne_eq, not_false_eq_true, if_true, reduceIte, Tryz.underlying9]) | ((first | (refine hK _ ?_; clear hK K) | show thenQ _ _ _ _ | show blockQ _ _ _ _ | show noGoQ _ _ _); simp only [noGoQ, thenQ, blockQ, if_true, Nat.reduceEqDiff, reduceIte]) | (refine ⟨by omega, ?_⟩) | (intro hg; first | (exfalso; omega) | (exfalso; contradiction) | skip) | apply And.intro | (with_reducible rfl) | (clear hK; omega) | omega)
        all_goals skip
      · exact absurd (.inl (by omega)) hl
end Go.Proofs.YtdbiiegohemahaaGreatDoor
set_option linter.unusedVariables false
set_option linter.unusedSimpArgs false
namespace Go.Proofs.YtdbiiegohemahaaGreatDoor
open Go.Ab Go.Sheet
attribute [local irreducible] Abs CallK CallR CallsTo CallsE IA
set_option maxRecDepth 100000 in
set_option maxHeartbeats 4000000 in
theorem gRead_long (t : ByteArray) (ht : 3000 < t.size) (ht2 : t.size ≤ 100000) : CallsTo Tryz.prog 9 [.str t] (.tup [.list [], i64 3]) := by
  refine calls_abs Tryz.func9 Tryz.ntmps9 Tryz.results9 Tryz.call9 rfl (by simp) fun w0 S0 M0 => ?_
  repeat' (first | refine abs_seq ?_ | refine abs_block ?_ | refine abs_skip ?_ | refine abs_scope ?_ | refine abs_label ?_ | refine abs_exit ?_ | refine abs_ret ?_ | ((first | refine abs_region fun K hK => ?_ | refine abs_draw Tryz.ty.mixed (by kernel_rfl) fun K hK => ?_ | refine abs_if ?_ | show retQ _ _ _ _ _); simp -implicitDefEqProofs only [go_sem, bas, basL, Nat.reduceAdd, Nat.reduceSub, Nat.reduceMul, Nat.reduceLT, Nat.reduceLeDiff, Nat.reduceEqDiff, Nat.reduceBEq, Int.reduceLT, Int.reduceLE, Int.reduceToNat, Int.reduceAdd, Int.reduceSub, Int.reduceMul, Int.reduceNeg, Int.reduceEq, reduceCtorEq, eq_self, ne_eq, not_false_eq_true, if_true, reduceIte, Tryz.underlying9]) | ((first | (refine hK _ ?_; clear hK K) | show thenQ _ _ _ _ | show blockQ _ _ _ _ | show noGoQ _ _ _); simp only [noGoQ, thenQ, blockQ, if_true, Nat.reduceEqDiff, reduceIte]) | (intro hg; first | (exfalso; omega) | (exfalso; contradiction) | skip) | apply And.intro | (with_reducible rfl) | (clear hK; omega) | omega)
  all_goals rfl
theorem numO_itoa {w : ByteArray} (h : (numO w).isSome = true) : w = itoa (nO w) := by
  have hb := some_numB h
  have hn : nO w = if w.data.toList == numT w then (val (numT w) : Int) else -(val (numT w) : Int) := by
    unfold nO numO; rw [if_pos hb]; rfl
  unfold numB at hb
  simp only [Bool.and_eq_true, beq_iff_eq] at hb
  have hi := hb.1.2
  apply d_ext
  rw [d_itoa, hn]
  rcases numT_data w with e | e
  · rw [show (w.data.toList == numT w) = true by rw [e, beq_self_eq_true], if_pos rfl, hi, e]
  · have hne : (w.data.toList == numT w) = false := by
      rw [e, beq_eq_false_iff_ne]
      intro h
      have := congrArg List.length h
      simp at this
    rw [hne] at hb ⊢
    have hp : 0 < val (numT w) := by simpa using hb.2
    rw [if_neg (by decide), itoa_minus (-(val (numT w) : Int)) (by omega), show (-(val (numT w) : Int)).natAbs = val (numT w) by omega, e]
    rw [itoa_head (val (numT w) : Int) (by omega)] at hi
    rw [Int.toNat_natCast] at hi
    rw [hi]
theorem numO_bd {w : ByteArray} (h : (numO w).isSome = true) : (nO w).natAbs ≤ 99999 := by
  have hb := some_numB h
  have hd := numB_digits hb
  have hl := val_lt (numT w) hd
  unfold numB at hb
  simp only [Bool.and_eq_true, decide_eq_true_eq] at hb
  have h5 := hb.1.1.2
  have h3 : 10 ^ (numT w).length ≤ 10 ^ 5 := Nat.pow_le_pow_right (by decide) h5
  unfold nO numO
  rw [if_pos (some_numB h)]
  simp only [Option.getD_some]
  split <;> omega
theorem lineO_line {s : ByteArray} (h : (lineO s).isSome = true) : Fit (lnO s) ∧ s = lineW (lnO s) := by
  obtain ⟨w0, w1, c, w3, w4, w5, w6, w7, w8, w9, e, hc, n0, n1, n3, n4, n5, n6, n7, n8, n9⟩ := lineO_some h
  have hidx : idxO ⟨#[c]⟩ = Go.Lib.indexByte rse.data.toList c := rfl
  have hr : lnO s = ⟨nO w0, nO w1, 1 + Go.Lib.indexByte rse.data.toList c, nO w3, nO w4, nO w5, nO w6, nO w7, nO w8, nO w9⟩ := by
    unfold lnO lineO
    rw [e]
    unfold rdgO
    dsimp only
    rw [if_pos ⟨rfl, by rw [hidx]; exact hc, n0, n1, n3, n4, n5, n6, n7, n8, n9⟩, hidx]; rfl
  have hl : letterC (1 + Go.Lib.indexByte rse.data.toList c) = c ∧ 1 ≤ 1 + Go.Lib.indexByte rse.data.toList c ∧ 1 + Go.Lib.indexByte rse.data.toList c ≤ 3 := by
    rcases rse_index hc with rfl | rfl | rfl <;> decide
  have hf : Fit (lnO s) := by
    rw [hr]
    refine ⟨numO_bd n0, numO_bd n1, hl.2, fun n hn => ?_⟩
    simp only [numsR, List.mem_cons, List.not_mem_nil, or_false] at hn
    rcases hn with rfl | rfl | rfl | rfl | rfl | rfl | rfl
    · exact numO_bd n3
    · exact numO_bd n4
    · exact numO_bd n5
    · exact numO_bd n6
    · exact numO_bd n7
    · exact numO_bd n8
    · exact numO_bd n9
  refine ⟨hf, ?_⟩
  apply d_ext
  unfold lineW
  rw [d_join, words_eq hf, data_parts 32 s, e, hr]
  simp only [hl.1, ← numO_itoa n0, ← numO_itoa n1, ← numO_itoa n3, ← numO_itoa n4, ← numO_itoa n5, ← numO_itoa n6, ← numO_itoa n7, ← numO_itoa n8, ← numO_itoa n9]
theorem rds_len (t : ByteArray) : (rdsO t).length = nO' t := by
  unfold rdsO
  rw [List.length_map, List.length_take, ls_len]; omega
theorem rds_nth (t : ByteArray) {i : Nat} (h : i < nO' t) : nth (rdsO t) i = lnO (nth (lsO t) i) := by
  have hl := ls_len t
  rw [nth_eq _ i (by rw [rds_len]; exact h), nth_eq _ i (by omega)]
  unfold rdsO
  simp
theorem bef_out {t : ByteArray} (h : ∀ i, i < nO' t → (lineO (nth (lsO t) i)).isSome = true) : ∀ j, j ≤ nO' t → befB (lsO t) j = outB (rdsO t) j
  | 0, _ => rfl
  | j + 1, hj => by
    have e := (lineO_line (h j (by omega))).2
    have ih := bef_out h j (by omega)
    rw [befB, outB, ih, lineB_eq, rds_nth t (by omega), ← e]
/-- A text that is a sheet is its readings' text. -/
theorem okO_sheet {t : ByteArray} (h : okO t) : (∀ i, i < (rdsO t).length → Fit (nth (rdsO t) i)) ∧ t = sheetB (rdsO t) := by
  refine ⟨fun i hi => ?_, ?_⟩
  · rw [rds_len] at hi
    rw [rds_nth t hi]
    exact (lineO_line (h.2.1 i hi)).1
  · have e := okO_text h
    rw [bef_out h.2.1 (nO' t) (Nat.le_refl _)] at e
    unfold sheetB
    rw [rds_len]
    exact e
end Go.Proofs.YtdbiiegohemahaaGreatDoor
set_option linter.unusedVariables false
set_option linter.unusedSimpArgs false
namespace Go.Proofs.YtdbiiegohemahaaGreatDoor
open Go.Ab Go.Sheet
theorem numT_itoa (n : Int) : numT (itoa n) = Go.Lib.decDigits n.natAbs := by
  unfold numT
  rw [d_itoa]
  unfold Go.Lib.trimPrefix Go.Lib.hasPrefix
  by_cases hn : n < 0
  · rw [itoa_minus n hn]; simp [List.isPrefixOf]
  · rw [itoa_head n (by omega), show n.natAbs = n.toNat by omega, if_neg]
    intro hp
    cases hd : Go.Lib.decDigits n.toNat with
    | nil => exact dec_ne _ hd
    | cons b l =>
      rw [hd] at hp
      simp only [List.isPrefixOf, Bool.and_true, beq_iff_eq] at hp
      exact dec_no45 n.toNat (by rw [hd, ← hp]; exact List.mem_cons_self ..)
theorem numO_of {n : Int} (h : n.natAbs ≤ 99999) : numO (itoa n) = some n := by
  have hT := numT_itoa n
  have h1 : (!(Go.Lib.decDigits n.natAbs).isEmpty) = true := by
    cases e : Go.Lib.decDigits n.natAbs with
    | nil => exact absurd e (dec_ne _)
    | cons a l => rfl
  have h2 : (Go.Lib.decDigits n.natAbs).all (fun b => decide (isDig b)) = true := List.all_eq_true.2 fun b hb => decide_eq_true (dec_dig _ b hb)
  have h3 : decide ((Go.Lib.decDigits n.natAbs).length ≤ 5) = true := decide_eq_true (dec_len h)
  have h4 : (Go.Lib.itoa ((val (Go.Lib.decDigits n.natAbs) : Nat) : Int) == Go.Lib.decDigits n.natAbs) = true := by
    rw [val_dec, itoa_head _ (by omega), Int.toNat_natCast, beq_self_eq_true]
  by_cases hn : n < 0
  · have e : ((itoa n).data.toList == Go.Lib.decDigits n.natAbs) = false := by
      rw [d_itoa, itoa_minus n hn, beq_eq_false_iff_ne]
      intro hh
      exact dec_no45 n.natAbs (by rw [← hh]; exact List.mem_cons_self ..)
    have hb : numB (itoa n) = true := by
      unfold numB
      rw [hT, h1, h2, h3, h4, e, val_dec]
      simp; omega
    unfold numO
    rw [if_pos hb, hT, e, val_dec, if_neg (by decide)]
    congr 1; omega
  · have e : ((itoa n).data.toList == Go.Lib.decDigits n.natAbs) = true := by
      rw [d_itoa, itoa_head n (by omega), show n.toNat = n.natAbs by omega, beq_self_eq_true]
    have hb : numB (itoa n) = true := by
      unfold numB
      rw [hT, h1, h2, h3, h4, e]
      simp
    unfold numO
    rw [if_pos hb, hT, e, val_dec, if_pos rfl]
    congr 1; omega
theorem nO_of {n : Int} (h : n.natAbs ≤ 99999) : nO (itoa n) = n := by unfold nO; rw [numO_of h]; rfl
theorem is_of {n : Int} (h : n.natAbs ≤ 99999) : (numO (itoa n)).isSome = true := by rw [numO_of h]; rfl
/-- A line that was written is read. -/
theorem lineO_of {r : Rdg} (hf : Fit r) : lineO (lineW r) = some r := by
  have hp : partsB 32 (lineW r) = wordsK r 7 := partsB_join 32 (wordsK r 7) (by rw [words_eq hf]; simp) (words_free hf 32 (.inl rfl))
  have hn := hf.n
  simp only [numsR, List.mem_cons, List.not_mem_nil, or_false, forall_eq_or_imp, forall_eq] at hn
  obtain ⟨m3, m4, m5, m6, m7, m8, m9⟩ := hn
  have hidx : idxO ⟨#[letterC r.clk]⟩ = r.clk - 1 := letter_index hf.c
  have hc := hf.c
  unfold lineO
  rw [hp, words_eq hf]
  unfold rdgO
  dsimp only
  rw [if_pos ⟨rfl, by rw [hidx]; omega, is_of hf.d, is_of hf.m, is_of m3, is_of m4, is_of m5, is_of m6, is_of m7, is_of m8, is_of m9⟩, hidx, nO_of hf.d, nO_of hf.m, nO_of m3, nO_of m4, nO_of m5, nO_of m6, nO_of m7, nO_of m8, nO_of m9,
    show 1 + (r.clk - 1) = r.clk by omega]
theorem body_sheet (x : List Rdg) : bodyO (sheetB x) = joinB (linesB x) ⟨#[10]⟩ := by
  apply d_ext
  unfold bodyO
  rw [mk_list, sheet_data, trim_one, d_join]
theorem ls_sheet {x : List Rdg} (hf : ∀ i, i < x.length → Fit (nth x i)) : lsO (sheetB x) = linesB x := by
  unfold lsO
  rw [body_sheet]
  refine partsB_join 10 (linesB x) (by simp [linesB]) fun w hw => ?_
  unfold linesB at hw
  rcases List.mem_append.1 hw with hw | hw
  · obtain ⟨r, hr, rfl⟩ := List.mem_map.1 hw
    obtain ⟨i, hi, rfl⟩ := List.getElem_of_mem hr
    have := hf i hi
    rw [nth_eq x i hi] at this
    exact lineW_free this
  · simp only [List.mem_cons, List.not_mem_nil, or_false] at hw
    rw [hw]; exact endL_free _
theorem n_sheet {x : List Rdg} (hf : ∀ i, i < x.length → Fit (nth x i)) : nO' (sheetB x) = x.length := by
  unfold nO'
  rw [ls_sheet hf, lines_len]; omega
theorem bef_lines (x : List Rdg) : ∀ j, j ≤ x.length → befB (linesB x) j = outB x j
  | 0, _ => rfl
  | j + 1, h => by
    rw [befB, outB, bef_lines x j (by omega), nth_lines (by omega), lineB_eq]
/-- A text of readings is a sheet, and of these readings. -/
theorem sheet_okO {x : List Rdg} (hf : ∀ i, i < x.length → Fit (nth x i)) : okO (sheetB x) ∧ rdsO (sheetB x) = x := by
  have h1 := ls_sheet hf
  have h2 := n_sheet hf
  refine ⟨⟨?_, fun i hi => ?_, ?_⟩, ?_⟩
  · rw [sheet_data]; exact suffix_one _
  · rw [h2] at hi
    rw [h1, nth_lines hi, lineO_of (hf i hi)]; rfl
  · rw [h1, h2, nth_end, bef_lines x _ (Nat.le_refl _), lastB_eq]
  · unfold rdsO
    rw [h1, h2]
    unfold linesB
    rw [List.take_left' (by simp), List.map_map]
    conv => rhs; rw [← List.map_id x]
    refine List.map_congr_left fun r hr => ?_
    obtain ⟨i, hi, rfl⟩ := List.getElem_of_mem hr
    have := hf i hi
    rw [nth_eq x i hi] at this
    show (lineO (lineW x[i])).getD default = x[i]
    rw [lineO_of this]; rfl
end Go.Proofs.YtdbiiegohemahaaGreatDoor
set_option linter.unusedVariables false
set_option linter.unusedSimpArgs false
namespace Go.Proofs.YtdbiiegohemahaaGreatDoor
open Go.Ab Go.Sheet Go.RowKit Go
attribute [local irreducible] Abs CallK CallR CallsTo CallsE AbsX
set_option maxRecDepth 100000 in
set_option maxHeartbeats 4000000 in
theorem gRead_bad (t : ByteArray) (ht : t.size ≤ 3000) (out : List D) (e0 : Int) (he : e0 ≠ 0) (hR : CallsTo Tryz.prog 29 [.str t] (.list out)) (hF : CallsTo Tryz.prog 24 [.list out] (i64 e0)) : CallsTo Tryz.prog 9 [.str t] (.tup [.list [], i64 e0]) := by
  have hne : decide (e0 = 0) = false := decide_eq_false he
  have hcalls := Tryz.call9
  unfold CallsTo
  refine ⟨hcalls, fun S M w args hT hS hM hl hrel => ?_⟩
  refine (callsIn_wide (n := 0)).1 (callsIn_of_wp_marks Tryz.func9 rfl trivial ?_)
  have hr := R_init (P := Tryz.prog) (n := 17) hT hS hM hl (by simp) hrel
  have hnt : Tryz.f9.ntmps = 17 := rfl
  rw [hnt]
  generalize ({ tmps := args.toArray ++ Array.replicate (17 - args.toArray.size) undef, defers := [] } : Act) = a0 at hr ⊢
  refine wpIn_seq (abs_wp (c := ⟨Tryz.prog, w, S, M, none, fun b => w.heap.size ≤ b, []⟩) (Q := fun e s => e = .normal ∧ Le s (rS t)) hr (abs_region fun K hK => ?_) ?_)
  · simp -implicitDefEqProofs only [go_sem, bas, basL, Nat.reduceAdd, Nat.reduceSub, Nat.reduceMul, Nat.reduceLT, Nat.reduceLeDiff, Nat.reduceEqDiff, Nat.reduceBEq, Int.reduceLT, Int.reduceLE, Int.reduceToNat, Int.reduceAdd, Int.reduceSub, Int.reduceMul, Int.reduceNeg, Int.reduceEq, reduceCtorEq, eq_self, ne_eq, not_false_eq_true, if_true, reduceIte, Tryz.underlying9]
    exact hK _ ⟨rfl, le_of rfl (by try simp -implicitDefEqProofs only [go_sem, bas, basL, Nat.reduceAdd, Nat.reduceSub, Nat.reduceMul, Nat.reduceLT, Nat.reduceLeDiff, Nat.reduceEqDiff, Nat.reduceBEq, Int.reduceLT, Int.reduceLE, Int.reduceToNat, Int.reduceAdd, Int.reduceSub, Int.reduceMul, Int.reduceNeg, Int.reduceEq, reduceCtorEq, eq_self, ne_eq, not_false_eq_true, if_true, reduceIte, Tryz.underlying9]; try simp) ⟨_, rfl⟩ ⟨_, rfl⟩⟩
  rintro e a1 w1 s1 hr1 ⟨rfl, hle1⟩
  replace hr1 := hr1.le hle1 (rS_named t) (Nat.zero_le _)
  clear hle1 s1 hr
  show Code.wpIn _ _ _ _ _ _ _
  refine wpIn_seq (abs_wp (c := ⟨Tryz.prog, w, S, M, none, fun b => w.heap.size ≤ b, []⟩) (Q := fun e s => e = .normal ∧ Le s (rS t)) hr1 ?_ ?_)
  · simp only [rS, mkSt, List.foldr]
    repeat' (first | refine abs_seq ?_ | refine abs_block ?_ | refine abs_skip ?_ | refine abs_scope ?_ | refine abs_label ?_ | refine abs_exit ?_ | refine abs_ret ?_ | ((first | refine abs_region fun K hK => ?_ | refine abs_draw Tryz.ty.mixed (by kernel_rfl) fun K hK => ?_ | refine abs_if ?_ | show retQ _ _ _ _ _); simp -implicitDefEqProofs only [go_sem, bas, basL, Nat.reduceAdd, Nat.reduceSub, Nat.reduceMul, Nat.reduceLT, Nat.reduceLeDiff, Nat.reduceEqDiff, Nat.reduceBEq, Int.reduceLT, Int.reduceLE, Int.reduceToNat, Int.reduceAdd, Int.reduceSub, Int.reduceMul, Int.reduceNeg, Int.reduceEq, reduceCtorEq, eq_self, ne_eq, not_false_eq_true, if_true, reduceIte, Tryz.underlying9]) | ((first | (refine hK _ ?_; clear hK K) | show thenQ _ _ _ _ | show blockQ _ _ _ _ | show noGoQ _ _ _); simp only [noGoQ, thenQ, blockQ, if_true, Nat.reduceEqDiff, reduceIte]) | (intro hg; first | (exfalso; omega) | (exfalso; contradiction) | skip) | apply And.intro | (with_reducible rfl) | (clear hK; omega) | omega)
    exact le_of (l := [(0, .str t), (2, .box 0 0), (3, .box 1 0)]) rfl (by try simp -implicitDefEqProofs only [go_sem, bas, basL, Nat.reduceAdd, Nat.reduceSub, Nat.reduceMul, Nat.reduceLT, Nat.reduceLeDiff, Nat.reduceEqDiff, Nat.reduceBEq, Int.reduceLT, Int.reduceLE, Int.reduceToNat, Int.reduceAdd, Int.reduceSub, Int.reduceMul, Int.reduceNeg, Int.reduceEq, reduceCtorEq, eq_self, ne_eq, not_false_eq_true, if_true, reduceIte, Tryz.underlying9]; try simp) ⟨_, rfl⟩ ⟨_, rfl⟩
  rintro e a2 w2 s2 hr2 ⟨rfl, hle2⟩
  replace hr2 := hr2.le hle2 (rS_named t) (Nat.zero_le _)
  clear hle2 s2 hr1
  show Code.wpIn _ _ _ _ _ _ _
  obtain ⟨l, hl2⟩ : ∃ l, a2.defers = l := ⟨_, rfl⟩
  have hx2 : RX l l ⟨Tryz.prog, w, S, M, none, fun b => w.heap.size ≤ b, []⟩ (rS t) a2 w2 := ⟨hl2, by
    have : ({ a2 with defers := l } : Act) = a2 := by rw [← hl2]
    rw [this]; exact hr2⟩
  clear hr2
  -- the closure, the deferred call
  refine wpIn_seq (wpIn_region_lit ?_)
  refine rx_list (rest := [_]) (K := fun s' => s' = _) (fun s3 a3 w3 hx3 e3 => ?_) [_] _ a2 w2 rfl hx2 (by
    simp only [rS, mkSt, List.foldr]
    simp -implicitDefEqProofs only [go_sem, bas, basL, Nat.reduceAdd, Nat.reduceSub, Nat.reduceMul, Nat.reduceLT, Nat.reduceLeDiff, Nat.reduceEqDiff, Nat.reduceBEq, Int.reduceLT, Int.reduceLE, Int.reduceToNat, Int.reduceAdd, Int.reduceSub, Int.reduceMul, Int.reduceNeg, Int.reduceEq, reduceCtorEq, eq_self, ne_eq, not_false_eq_true, if_true, reduceIte, Tryz.underlying9]
    exact rfl)
  subst e3
  refine list_cons rfl ⟨fun _ _ => trivial, ?_⟩
  obtain ⟨hd3, g3, hg3⟩ := hx3
  have h9 := hg3.ev (.tmp 8)
  change Rel w3 g3 (a3.eval (.tmp 8)) (.clo 28 [.box 0 0, .box 1 0]) at h9
  generalize hv9 : a3.eval (.tmp 8) = v9 at h9
  cases h9 with
  | clo _ _ vs _ hvl hvr =>
  obtain ⟨vs⟩ := vs
  obtain ⟨p1, p2, rfl⟩ : ∃ p1 p2, vs = [p1, p2] := by
    match vs, hvl with
    | [a, b], _ => exact ⟨a, b, rfl⟩
  clear hvr hvl
  obtain ⟨dd, hdd⟩ : ∃ dd : Deferred, dd = { target := .fn (.func 28) #[p1, p2], args := #[] } := ⟨_, rfl⟩
  have hsd : (Oper.semAt Fence.wide.round a3.eval ⟨none, .defer ⟨.value (.tmp 8), #[], #[]⟩, 0, "sheet.go:123", #[{ on := 0, ground := Go.Ground.data }], none⟩).run Tryz.prog w3 = .ok (.defer dd) w3 := by
    rw [show Fence.wide.round = none from rfl, Oper.semAt_none, hdd]
    simp [execOp, resolve, hv9, Deferred.ofValue]
  rw [hsd, Oper.uponIn_defer]
  unfold wpListIn
  show Code.wpIn _ _ _ _ _ _ _
  have hen := hg3.enterN (a' := { a3 with defers := [] }) rfl hg3.sz hg3.sl
  have hx4 : RX (dd :: l) [] ⟨Tryz.prog, w3, g3.S, g3.M, none, fun b => w3.heap.size ≤ b ∨ (w.heap.size ≤ b ∧ ∃ cs t fz, w3.heap[b]? = some (.cells cs t fz)), g3.β⟩ _ { a3 with defers := dd :: a3.defers } w3 := ⟨by rw [hd3], g3, hen⟩
  generalize ({ a3 with defers := dd :: a3.defers } : Act) = a4 at hx4
  have hinv : ∀ w : World, (invoke dd.target dd.args).run Tryz.prog w = .ok (.enter 28 #[p1, p2]) w := fun w => by
    rw [hdd]; simp [invoke, Tryz.call28]
  have hnm3 : ∀ m, Names 2 0 (put (put (put (put none' 3 (D.box 1 0)) 2 (D.box 0 0)) 0 (D.str t)) 8 (D.clo 28 [D.box 0 0, D.box 1 0]) m) :=
    slots_names (l := [(8, D.clo 28 [D.box 0 0, D.box 1 0]), (0, D.str t), (2, D.box 0 0), (3, D.box 1 0)]) rfl
  have fin : ∀ (s8 : St) (a8 : Act) (w8 : World) (g8 : Gh), RG ⟨Tryz.prog, w3, g3.S, g3.M, none, fun b => w3.heap.size ≤ b ∨ (w.heap.size ≤ b ∧ ∃ cs t fz, w3.heap[b]? = some (.cells cs t fz)), g3.β⟩ s8 { a8 with defers := [] } w8 g8 →
      (resL Tryz.prog s8 Tryz.f9.results.toList fun ds => ds = [.list [], i64 e0]) →
      LeavesInM Fence.wide 0 Tryz.prog Tryz.f9 a8.tmps (fun e' w' => ∃ v S' M', e' = .returned v ∧ Grow w S M w' S' M' ∧ Go.Ab.Good w' S' ∧ Rel w' ⟨S', [], [], M'⟩ v (.tup [.list [], i64 e0])) l .returning w8 := fun s8 a8 w8 g8 h8 hres => by
    have hb := swapAct (a' := { a8 with defers := l }) (hg3.leaveN h8 hnm3) h8.sz h8.sl rfl
    exact marks_leave (c := ⟨Tryz.prog, w, S, M, none, fun b => w.heap.size ≤ b, []⟩) (fn := Tryz.f9) (ds := [.list [], i64 e0]) l { a8 with defers := l } w8 hb rfl hres (fun v w9 h9 hv => ⟨v, g8.S, g8.M, rfl,
      ⟨⟨h9.below.os, h9.below.tape, h9.below.output, h9.below.size, fun k hk hn => h9.below.block k hk (fun h => h.elim (fun h => absurd (show w.heap.size ≤ k from h) (Nat.not_le_of_lt hk)) hn)⟩, h9.S0, h9.from0, h9.df.m0, h9.df.mfrom, h9.df.mok⟩, h9.good, hv⟩)
  -- what is read
  refine absx_wp (c := ⟨Tryz.prog, w3, g3.S, g3.M, none, fun b => w3.heap.size ≤ b ∨ (w.heap.size ≤ b ∧ ∃ cs t fz, w3.heap[b]? = some (.cells cs t fz)), g3.β⟩) (Q := fun e s8 => e = .ret ∧ resL Tryz.prog s8 Tryz.f9.results.toList fun ds => ds = [.list [], i64 e0]) hx4 ?_ ?_
  · refine absx_seq (absx_region rfl fun K hK => ?_)
    simp -implicitDefEqProofs only [go_sem, bas, basL, Nat.reduceAdd, Nat.reduceSub, Nat.reduceMul, Nat.reduceLT, Nat.reduceLeDiff, Nat.reduceEqDiff, Nat.reduceBEq, Int.reduceLT, Int.reduceLE, Int.reduceToNat, Int.reduceAdd, Int.reduceSub, Int.reduceMul, Int.reduceNeg, Int.reduceEq, reduceCtorEq, eq_self, ne_eq, not_false_eq_true, if_true, reduceIte, Tryz.underlying9]
    refine callK hR ?_
    simp -implicitDefEqProofs only [go_sem, bas, basL, Nat.reduceAdd, Nat.reduceSub, Nat.reduceMul, Nat.reduceLT, Nat.reduceLeDiff, Nat.reduceEqDiff, Nat.reduceBEq, Int.reduceLT, Int.reduceLE, Int.reduceToNat, Int.reduceAdd, Int.reduceSub, Int.reduceMul, Int.reduceNeg, Int.reduceEq, reduceCtorEq, eq_self, ne_eq, not_false_eq_true, if_true, reduceIte, Tryz.underlying9]
    refine hK _ ?_; clear hK K; simp only [thenQ]
    refine absx_seq ?_
    refine absx_seq (absx_region rfl fun K hK => ?_)
    simp -implicitDefEqProofs only [go_sem, bas, basL, Nat.reduceAdd, Nat.reduceSub, Nat.reduceMul, Nat.reduceLT, Nat.reduceLeDiff, Nat.reduceEqDiff, Nat.reduceBEq, Int.reduceLT, Int.reduceLE, Int.reduceToNat, Int.reduceAdd, Int.reduceSub, Int.reduceMul, Int.reduceNeg, Int.reduceEq, reduceCtorEq, eq_self, ne_eq, not_false_eq_true, if_true, reduceIte, Tryz.underlying9]
    refine callK hF ?_
    simp -implicitDefEqProofs only [go_sem, bas, basL, Nat.reduceAdd, Nat.reduceSub, Nat.reduceMul, Nat.reduceLT, Nat.reduceLeDiff, Nat.reduceEqDiff, Nat.reduceBEq, Int.reduceLT, Int.reduceLE, Int.reduceToNat, Int.reduceAdd, Int.reduceSub, Int.reduceMul, Int.reduceNeg, Int.reduceEq, reduceCtorEq, eq_self, ne_eq, not_false_eq_true, if_true, reduceIte, Tryz.underlying9]
    refine hK _ ?_; clear hK K; simp only [thenQ]
    refine absx_seq (absx_region rfl fun K hK => ?_)
    simp -implicitDefEqProofs only [go_sem, bas, basL, Nat.reduceAdd, Nat.reduceSub, Nat.reduceMul, Nat.reduceLT, Nat.reduceLeDiff, Nat.reduceEqDiff, Nat.reduceBEq, Int.reduceLT, Int.reduceLE, Int.reduceToNat, Int.reduceAdd, Int.reduceSub, Int.reduceMul, Int.reduceNeg, Int.reduceEq, reduceCtorEq, eq_self, ne_eq, not_false_eq_true, if_true, reduceIte, Tryz.underlying9]
    refine hK _ ?_; clear hK K; simp only [thenQ]
    refine absx_if ?_
    simp -implicitDefEqProofs only [go_sem, bas, basL, Nat.reduceAdd, Nat.reduceSub, Nat.reduceMul, Nat.reduceLT, Nat.reduceLeDiff, Nat.reduceEqDiff, Nat.reduceBEq, Int.reduceLT, Int.reduceLE, Int.reduceToNat, Int.reduceAdd, Int.reduceSub, Int.reduceMul, Int.reduceNeg, Int.reduceEq, reduceCtorEq, eq_self, ne_eq, not_false_eq_true, if_true, reduceIte, Tryz.underlying9]
    refine ⟨fun _ => ?_, fun h => by exact absurd h he⟩
    refine absx_seq (absx_region rfl fun K hK => ?_)
    simp -implicitDefEqProofs only [go_sem, bas, basL, Nat.reduceAdd, Nat.reduceSub, Nat.reduceMul, Nat.reduceLT, Nat.reduceLeDiff, Nat.reduceEqDiff, Nat.reduceBEq, Int.reduceLT, Int.reduceLE, Int.reduceToNat, Int.reduceAdd, Int.reduceSub, Int.reduceMul, Int.reduceNeg, Int.reduceEq, reduceCtorEq, eq_self, ne_eq, not_false_eq_true, if_true, reduceIte, Tryz.underlying9]
    refine ⟨rfl, hK _ ?_⟩; clear hK K; simp only [thenQ]
    refine absx_ret ?_
    refine ⟨rfl, ?_⟩
    show resL Tryz.prog _ [ResultVar.cell 2 22, ResultVar.cell 3 24] _
    simp -implicitDefEqProofs only [go_sem, bas, basL, Nat.reduceAdd, Nat.reduceSub, Nat.reduceMul, Nat.reduceLT, Nat.reduceLeDiff, Nat.reduceEqDiff, Nat.reduceBEq, Int.reduceLT, Int.reduceLE, Int.reduceToNat, Int.reduceAdd, Int.reduceSub, Int.reduceMul, Int.reduceNeg, Int.reduceEq, reduceCtorEq, eq_self, ne_eq, not_false_eq_true, if_true, reduceIte, Tryz.underlying9]
  · rintro e a8 w8 s8 ⟨hd8, g8, hg8⟩ ⟨rfl, hres⟩
    show LeavesInM _ _ _ _ _ _ _ _ _
    rw [hd8]
    refine ⟨by simp, .inr ⟨fun h => (by cases h), .func 28, #[p1, p2], 28, #[p1, p2], by rw [hdd], hinv _, fun _ _ => trivial, ?_⟩⟩
    refine (rec_ret #[p1, p2] w8 (by simp)).mono ?_
    rintro e u' w9 ⟨⟨v, rfl⟩, rfl, rfl⟩
    exact fin s8 a8 _ g8 hg8 hres
end Go.Proofs.YtdbiiegohemahaaGreatDoor
set_option linter.unusedVariables false
set_option linter.unusedSimpArgs false
namespace Go.Proofs.YtdbiiegohemahaaGreatDoor
open Go.Ab Go.Sheet
/-- The lines that the reference reads in a text. -/
def rlO (t : ByteArray) : List ByteArray := partsB 10 t
def rnL (t : ByteArray) : Nat := (rlO t).length - 2
def okR (t : ByteArray) : Prop := ∀ i, i < rnL t → (lineO (nth (rlO t) i)).isSome = true
def rdsR (t : ByteArray) : List Rdg := ((rlO t).take (rnL t)).map lnO
theorem rdsR_len (t : ByteArray) : (rdsR t).length = rnL t := by
  unfold rdsR rnL
  rw [List.length_map, List.length_take]; omega
theorem rdsR_nth (t : ByteArray) {i : Nat} (h : i < rnL t) : nth (rdsR t) i = lnO (nth (rlO t) i) := by
  have hl : rnL t ≤ (rlO t).length := by unfold rnL; omega
  rw [nth_eq _ i (by rw [rdsR_len]; exact h), nth_eq _ i (by omega)]
  unfold rdsR
  simp
theorem rdsR_fit {t : ByteArray} (h : okR t) : ∀ i, i < (rdsR t).length → Fit (nth (rdsR t) i) := fun i hi => by
  rw [rdsR_len] at hi
  rw [rdsR_nth t hi]
  exact (lineO_line (h i hi)).1
theorem bef_outR {t : ByteArray} (h : okR t) : ∀ j, j ≤ rnL t → befB (rlO t) j = outB (rdsR t) j
  | 0, _ => rfl
  | j + 1, hj => by
    have e := (lineO_line (h j (by omega))).2
    have ih := bef_outR h j (by omega)
    rw [befB, outB, ih, lineB_eq, rdsR_nth t (by omega), ← e]
theorem join_end : ∀ (l : List (List UInt8)), l ≠ [] → Go.Lib.join (l ++ [[]]) [10] = Go.Lib.join l [10] ++ [10]
  | [], h => absurd rfl h
  | [a], _ => by rw [show ([a] ++ [[]] : List (List UInt8)) = [a, []] from rfl, join_two, Go.Lib.join_one, Go.Lib.join_one]; simp
  | a :: b :: l, _ => by
    rw [show (a :: b :: l) ++ [[]] = a :: b :: (l ++ [[]]) from rfl, join_two, join_two, show b :: (l ++ [[]]) = (b :: l) ++ [[]] from rfl, join_end (b :: l) (by simp)]
    simp [List.append_assoc]
theorem rl_sheet {x : List Rdg} (hf : ∀ i, i < x.length → Fit (nth x i)) : rlO (sheetB x) = linesB x ++ [⟨#[]⟩] := by
  have e : sheetB x = joinB (linesB x ++ [⟨#[]⟩]) ⟨#[10]⟩ := by
    apply d_ext
    rw [sheet_data, d_join, List.map_append]
    show _ = Go.Lib.join (_ ++ [[]]) [10]
    rw [join_end _ (by simp [linesB])]
  unfold rlO
  rw [e]
  refine partsB_join 10 _ (by simp) fun w hw => ?_
  rcases List.mem_append.1 hw with hw | hw
  · unfold linesB at hw
    rcases List.mem_append.1 hw with hw | hw
    · obtain ⟨r, hr, rfl⟩ := List.mem_map.1 hw
      obtain ⟨i, hi, rfl⟩ := List.getElem_of_mem hr
      have := hf i hi
      rw [nth_eq x i hi] at this
      exact lineW_free this
    · simp only [List.mem_cons, List.not_mem_nil, or_false] at hw
      rw [hw]; exact endL_free _
  · simp only [List.mem_cons, List.not_mem_nil, or_false] at hw
    rw [hw]; simp
/-- The reference reads a sheet as the program does. -/
theorem okO_R {t : ByteArray} (h : okO t) : okR t ∧ rdsR t = rdsO t ∧ sheetB (rdsR t) = t := by
  obtain ⟨hf, ht⟩ := okO_sheet h
  generalize hx : rdsO t = x at *
  have hl : rlO t = linesB x ++ [⟨#[]⟩] := by rw [ht]; exact rl_sheet hf
  have hn : rnL t = x.length := by unfold rnL; rw [hl, List.length_append, lines_len]; simp
  have hnth : ∀ i, i < x.length → nth (rlO t) i = lineW (nth x i) := fun i hi => by
    rw [hl, ← nth_lines hi]
    unfold nth
    rw [List.getD_eq_getElem?_getD, List.getElem?_append_left (by rw [lines_len]; omega), ← List.getD_eq_getElem?_getD]
  have hr : rdsR t = x := by
    refine List.ext_getElem (by rw [rdsR_len, hn]) fun i h1 h2 => ?_
    rw [← nth_eq _ i h1, ← nth_eq _ i h2, rdsR_nth t (by omega), hnth i h2]
    unfold lnO
    rw [lineO_of (hf i h2)]; rfl
  refine ⟨fun i hi => ?_, hr, by rw [hr]; exact ht.symm⟩
  rw [hnth i (by omega), lineO_of (hf i (by omega))]; rfl
theorem R_okO {t : ByteArray} (h : okR t) (ht : sheetB (rdsR t) = t) : okO t := by
  have := (sheet_okO (rdsR_fit h)).1
  rw [ht] at this; exact this
theorem rl_data (t : ByteArray) : t.data.toList = Go.Lib.join ((rlO t).map (·.data.toList)) [10] := data_parts 10 t
theorem rl_ne (t : ByteArray) : 0 < (rlO t).length := by
  have : rlO t ≠ [] := by
    unfold rlO partsB
    intro h
    exact parts_ne 10 _ (List.map_eq_nil_iff.1 h)
  exact List.length_pos_iff.2 this
theorem rl_bef (t : ByteArray) : ∀ j, j ≤ rnL t → (befB (rlO t) j).size ≤ t.size := by
  have h0 := rl_ne t
  have h := bef_size (ls := rlO t) (n := (rlO t).length - 1) (body := t) (by omega) (rl_data t)
  intro j hj
  exact h.1 j (by unfold rnL at hj; omega)
theorem rl_size (t : ByteArray) : ∀ j, j < rnL t → (nth (rlO t) j).size ≤ t.size := by
  have h0 := rl_ne t
  have h := bef_size (ls := rlO t) (n := (rlO t).length - 1) (body := t) (by omega) (rl_data t)
  intro j hj
  exact h.2.2 j (by unfold rnL at hj; omega)
end Go.Proofs.YtdbiiegohemahaaGreatDoor
set_option linter.unusedVariables false
set_option linter.unusedSimpArgs false
namespace Go.Proofs.YtdbiiegohemahaaGreatDoor
open Go.Ab Go.Sheet
attribute [local irreducible] Abs CallK CallR CallsTo CallsE IA
/-- A letter of the clocks, and the clock that a word is, as far as it was looked for. -/
def ltO (c : Nat) : ByteArray := (ByteArray.mk #[32, 114, 115, 101]).extract c (c + 1)
def clkK (w : ByteArray) : Nat → Int
  | 0 => 0
  | c + 1 => if 0 < c ∧ ((ltO c).toList == w.toList) = true then (c : Int) else clkK w c
theorem lt1 : (ltO 1).toList = [114] := by rw [Go.Lib.toList_data]; rfl
theorem lt2 : (ltO 2).toList = [115] := by rw [Go.Lib.toList_data]; rfl
theorem lt3 : (ltO 3).toList = [101] := by rw [Go.Lib.toList_data]; rfl
theorem clk_one (b : UInt8) : clkK ⟨#[b]⟩ 4 = if 0 ≤ Go.Lib.indexByte rse.data.toList b then 1 + Go.Lib.indexByte rse.data.toList b else 0 := by
  have hb : (ByteArray.mk #[b]).toList = [b] := by rw [Go.Lib.toList_data]
  simp only [clkK, lt1, lt2, lt3, hb]
  by_cases h : 0 ≤ Go.Lib.indexByte rse.data.toList b
  · rcases rse_index h with rfl | rfl | rfl <;> decide
  · rw [if_neg h]
    have e : rse.data.toList = [114, 115, 101] := rfl
    rw [e] at h
    have g1 : (114 : UInt8) ≠ b := fun g => by subst g; exact h (by decide)
    have g2 : (115 : UInt8) ≠ b := fun g => by subst g; exact h (by decide)
    have g3 : (101 : UInt8) ≠ b := fun g => by subst g; exact h (by decide)
    simp [g1, g2, g3]
theorem nO_rnV {w : ByteArray} (h : numB w = true) : nO w = rnV w ∧ (numO w).isSome = true := by
  have hf : fmT (numT w) = true := by
    cases e : fmT (numT w) with
    | true => rfl
    | false => rw [numB_fm e] at h; cases h
  unfold nO rnV numO
  rw [if_pos h, if_pos hf]
  exact ⟨rfl, rfl⟩
theorem lineO_need {s : ByteArray} (h : (lineO s).isSome = true) : (partsB 32 s).length = 10 ∧ (nth (partsB 32 s) 2).size = 1 ∧ (∀ k, k < 10 → k ≠ 2 → numB (nth (partsB 32 s) k) = true) ∧ clkK (nth (partsB 32 s) 2) 4 ≠ 0 := by
  obtain ⟨w0, w1, c, w3, w4, w5, w6, w7, w8, w9, e, hc, n0, n1, n3, n4, n5, n6, n7, n8, n9⟩ := lineO_some h
  rw [e]
  refine ⟨rfl, rfl, fun k hk h2 => ?_, ?_⟩
  · match k, hk, h2 with
    | 0, _, _ => exact some_numB n0
    | 1, _, _ => exact some_numB n1
    | 2, _, h2 => exact absurd rfl h2
    | 3, _, _ => exact some_numB n3
    | 4, _, _ => exact some_numB n4
    | 5, _, _ => exact some_numB n5
    | 6, _, _ => exact some_numB n6
    | 7, _, _ => exact some_numB n7
    | 8, _, _ => exact some_numB n8
    | 9, _, _ => exact some_numB n9
  · show clkK ⟨#[c]⟩ 4 ≠ 0
    rw [clk_one, if_pos hc]; omega
theorem lineO_suff {s : ByteArray} (h1 : (partsB 32 s).length = 10) (h2 : (nth (partsB 32 s) 2).size = 1) (h3 : ∀ k, k < 10 → k ≠ 2 → numB (nth (partsB 32 s) k) = true) (h4 : clkK (nth (partsB 32 s) 2) 4 ≠ 0) :
    (lineO s).isSome = true ∧ lnO s = ⟨rnV (nth (partsB 32 s) 0), rnV (nth (partsB 32 s) 1), clkK (nth (partsB 32 s) 2) 4, rnV (nth (partsB 32 s) 3), rnV (nth (partsB 32 s) 4), rnV (nth (partsB 32 s) 5), rnV (nth (partsB 32 s) 6), rnV (nth (partsB 32 s) 7), rnV (nth (partsB 32 s) 8), rnV (nth (partsB 32 s) 9)⟩ := by
  obtain ⟨w0, w1, w2, w3, w4, w5, w6, w7, w8, w9, e⟩ := ten h1
  unfold lnO lineO
  rw [e] at h2 h3 h4 ⊢
  obtain ⟨c, rfl⟩ := one_byte (show w2.size = 1 from h2)
  have hk : clkK ⟨#[c]⟩ 4 ≠ 0 := h4
  have hc : 0 ≤ Go.Lib.indexByte rse.data.toList c := by
    by_cases g : 0 ≤ Go.Lib.indexByte rse.data.toList c
    · exact g
    · rw [clk_one, if_neg g] at hk; exact absurd rfl hk
  have m0 := nO_rnV (show numB w0 = true from h3 0 (by omega) (by omega))
  have m1 := nO_rnV (show numB w1 = true from h3 1 (by omega) (by omega))
  have m3 := nO_rnV (show numB w3 = true from h3 3 (by omega) (by omega))
  have m4 := nO_rnV (show numB w4 = true from h3 4 (by omega) (by omega))
  have m5 := nO_rnV (show numB w5 = true from h3 5 (by omega) (by omega))
  have m6 := nO_rnV (show numB w6 = true from h3 6 (by omega) (by omega))
  have m7 := nO_rnV (show numB w7 = true from h3 7 (by omega) (by omega))
  have m8 := nO_rnV (show numB w8 = true from h3 8 (by omega) (by omega))
  have m9 := nO_rnV (show numB w9 = true from h3 9 (by omega) (by omega))
  have hidx : idxO ⟨#[c]⟩ = Go.Lib.indexByte rse.data.toList c := rfl
  have hcc : clkK ⟨#[c]⟩ 4 = 1 + Go.Lib.indexByte rse.data.toList c := by rw [clk_one, if_pos hc]
  unfold rdgO
  dsimp only
  rw [if_pos ⟨rfl, by rw [hidx]; exact hc, m0.2, m1.2, m3.2, m4.2, m5.2, m6.2, m7.2, m8.2, m9.2⟩]
  refine ⟨rfl, ?_⟩
  show (⟨nO w0, nO w1, 1 + idxO ⟨#[c]⟩, nO w3, nO w4, nO w5, nO w6, nO w7, nO w8, nO w9⟩ : Rdg) = ⟨rnV w0, rnV w1, clkK ⟨#[c]⟩ 4, rnV w3, rnV w4, rnV w5, rnV w6, rnV w7, rnV w8, rnV w9⟩
  rw [m0.1, m1.1, m3.1, m4.1, m5.1, m6.1, m7.1, m8.1, m9.1, hidx, hcc]
/-- The numbers of a line, as far as they are read. -/
def cellR (ws : List ByteArray) (k j : Nat) : Int := if j < k ∧ j ≠ 2 then rnV (nth ws j) else 0
def xrD (ws : List ByteArray) (k : Nat) : List D := [i64 (cellR ws k 0), i64 (cellR ws k 1), i64 (cellR ws k 2), i64 (cellR ws k 3), i64 (cellR ws k 4), i64 (cellR ws k 5), i64 (cellR ws k 6), i64 (cellR ws k 7), i64 (cellR ws k 8), i64 (cellR ws k 9)]
theorem xr_len (ws : List ByteArray) (k : Nat) : (xrD ws k).length = 10 := rfl
theorem xr_two (ws : List ByteArray) : xrD ws 2 = xrD ws 3 := rfl
theorem xr_succ (ws : List ByteArray) {k : Nat} (hk : k < 10) (h2 : k ≠ 2) : (xrD ws k).take k ++ i64 (rnV (nth ws k)) :: (xrD ws k).drop (k + 1) = xrD ws (k + 1) := by
  match k, hk, h2 with
  | 0, _, _ => rfl
  | 1, _, _ => rfl
  | 2, _, h2 => exact absurd rfl h2
  | 3, _, _ => rfl
  | 4, _, _ => rfl
  | 5, _, _ => rfl
  | 6, _, _ => rfl
  | 7, _, _ => rfl
  | 8, _, _ => rfl
  | 9, _, _ => rfl
theorem parts_len (c : UInt8) : ∀ s, (parts c s).length ≤ s.length + 1
  | [] => by simp [parts]
  | b :: s => by
    have ih := parts_len c s
    by_cases h : b = c
    · subst h; rw [parts_cons_eq]; simpa using ih
    · obtain ⟨w, ws, h1, h2⟩ := parts_cons_ne (s := s) h
      rw [h2]
      rw [h1] at ih
      simp only [List.length_cons] at ih ⊢; omega
theorem parts_count (c : UInt8) (s : ByteArray) : (partsB c s).length ≤ s.size + 1 := by
  unfold partsB
  rw [List.length_map, d_size]; exact parts_len c _
theorem parts_size1 (c : UInt8) : ∀ s, ∀ w ∈ parts c s, w.length ≤ s.length
  | [], w, hw => by simp [parts] at hw; subst hw; simp
  | b :: s, w, hw => by
    have ih := parts_size1 c s
    by_cases h : b = c
    · subst h
      rw [parts_cons_eq] at hw
      rcases List.mem_cons.1 hw with rfl | hw
      · simp
      · have := ih w hw; simp only [List.length_cons]; omega
    · obtain ⟨x, xs, h1, h2⟩ := parts_cons_ne (s := s) h
      rw [h2] at hw
      rw [h1] at ih
      rcases List.mem_cons.1 hw with rfl | hw
      · have := ih x (List.mem_cons_self ..); simp only [List.length_cons]; omega
      · have := ih w (List.mem_cons_of_mem _ hw); simp only [List.length_cons]; omega
theorem parts_size (c : UInt8) (s : ByteArray) {k : Nat} (hk : k < (partsB c s).length) : (nth (partsB c s) k).size ≤ s.size := by
  rw [nth_eq _ k hk, d_size, d_size]
  have hm := List.getElem_mem hk
  obtain ⟨y, hy, e⟩ := List.mem_map.1 (show (partsB c s)[k] ∈ (parts c s.data.toList).map _ from hm)
  rw [← e, mk_list]
  exact parts_size1 c _ y hy
set_option maxRecDepth 100000 in
set_option maxHeartbeats 4000000 in
theorem rprint_any (l : List Rdg) (hf : ∀ i, i < l.length → Fit (nth l i)) (hob : ∀ j, j ≤ l.length → (outB l j).size ≤ 90000) (hl : l.length ≤ 9223372036854775807) : CallsTo Tryz.prog 10 [.list (l.map rdD)] (.str (sheetB l)) := by
  have hend := sealed_ok (outB l l.length) (by have := hob l.length (Nat.le_refl _); omega)
  refine calls_abs Tryz.func10 Tryz.ntmps10 Tryz.results10 Tryz.call10 rfl (by simp) fun w0 S0 M0 => ?_
  repeat' (first | refine abs_seq ?_ | refine abs_block ?_ | refine abs_skip ?_ | refine abs_scope ?_ | refine abs_label ?_ | refine abs_exit ?_ | refine abs_ret ?_ | ((first | refine abs_region fun K hK => ?_ | refine abs_draw Tryz.ty.mixed (by kernel_rfl) fun K hK => ?_ | refine abs_if ?_ | show retQ _ _ _ _ _); simp -implicitDefEqProofs only [go_sem, bas, basL, Nat.reduceAdd, Nat.reduceSub, Nat.reduceMul, Nat.reduceLT, Nat.reduceLeDiff, Nat.reduceEqDiff, Nat.reduceBEq, Int.reduceLT, Int.reduceLE, Int.reduceToNat, Int.reduceAdd, Int.reduceSub, Int.reduceMul, Int.reduceNeg, Int.reduceEq, reduceCtorEq, eq_self, ne_eq, not_false_eq_true, if_true, reduceIte, Tryz.underlying9]) | ((first | (refine hK _ ?_; clear hK K) | show thenQ _ _ _ _ | show blockQ _ _ _ _ | show noGoQ _ _ _); simp only [noGoQ, thenQ, blockQ, if_true, Nat.reduceEqDiff, reduceIte]) | (intro hg; first | (exfalso; omega) | (exfalso; contradiction) | skip) | apply And.intro | (with_reducible rfl) | (clear hK; omega) | omega)
  refine abs_loopN (ι := Nat) (fun j => [(0, .list (l.map rdD)), (3, .str (outB l j)), (4, i64 j)]) (fun _ => []) (fun _ => []) (fun j => j ≤ l.length) (fun j => l.length - j) (fun _ _ => ⟨rfl, rfl⟩) 0 (Nat.zero_le _) (le_of rfl (by try simp -implicitDefEqProofs only [go_sem, bas, basL, Nat.reduceAdd, Nat.reduceSub, Nat.reduceMul, Nat.reduceLT, Nat.reduceLeDiff, Nat.reduceEqDiff, Nat.reduceBEq, Int.reduceLT, Int.reduceLE, Int.reduceToNat, Int.reduceAdd, Int.reduceSub, Int.reduceMul, Int.reduceNeg, Int.reduceEq, reduceCtorEq, eq_self, ne_eq, not_false_eq_true, if_true, reduceIte, Tryz.underlying9]; try simp [outB]) ⟨_, rfl⟩ ⟨_, rfl⟩) (fun j hj => ?_)
  have hobj := hob j hj
  by_cases hlt : j < l.length
  · have hr := rline_ok (nth l j) (hf j hlt)
    have hz := lineB_size (hf j hlt)
    have hs : outB l (j + 1) = outB l j ++ lineB (nth l j) := rfl
    simp -implicitDefEqProofs only [go_sem, bas, basL, Nat.reduceAdd, Nat.reduceSub, Nat.reduceMul, Nat.reduceLT, Nat.reduceLeDiff, Nat.reduceEqDiff, Nat.reduceBEq, Int.reduceLT, Int.reduceLE, Int.reduceToNat, Int.reduceAdd, Int.reduceSub, Int.reduceMul, Int.reduceNeg, Int.reduceEq, reduceCtorEq, eq_self, ne_eq, not_false_eq_true, if_true, reduceIte, Tryz.underlying9]
    repeat' (first | refine abs_seq ?_ | refine abs_block ?_ | refine abs_skip ?_ | refine abs_scope ?_ | refine abs_label ?_ | refine abs_exit ?_ | refine abs_ret ?_ | ((first | refine abs_region fun K hK => ?_ | refine abs_draw Tryz.ty.mixed (by kernel_rfl) fun K hK => ?_ | refine abs_if ?_ | show retQ _ _ _ _ _ | refine callK (hr) ?_); simp -implicitDefEqProofs only [go_sem, bas, basL, Nat.reduceAdd, Nat.reduceSub, Nat.reduceMul, Nat.reduceLT, Nat.reduceLeDiff, Nat.reduceEqDiff, Nat.reduceBEq, Int.reduceLT, Int.reduceLE, Int.reduceToNat, Int.reduceAdd, Int.reduceSub, Int.reduceMul, Int.reduceNeg, Int.reduceEq, reduceCtorEq, eq_self, ne_eq, not_false_eq_true, if_true, reduceIte, Tryz.underlying9]) | ((first | (refine hK _ ?_; clear hK K) | show thenQ _ _ _ _ | show blockQ _ _ _ _ | show noGoQ _ _ _); simp only [noGoQ, thenQ, blockQ, if_true, Nat.reduceEqDiff, reduceIte]) | (intro hg; first | (exfalso; omega) | (exfalso; contradiction) | skip) | apply And.intro | (with_reducible rfl) | (clear hK; omega) | omega)
    exact ⟨j + 1, by omega, by omega, le_of rfl (by try simp -implicitDefEqProofs only [go_sem, bas, basL, Nat.reduceAdd, Nat.reduceSub, Nat.reduceMul, Nat.reduceLT, Nat.reduceLeDiff, Nat.reduceEqDiff, Nat.reduceBEq, Int.reduceLT, Int.reduceLE, Int.reduceToNat, Int.reduceAdd, Int.reduceSub, Int.reduceMul, Int.reduceNeg, Int.reduceEq, reduceCtorEq, eq_self, ne_eq, not_false_eq_true, if_true, reduceIte, Tryz.underlying9]; try simp [hs]) ⟨_, rfl⟩ ⟨_, rfl⟩⟩
  · obtain rfl : j = l.length := by omega
    simp -implicitDefEqProofs only [go_sem, bas, basL, Nat.reduceAdd, Nat.reduceSub, Nat.reduceMul, Nat.reduceLT, Nat.reduceLeDiff, Nat.reduceEqDiff, Nat.reduceBEq, Int.reduceLT, Int.reduceLE, Int.reduceToNat, Int.reduceAdd, Int.reduceSub, Int.reduceMul, Int.reduceNeg, Int.reduceEq, reduceCtorEq, eq_self, ne_eq, not_false_eq_true, if_true, reduceIte, Tryz.underlying9]
    repeat' (first | refine abs_seq ?_ | refine abs_block ?_ | refine abs_skip ?_ | refine abs_scope ?_ | refine abs_label ?_ | refine abs_exit ?_ | refine abs_ret ?_ | ((first | refine abs_region fun K hK => ?_ | refine abs_draw Tryz.ty.mixed (by kernel_rfl) fun K hK => ?_ | refine abs_if ?_ | show retQ _ _ _ _ _ | refine callK (hend) ?_); simp -implicitDefEqProofs only [go_sem, bas, basL, Nat.reduceAdd, Nat.reduceSub, Nat.reduceMul, Nat.reduceLT, Nat.reduceLeDiff, Nat.reduceEqDiff, Nat.reduceBEq, Int.reduceLT, Int.reduceLE, Int.reduceToNat, Int.reduceAdd, Int.reduceSub, Int.reduceMul, Int.reduceNeg, Int.reduceEq, reduceCtorEq, eq_self, ne_eq, not_false_eq_true, if_true, reduceIte, Tryz.underlying9]) | ((first | (refine hK _ ?_; clear hK K) | show thenQ _ _ _ _ | show blockQ _ _ _ _ | show noGoQ _ _ _); simp only [noGoQ, thenQ, blockQ, if_true, Nat.reduceEqDiff, reduceIte]) | (intro hg; first | (exfalso; omega) | (exfalso; contradiction) | skip) | apply And.intro | (with_reducible rfl) | (clear hK; omega) | omega)
    all_goals rfl
set_option maxRecDepth 100000 in
set_option maxHeartbeats 4000000 in
theorem rread_ok (t : ByteArray) (ht : t.size ≤ 3100) (R : D) (hy : okR t → R = .tup [.list ((rdsR t).map rdD), .bool ((sheetB (rdsR t)).toList == t.toList)]) (hn : ¬ okR t → R = .tup [.list [], .bool false]) : CallsTo Tryz.prog 12 [.str t] R := by
  have hsl : CallsTo Tryz.prog 32 [.str t, .int .u8 10] (.list ((rlO t).map D.str)) := rsplit_ok t 10 (by omega)
  have hrs := rl_size t
  have hll : (rlO t).length ≤ 100000 := by have := parts_count 10 t; unfold rlO; omega
  have hln : rnL t = (rlO t).length - 2 := rfl
  have h4 : (#[32, 114, 115, 101] : Array UInt8).size = 4 := rfl
  refine calls_abs Tryz.func12 Tryz.ntmps12 Tryz.results12 Tryz.call12 rfl (by simp) fun w0 S0 M0 => ?_
  repeat' (first | refine abs_seq ?_ | refine abs_block ?_ | refine abs_skip ?_ | refine abs_scope ?_ | refine abs_label ?_ | refine abs_exit ?_ | refine abs_ret ?_ | ((first | refine abs_region fun K hK => ?_ | refine abs_draw Tryz.ty.mixed (by kernel_rfl) fun K hK => ?_ | refine abs_if ?_ | show retQ _ _ _ _ _ | refine callK (hsl) ?_); simp -implicitDefEqProofs only [go_sem, bas, basL, Nat.reduceAdd, Nat.reduceSub, Nat.reduceMul, Nat.reduceLT, Nat.reduceLeDiff, Nat.reduceEqDiff, Nat.reduceBEq, Int.reduceLT, Int.reduceLE, Int.reduceToNat, Int.reduceAdd, Int.reduceSub, Int.reduceMul, Int.reduceNeg, Int.reduceEq, reduceCtorEq, eq_self, ne_eq, not_false_eq_true, if_true, reduceIte, Tryz.underlying9]) | ((first | (refine hK _ ?_; clear hK K) | show thenQ _ _ _ _ | show blockQ _ _ _ _ | show noGoQ _ _ _); simp only [noGoQ, thenQ, blockQ, if_true, Nat.reduceEqDiff, reduceIte]) | (intro hg; first | (exfalso; omega) | (exfalso; contradiction) | skip) | apply And.intro | (with_reducible rfl) | (clear hK; omega) | omega)
  refine abs_adopt 5 53 10 rfl ?_
  refine abs_loopN (ι := Nat) (fun i => [(0, .str t), (4, .list ((rlO t).map D.str)), (5, .own 0), (6, i64 i)]) (fun _ => []) (fun i => [⟨true, 53, 10, ((rdsR t).take i).map rdD⟩])
    (fun i => i ≤ rnL t ∧ ∀ j, j < i → (lineO (nth (rlO t) j)).isSome = true) (fun i => rnL t - i) (fun _ _ => ⟨rfl, rfl⟩) 0 ⟨Nat.zero_le _, fun j h => absurd h (Nat.not_lt_zero j)⟩ (le_of rfl (by try simp -implicitDefEqProofs only [go_sem, bas, basL, Nat.reduceAdd, Nat.reduceSub, Nat.reduceMul, Nat.reduceLT, Nat.reduceLeDiff, Nat.reduceEqDiff, Nat.reduceBEq, Int.reduceLT, Int.reduceLE, Int.reduceToNat, Int.reduceAdd, Int.reduceSub, Int.reduceMul, Int.reduceNeg, Int.reduceEq, reduceCtorEq, eq_self, ne_eq, not_false_eq_true, if_true, reduceIte, Tryz.underlying9]; try simp) ⟨_, rfl⟩ ⟨_, rfl⟩) (fun i ⟨hi, hall⟩ => ?_)
  by_cases hlt : i < rnL t
  · have hsz := hrs i hlt
    have hfail : (lineO (nth (rlO t) i)).isSome ≠ true → R = .tup [.list [], .bool false] := fun h => hn (fun g => h (g i hlt))
    have hneed := lineO_need (s := nth (rlO t) i)
    have hsuff := lineO_suff (s := nth (rlO t) i)
    have hsp : CallsTo Tryz.prog 32 [.str (nth (rlO t) i), .int .u8 32] (.list ((partsB 32 (nth (rlO t) i)).map D.str)) := rsplit_ok _ 32 (by omega)
    have hwz : ∀ k, k < (partsB 32 (nth (rlO t) i)).length → (nth (partsB 32 (nth (rlO t) i)) k).size ≤ 100000 := fun k hk => by have := parts_size 32 _ hk; omega
    generalize hws : partsB 32 (nth (rlO t) i) = ws at *
    by_cases c1 : ws.length = 10
    · by_cases c2 : (nth ws 2).size = 1
      · simp -implicitDefEqProofs only [go_sem, bas, basL, Nat.reduceAdd, Nat.reduceSub, Nat.reduceMul, Nat.reduceLT, Nat.reduceLeDiff, Nat.reduceEqDiff, Nat.reduceBEq, Int.reduceLT, Int.reduceLE, Int.reduceToNat, Int.reduceAdd, Int.reduceSub, Int.reduceMul, Int.reduceNeg, Int.reduceEq, reduceCtorEq, eq_self, ne_eq, not_false_eq_true, if_true, reduceIte, Tryz.underlying9]
        repeat' (first | refine abs_seq ?_ | refine abs_block ?_ | refine abs_skip ?_ | refine abs_scope ?_ | refine abs_label ?_ | refine abs_exit ?_ | refine abs_ret ?_ | ((first | refine abs_region fun K hK => ?_ | refine abs_draw Tryz.ty.mixed (by kernel_rfl) fun K hK => ?_ | refine abs_if ?_ | show retQ _ _ _ _ _ | refine callK (hsp) ?_); simp -implicitDefEqProofs only [go_sem, bas, basL, Nat.reduceAdd, Nat.reduceSub, Nat.reduceMul, Nat.reduceLT, Nat.reduceLeDiff, Nat.reduceEqDiff, Nat.reduceBEq, Int.reduceLT, Int.reduceLE, Int.reduceToNat, Int.reduceAdd, Int.reduceSub, Int.reduceMul, Int.reduceNeg, Int.reduceEq, reduceCtorEq, eq_self, ne_eq, not_false_eq_true, if_true, reduceIte, Tryz.underlying9]) | ((first | (refine hK _ ?_; clear hK K) | show thenQ _ _ _ _ | show blockQ _ _ _ _ | show noGoQ _ _ _); simp only [noGoQ, thenQ, blockQ, if_true, Nat.reduceEqDiff, reduceIte]) | (intro hg; first | (exfalso; omega) | (exfalso; contradiction) | skip) | apply And.intro | (with_reducible rfl) | (clear hK; omega) | omega)
        refine abs_loopN (ι := Nat) (fun k => [(0, .str t), (4, .list ((rlO t).map D.str)), (5, .own 0), (6, i64 i), (7, .list (ws.map D.str)), (8, .box 0 0), (9, i64 k)]) (fun k => [.mu (xrD ws k)]) (fun _ => [⟨true, 53, 10, ((rdsR t).take i).map rdD⟩])
          (fun k => k ≤ 10 ∧ ∀ q, q < k → q ≠ 2 → numB (nth ws q) = true) (fun k => 10 - k) (fun _ _ => ⟨rfl, rfl⟩) 0 ⟨by omega, fun q h => absurd h (Nat.not_lt_zero q)⟩ (le_of rfl (by try simp -implicitDefEqProofs only [go_sem, bas, basL, Nat.reduceAdd, Nat.reduceSub, Nat.reduceMul, Nat.reduceLT, Nat.reduceLeDiff, Nat.reduceEqDiff, Nat.reduceBEq, Int.reduceLT, Int.reduceLE, Int.reduceToNat, Int.reduceAdd, Int.reduceSub, Int.reduceMul, Int.reduceNeg, Int.reduceEq, reduceCtorEq, eq_self, ne_eq, not_false_eq_true, if_true, reduceIte, Tryz.underlying9]; try simp) ⟨_, rfl⟩ ⟨_, rfl⟩) (fun k ⟨hk, hk2⟩ => ?_)
        by_cases hk10 : k < 10
        · by_cases hkk : k = 2
          · subst hkk
            simp -implicitDefEqProofs only [go_sem, bas, basL, Nat.reduceAdd, Nat.reduceSub, Nat.reduceMul, Nat.reduceLT, Nat.reduceLeDiff, Nat.reduceEqDiff, Nat.reduceBEq, Int.reduceLT, Int.reduceLE, Int.reduceToNat, Int.reduceAdd, Int.reduceSub, Int.reduceMul, Int.reduceNeg, Int.reduceEq, reduceCtorEq, eq_self, ne_eq, not_false_eq_true, if_true, reduceIte, Tryz.underlying9]
            repeat' (first | refine abs_seq ?_ | refine abs_block ?_ | refine abs_skip ?_ | refine abs_scope ?_ | refine abs_label ?_ | refine abs_exit ?_ | refine abs_ret ?_ | ((first | refine abs_region fun K hK => ?_ | refine abs_draw Tryz.ty.mixed (by kernel_rfl) fun K hK => ?_ | refine abs_if ?_ | show retQ _ _ _ _ _); simp -implicitDefEqProofs only [go_sem, bas, basL, Nat.reduceAdd, Nat.reduceSub, Nat.reduceMul, Nat.reduceLT, Nat.reduceLeDiff, Nat.reduceEqDiff, Nat.reduceBEq, Int.reduceLT, Int.reduceLE, Int.reduceToNat, Int.reduceAdd, Int.reduceSub, Int.reduceMul, Int.reduceNeg, Int.reduceEq, reduceCtorEq, eq_self, ne_eq, not_false_eq_true, if_true, reduceIte, Tryz.underlying9]) | ((first | (refine hK _ ?_; clear hK K) | show thenQ _ _ _ _ | show blockQ _ _ _ _ | show noGoQ _ _ _); simp only [noGoQ, thenQ, blockQ, if_true, Nat.reduceEqDiff, reduceIte]) | (intro hg; first | (exfalso; omega) | (exfalso; contradiction) | skip) | apply And.intro | (with_reducible rfl) | (clear hK; omega) | omega)
            exact ⟨3, ⟨by omega, fun q hq hq2 => hk2 q (by omega) hq2⟩, by omega, le_of rfl (by try simp -implicitDefEqProofs only [go_sem, bas, basL, Nat.reduceAdd, Nat.reduceSub, Nat.reduceMul, Nat.reduceLT, Nat.reduceLeDiff, Nat.reduceEqDiff, Nat.reduceBEq, Int.reduceLT, Int.reduceLE, Int.reduceToNat, Int.reduceAdd, Int.reduceSub, Int.reduceMul, Int.reduceNeg, Int.reduceEq, reduceCtorEq, eq_self, ne_eq, not_false_eq_true, if_true, reduceIte, Tryz.underlying9]; try simp) ⟨[], by rw [xr_two]; rfl⟩ ⟨_, rfl⟩⟩
          · have hnum := rnumber_ok (nth ws k) (hwz k (by omega))
            have hxl := xr_len ws k
            have hxs := xr_succ ws hk10 hkk
            by_cases hb : numB (nth ws k) = true
            · rw [hb] at hnum
              simp -implicitDefEqProofs only [go_sem, bas, basL, Nat.reduceAdd, Nat.reduceSub, Nat.reduceMul, Nat.reduceLT, Nat.reduceLeDiff, Nat.reduceEqDiff, Nat.reduceBEq, Int.reduceLT, Int.reduceLE, Int.reduceToNat, Int.reduceAdd, Int.reduceSub, Int.reduceMul, Int.reduceNeg, Int.reduceEq, reduceCtorEq, eq_self, ne_eq, not_false_eq_true, if_true, reduceIte, Tryz.underlying9]
              repeat' (first | refine abs_seq ?_ | refine abs_block ?_ | refine abs_skip ?_ | refine abs_scope ?_ | refine abs_label ?_ | refine abs_exit ?_ | refine abs_ret ?_ | ((first | refine abs_region fun K hK => ?_ | refine abs_draw Tryz.ty.mixed (by kernel_rfl) fun K hK => ?_ | refine abs_if ?_ | show retQ _ _ _ _ _ | refine callK (hnum) ?_); simp -implicitDefEqProofs only [go_sem, bas, basL, Nat.reduceAdd, Nat.reduceSub, Nat.reduceMul, Nat.reduceLT, Nat.reduceLeDiff, Nat.reduceEqDiff, Nat.reduceBEq, Int.reduceLT, Int.reduceLE, Int.reduceToNat, Int.reduceAdd, Int.reduceSub, Int.reduceMul, Int.reduceNeg, Int.reduceEq, reduceCtorEq, eq_self, ne_eq, not_false_eq_true, if_true, reduceIte, Tryz.underlying9]) | ((first | (refine hK _ ?_; clear hK K) | show thenQ _ _ _ _ | show blockQ _ _ _ _ | show noGoQ _ _ _); simp only [noGoQ, thenQ, blockQ, if_true, Nat.reduceEqDiff, reduceIte]) | (intro hg; first | (exfalso; omega) | (exfalso; contradiction) | skip) | apply And.intro | (with_reducible rfl) | (clear hK; omega) | omega)
              exact ⟨k + 1, ⟨by omega, fun q hq hq2 => by
                by_cases e : q = k
                · subst e; exact hb
                · exact hk2 q (by omega) hq2⟩, by omega, le_of rfl (by try simp -implicitDefEqProofs only [go_sem, bas, basL, Nat.reduceAdd, Nat.reduceSub, Nat.reduceMul, Nat.reduceLT, Nat.reduceLeDiff, Nat.reduceEqDiff, Nat.reduceBEq, Int.reduceLT, Int.reduceLE, Int.reduceToNat, Int.reduceAdd, Int.reduceSub, Int.reduceMul, Int.reduceNeg, Int.reduceEq, reduceCtorEq, eq_self, ne_eq, not_false_eq_true, if_true, reduceIte, Tryz.underlying9]; try simp) ⟨[], by simp [hxs]⟩ ⟨_, rfl⟩⟩
            · obtain rfl := hfail (fun h => hb ((hneed h).2.2.1 k hk10 hkk))
              rw [Bool.eq_false_iff.2 hb] at hnum
              simp -implicitDefEqProofs only [go_sem, bas, basL, Nat.reduceAdd, Nat.reduceSub, Nat.reduceMul, Nat.reduceLT, Nat.reduceLeDiff, Nat.reduceEqDiff, Nat.reduceBEq, Int.reduceLT, Int.reduceLE, Int.reduceToNat, Int.reduceAdd, Int.reduceSub, Int.reduceMul, Int.reduceNeg, Int.reduceEq, reduceCtorEq, eq_self, ne_eq, not_false_eq_true, if_true, reduceIte, Tryz.underlying9]
              repeat' (first | refine abs_seq ?_ | refine abs_block ?_ | refine abs_skip ?_ | refine abs_scope ?_ | refine abs_label ?_ | refine abs_exit ?_ | refine abs_ret ?_ | ((first | refine abs_region fun K hK => ?_ | refine abs_draw Tryz.ty.mixed (by kernel_rfl) fun K hK => ?_ | refine abs_if ?_ | show retQ _ _ _ _ _ | refine callK (hnum) ?_); simp -implicitDefEqProofs only [go_sem, bas, basL, Nat.reduceAdd, Nat.reduceSub, Nat.reduceMul, Nat.reduceLT, Nat.reduceLeDiff, Nat.reduceEqDiff, Nat.reduceBEq, Int.reduceLT, Int.reduceLE, Int.reduceToNat, Int.reduceAdd, Int.reduceSub, Int.reduceMul, Int.reduceNeg, Int.reduceEq, reduceCtorEq, eq_self, ne_eq, not_false_eq_true, if_true, reduceIte, Tryz.underlying9]) | ((first | (refine hK _ ?_; clear hK K) | show thenQ _ _ _ _ | show blockQ _ _ _ _ | show noGoQ _ _ _); simp only [noGoQ, thenQ, blockQ, if_true, Nat.reduceEqDiff, reduceIte]) | (intro hg; first | (exfalso; omega) | (exfalso; contradiction) | skip) | apply And.intro | (with_reducible rfl) | (clear hK; omega) | omega)
              all_goals skip
        · obtain rfl : k = 10 := by omega
          obtain ⟨r, hr⟩ : ∃ r : Rdg, r = ⟨rnV (nth ws 0), rnV (nth ws 1), clkK (nth ws 2) 4, rnV (nth ws 3), rnV (nth ws 4), rnV (nth ws 5), rnV (nth ws 6), rnV (nth ws 7), rnV (nth ws 8), rnV (nth ws 9)⟩ := ⟨_, rfl⟩
          have e : xrD ws 10 = [i64 r.day, i64 r.min, i64 0, i64 r.mer, i64 r.al, i64 r.ah, i64 r.dl, i64 r.dh, i64 r.wl, i64 r.wh] := by rw [hr]; rfl
          rw [e]
          simp -implicitDefEqProofs only [go_sem, bas, basL, Nat.reduceAdd, Nat.reduceSub, Nat.reduceMul, Nat.reduceLT, Nat.reduceLeDiff, Nat.reduceEqDiff, Nat.reduceBEq, Int.reduceLT, Int.reduceLE, Int.reduceToNat, Int.reduceAdd, Int.reduceSub, Int.reduceMul, Int.reduceNeg, Int.reduceEq, reduceCtorEq, eq_self, ne_eq, not_false_eq_true, if_true, reduceIte, Tryz.underlying9]
          repeat' (first | refine abs_seq ?_ | refine abs_block ?_ | refine abs_skip ?_ | refine abs_scope ?_ | refine abs_label ?_ | refine abs_exit ?_ | refine abs_ret ?_ | ((first | refine abs_region fun K hK => ?_ | refine abs_draw Tryz.ty.mixed (by kernel_rfl) fun K hK => ?_ | refine abs_if ?_ | show retQ _ _ _ _ _); simp -implicitDefEqProofs only [go_sem, bas, basL, Nat.reduceAdd, Nat.reduceSub, Nat.reduceMul, Nat.reduceLT, Nat.reduceLeDiff, Nat.reduceEqDiff, Nat.reduceBEq, Int.reduceLT, Int.reduceLE, Int.reduceToNat, Int.reduceAdd, Int.reduceSub, Int.reduceMul, Int.reduceNeg, Int.reduceEq, reduceCtorEq, eq_self, ne_eq, not_false_eq_true, if_true, reduceIte, Tryz.underlying9]) | ((first | (refine hK _ ?_; clear hK K) | show thenQ _ _ _ _ | show blockQ _ _ _ _ | show noGoQ _ _ _); simp only [noGoQ, thenQ, blockQ, if_true, Nat.reduceEqDiff, reduceIte]) | (intro hg; first | (exfalso; omega) | (exfalso; contradiction) | skip) | apply And.intro | (with_reducible rfl) | (clear hK; omega) | omega)
          refine abs_loopN (ι := Nat) (fun c => [(0, .str t), (4, .list ((rlO t).map D.str)), (5, .own 0), (6, i64 i), (7, .list (ws.map D.str)), (8, .box 0 0), (12, i64 (clkK (nth ws 2) c)), (13, i64 c)]) (fun _ => [.mu [i64 r.day, i64 r.min, i64 0, i64 r.mer, i64 r.al, i64 r.ah, i64 r.dl, i64 r.dh, i64 r.wl, i64 r.wh]]) (fun _ => [⟨true, 53, 10, ((rdsR t).take i).map rdD⟩])
            (fun c => 1 ≤ c ∧ c ≤ 4) (fun c => 4 - c) (fun _ _ => ⟨rfl, rfl⟩) 1 ⟨by omega, by omega⟩ (le_of rfl (by try simp -implicitDefEqProofs only [go_sem, bas, basL, Nat.reduceAdd, Nat.reduceSub, Nat.reduceMul, Nat.reduceLT, Nat.reduceLeDiff, Nat.reduceEqDiff, Nat.reduceBEq, Int.reduceLT, Int.reduceLE, Int.reduceToNat, Int.reduceAdd, Int.reduceSub, Int.reduceMul, Int.reduceNeg, Int.reduceEq, reduceCtorEq, eq_self, ne_eq, not_false_eq_true, if_true, reduceIte, Tryz.underlying9]; try simp [clkK]) ⟨_, rfl⟩ ⟨_, rfl⟩) (fun c ⟨hc1, hc4⟩ => ?_)
          by_cases hlc : c < 4
          · have hL : (ByteArray.mk #[32, 114, 115, 101]).extract c ((c : Int) + 1).toNat = ltO c := by unfold ltO; rw [show ((c : Int) + 1).toNat = c + 1 by omega]
            by_cases hm : ((ltO c).toList == (nth ws 2).toList) = true
            · have hs : clkK (nth ws 2) (c + 1) = (c : Int) := by simp only [clkK]; rw [if_pos ⟨by omega, hm⟩]
              simp -implicitDefEqProofs only [go_sem, bas, basL, Nat.reduceAdd, Nat.reduceSub, Nat.reduceMul, Nat.reduceLT, Nat.reduceLeDiff, Nat.reduceEqDiff, Nat.reduceBEq, Int.reduceLT, Int.reduceLE, Int.reduceToNat, Int.reduceAdd, Int.reduceSub, Int.reduceMul, Int.reduceNeg, Int.reduceEq, reduceCtorEq, eq_self, ne_eq, not_false_eq_true, if_true, reduceIte, Tryz.underlying9, hL, hm, h4, Int.toNat_natCast]
              repeat' (first | refine abs_seq ?_ | refine abs_block ?_ | refine abs_skip ?_ | refine abs_scope ?_ | refine abs_label ?_ | refine abs_exit ?_ | refine abs_ret ?_ | ((first | refine abs_region fun K hK => ?_ | refine abs_draw Tryz.ty.mixed (by kernel_rfl) fun K hK => ?_ | refine abs_if ?_ | show retQ _ _ _ _ _); simp -implicitDefEqProofs only [go_sem, bas, basL, Nat.reduceAdd, Nat.reduceSub, Nat.reduceMul, Nat.reduceLT, Nat.reduceLeDiff, Nat.reduceEqDiff, Nat.reduceBEq, Int.reduceLT, Int.reduceLE, Int.reduceToNat, Int.reduceAdd, Int.reduceSub, Int.reduceMul, Int.reduceNeg, Int.reduceEq, reduceCtorEq, eq_self, ne_eq, not_false_eq_true, if_true, reduceIte, Tryz.underlying9, hL, hm, h4, Int.toNat_natCast]) | ((first | (refine hK _ ?_; clear hK K) | show thenQ _ _ _ _ | show blockQ _ _ _ _ | show noGoQ _ _ _); simp only [noGoQ, thenQ, blockQ, if_true, Nat.reduceEqDiff, reduceIte]) | (intro hg; first | (exfalso; omega) | (exfalso; contradiction) | skip) | apply And.intro | (with_reducible rfl) | (clear hK; omega) | omega)
              exact ⟨c + 1, ⟨by omega, by omega⟩, by omega, le_of rfl (by try simp -implicitDefEqProofs only [go_sem, bas, basL, Nat.reduceAdd, Nat.reduceSub, Nat.reduceMul, Nat.reduceLT, Nat.reduceLeDiff, Nat.reduceEqDiff, Nat.reduceBEq, Int.reduceLT, Int.reduceLE, Int.reduceToNat, Int.reduceAdd, Int.reduceSub, Int.reduceMul, Int.reduceNeg, Int.reduceEq, reduceCtorEq, eq_self, ne_eq, not_false_eq_true, if_true, reduceIte, Tryz.underlying9, hL, hm, h4, Int.toNat_natCast]; try simp [hs]) ⟨[], rfl⟩ ⟨_, rfl⟩⟩
            · have hs : clkK (nth ws 2) (c + 1) = clkK (nth ws 2) c := by simp only [clkK]; rw [if_neg (fun h => hm h.2)]
              have hm := Bool.eq_false_iff.2 hm
              simp -implicitDefEqProofs only [go_sem, bas, basL, Nat.reduceAdd, Nat.reduceSub, Nat.reduceMul, Nat.reduceLT, Nat.reduceLeDiff, Nat.reduceEqDiff, Nat.reduceBEq, Int.reduceLT, Int.reduceLE, Int.reduceToNat, Int.reduceAdd, Int.reduceSub, Int.reduceMul, Int.reduceNeg, Int.reduceEq, reduceCtorEq, eq_self, ne_eq, not_false_eq_true, if_true, reduceIte, Tryz.underlying9, hL, hm, h4, Int.toNat_natCast]
              repeat' (first | refine abs_seq ?_ | refine abs_block ?_ | refine abs_skip ?_ | refine abs_scope ?_ | refine abs_label ?_ | refine abs_exit ?_ | refine abs_ret ?_ | ((first | refine abs_region fun K hK => ?_ | refine abs_draw Tryz.ty.mixed (by kernel_rfl) fun K hK => ?_ | refine abs_if ?_ | show retQ _ _ _ _ _); simp -implicitDefEqProofs only [go_sem, bas, basL, Nat.reduceAdd, Nat.reduceSub, Nat.reduceMul, Nat.reduceLT, Nat.reduceLeDiff, Nat.reduceEqDiff, Nat.reduceBEq, Int.reduceLT, Int.reduceLE, Int.reduceToNat, Int.reduceAdd, Int.reduceSub, Int.reduceMul, Int.reduceNeg, Int.reduceEq, reduceCtorEq, eq_self, ne_eq, not_false_eq_true, if_true, reduceIte, Tryz.underlying9, hL, hm, h4, Int.toNat_natCast]) | ((first | (refine hK _ ?_; clear hK K) | show thenQ _ _ _ _ | show blockQ _ _ _ _ | show noGoQ _ _ _); simp only [noGoQ, thenQ, blockQ, if_true, Nat.reduceEqDiff, reduceIte]) | (intro hg; first | (exfalso; omega) | (exfalso; contradiction) | skip) | apply And.intro | (with_reducible rfl) | (clear hK; omega) | omega)
              all_goals exact ⟨c + 1, ⟨by omega, by omega⟩, by omega, le_of rfl (by try simp -implicitDefEqProofs only [go_sem, bas, basL, Nat.reduceAdd, Nat.reduceSub, Nat.reduceMul, Nat.reduceLT, Nat.reduceLeDiff, Nat.reduceEqDiff, Nat.reduceBEq, Int.reduceLT, Int.reduceLE, Int.reduceToNat, Int.reduceAdd, Int.reduceSub, Int.reduceMul, Int.reduceNeg, Int.reduceEq, reduceCtorEq, eq_self, ne_eq, not_false_eq_true, if_true, reduceIte, Tryz.underlying9, hL, hm, h4, Int.toNat_natCast]; try simp [hs]) ⟨[], rfl⟩ ⟨_, rfl⟩⟩
          · obtain rfl : c = 4 := by omega
            by_cases hz : clkK (nth ws 2) 4 = 0
            · obtain rfl := hfail (fun h => (hneed h).2.2.2 hz)
              rw [hz]
              simp -implicitDefEqProofs only [go_sem, bas, basL, Nat.reduceAdd, Nat.reduceSub, Nat.reduceMul, Nat.reduceLT, Nat.reduceLeDiff, Nat.reduceEqDiff, Nat.reduceBEq, Int.reduceLT, Int.reduceLE, Int.reduceToNat, Int.reduceAdd, Int.reduceSub, Int.reduceMul, Int.reduceNeg, Int.reduceEq, reduceCtorEq, eq_self, ne_eq, not_false_eq_true, if_true, reduceIte, Tryz.underlying9]
              repeat' (first | refine abs_seq ?_ | refine abs_block ?_ | refine abs_skip ?_ | refine abs_scope ?_ | refine abs_label ?_ | refine abs_exit ?_ | refine abs_ret ?_ | ((first | refine abs_region fun K hK => ?_ | refine abs_draw Tryz.ty.mixed (by kernel_rfl) fun K hK => ?_ | refine abs_if ?_ | show retQ _ _ _ _ _); simp -implicitDefEqProofs only [go_sem, bas, basL, Nat.reduceAdd, Nat.reduceSub, Nat.reduceMul, Nat.reduceLT, Nat.reduceLeDiff, Nat.reduceEqDiff, Nat.reduceBEq, Int.reduceLT, Int.reduceLE, Int.reduceToNat, Int.reduceAdd, Int.reduceSub, Int.reduceMul, Int.reduceNeg, Int.reduceEq, reduceCtorEq, eq_self, ne_eq, not_false_eq_true, if_true, reduceIte, Tryz.underlying9]) | ((first | (refine hK _ ?_; clear hK K) | show thenQ _ _ _ _ | show blockQ _ _ _ _ | show noGoQ _ _ _); simp only [noGoQ, thenQ, blockQ, if_true, Nat.reduceEqDiff, reduceIte]) | (intro hg; first | (exfalso; omega) | (exfalso; contradiction) | skip) | apply And.intro | (with_reducible rfl) | (clear hK; omega) | omega)
              all_goals skip
            · have hx := hsuff c1 c2 (fun q hq hq2 => hk2 q hq hq2) hz
              have hck : clkK (nth ws 2) 4 = r.clk := by rw [hr]
              rw [← hr] at hx
              have k4 : (rdsR t).take (i + 1) = (rdsR t).take i ++ [r] := by rw [List.take_succ_eq_append_getElem (by rw [rdsR_len]; exact hlt), ← nth_eq _ i (by rw [rdsR_len]; exact hlt), rdsR_nth t hlt, hx.2]
              have htk : ((rdsR t).take i).length = i := by rw [List.length_take, rdsR_len]; omega
              rw [hck] at hz ⊢
              simp -implicitDefEqProofs only [go_sem, bas, basL, Nat.reduceAdd, Nat.reduceSub, Nat.reduceMul, Nat.reduceLT, Nat.reduceLeDiff, Nat.reduceEqDiff, Nat.reduceBEq, Int.reduceLT, Int.reduceLE, Int.reduceToNat, Int.reduceAdd, Int.reduceSub, Int.reduceMul, Int.reduceNeg, Int.reduceEq, reduceCtorEq, eq_self, ne_eq, not_false_eq_true, if_true, reduceIte, Tryz.underlying9]
              repeat' (first | refine abs_seq ?_ | refine abs_block ?_ | refine abs_skip ?_ | refine abs_scope ?_ | refine abs_label ?_ | refine abs_exit ?_ | refine abs_ret ?_ | ((first | refine abs_region fun K hK => ?_ | refine abs_draw Tryz.ty.mixed (by kernel_rfl) fun K hK => ?_ | refine abs_if ?_ | show retQ _ _ _ _ _); simp -implicitDefEqProofs only [go_sem, bas, basL, Nat.reduceAdd, Nat.reduceSub, Nat.reduceMul, Nat.reduceLT, Nat.reduceLeDiff, Nat.reduceEqDiff, Nat.reduceBEq, Int.reduceLT, Int.reduceLE, Int.reduceToNat, Int.reduceAdd, Int.reduceSub, Int.reduceMul, Int.reduceNeg, Int.reduceEq, reduceCtorEq, eq_self, ne_eq, not_false_eq_true, if_true, reduceIte, Tryz.underlying9]) | ((first | (refine hK _ ?_; clear hK K) | show thenQ _ _ _ _ | show blockQ _ _ _ _ | show noGoQ _ _ _); simp only [noGoQ, thenQ, blockQ, if_true, Nat.reduceEqDiff, reduceIte]) | (intro hg; first | (exfalso; omega) | (exfalso; contradiction) | skip) | apply And.intro | (with_reducible rfl) | (clear hK; omega) | omega)
              exact ⟨i + 1, ⟨by omega, fun j hj => by
                by_cases e : j = i
                · subst e; exact hx.1
                · exact hall j (by omega)⟩, by omega, le_of rfl (by try simp -implicitDefEqProofs only [go_sem, bas, basL, Nat.reduceAdd, Nat.reduceSub, Nat.reduceMul, Nat.reduceLT, Nat.reduceLeDiff, Nat.reduceEqDiff, Nat.reduceBEq, Int.reduceLT, Int.reduceLE, Int.reduceToNat, Int.reduceAdd, Int.reduceSub, Int.reduceMul, Int.reduceNeg, Int.reduceEq, reduceCtorEq, eq_self, ne_eq, not_false_eq_true, if_true, reduceIte, Tryz.underlying9]; try simp) ⟨_, rfl⟩ ⟨[], by simp [k4]⟩⟩
      · obtain rfl := hfail (fun h => c2 (hneed h).2.1)
        simp -implicitDefEqProofs only [go_sem, bas, basL, Nat.reduceAdd, Nat.reduceSub, Nat.reduceMul, Nat.reduceLT, Nat.reduceLeDiff, Nat.reduceEqDiff, Nat.reduceBEq, Int.reduceLT, Int.reduceLE, Int.reduceToNat, Int.reduceAdd, Int.reduceSub, Int.reduceMul, Int.reduceNeg, Int.reduceEq, reduceCtorEq, eq_self, ne_eq, not_false_eq_true, if_true, reduceIte, Tryz.underlying9]
        repeat' (first | refine abs_seq ?_ | refine abs_block ?_ | refine abs_skip ?_ | refine abs_scope ?_ | refine abs_label ?_ | refine abs_exit ?_ | refine abs_ret ?_ | ((first | refine abs_region fun K hK => ?_ | refine abs_draw Tryz.ty.mixed (by kernel_rfl) fun K hK => ?_ | refine abs_if ?_ | show retQ _ _ _ _ _ | refine callK (hsp) ?_); simp -implicitDefEqProofs only [go_sem, bas, basL, Nat.reduceAdd, Nat.reduceSub, Nat.reduceMul, Nat.reduceLT, Nat.reduceLeDiff, Nat.reduceEqDiff, Nat.reduceBEq, Int.reduceLT, Int.reduceLE, Int.reduceToNat, Int.reduceAdd, Int.reduceSub, Int.reduceMul, Int.reduceNeg, Int.reduceEq, reduceCtorEq, eq_self, ne_eq, not_false_eq_true, if_true, reduceIte, Tryz.underlying9]) | ((first | (refine hK _ ?_; clear hK K) | show thenQ _ _ _ _ | show blockQ _ _ _ _ | show noGoQ _ _ _); simp only [noGoQ, thenQ, blockQ, if_true, Nat.reduceEqDiff, reduceIte]) | (intro hg; first | (exfalso; omega) | (exfalso; contradiction) | skip) | apply And.intro | (with_reducible rfl) | (clear hK; omega) | omega)
        all_goals skip
    · obtain rfl := hfail (fun h => c1 (hneed h).1)
      simp -implicitDefEqProofs only [go_sem, bas, basL, Nat.reduceAdd, Nat.reduceSub, Nat.reduceMul, Nat.reduceLT, Nat.reduceLeDiff, Nat.reduceEqDiff, Nat.reduceBEq, Int.reduceLT, Int.reduceLE, Int.reduceToNat, Int.reduceAdd, Int.reduceSub, Int.reduceMul, Int.reduceNeg, Int.reduceEq, reduceCtorEq, eq_self, ne_eq, not_false_eq_true, if_true, reduceIte, Tryz.underlying9]
      repeat' (first | refine abs_seq ?_ | refine abs_block ?_ | refine abs_skip ?_ | refine abs_scope ?_ | refine abs_label ?_ | refine abs_exit ?_ | refine abs_ret ?_ | ((first | refine abs_region fun K hK => ?_ | refine abs_draw Tryz.ty.mixed (by kernel_rfl) fun K hK => ?_ | refine abs_if ?_ | show retQ _ _ _ _ _ | refine callK (hsp) ?_); simp -implicitDefEqProofs only [go_sem, bas, basL, Nat.reduceAdd, Nat.reduceSub, Nat.reduceMul, Nat.reduceLT, Nat.reduceLeDiff, Nat.reduceEqDiff, Nat.reduceBEq, Int.reduceLT, Int.reduceLE, Int.reduceToNat, Int.reduceAdd, Int.reduceSub, Int.reduceMul, Int.reduceNeg, Int.reduceEq, reduceCtorEq, eq_self, ne_eq, not_false_eq_true, if_true, reduceIte, Tryz.underlying9]) | ((first | (refine hK _ ?_; clear hK K) | show thenQ _ _ _ _ | show blockQ _ _ _ _ | show noGoQ _ _ _); simp only [noGoQ, thenQ, blockQ, if_true, Nat.reduceEqDiff, reduceIte]) | (intro hg; first | (exfalso; omega) | (exfalso; contradiction) | skip) | apply And.intro | (with_reducible rfl) | (clear hK; omega) | omega)
      all_goals skip
  · obtain rfl : i = rnL t := by omega
    have hok : okR t := hall
    obtain rfl := hy hok
    have hpr := rprint_any (rdsR t) (rdsR_fit hok) (fun j hj => by rw [rdsR_len] at hj; rw [← bef_outR hok j hj]; have := rl_bef t j hj; omega) (by rw [rdsR_len]; omega)
    have htk : (rdsR t).take (rnL t) = rdsR t := by rw [← rdsR_len]; exact List.take_length
    rw [htk]
    simp -implicitDefEqProofs only [go_sem, bas, basL, Nat.reduceAdd, Nat.reduceSub, Nat.reduceMul, Nat.reduceLT, Nat.reduceLeDiff, Nat.reduceEqDiff, Nat.reduceBEq, Int.reduceLT, Int.reduceLE, Int.reduceToNat, Int.reduceAdd, Int.reduceSub, Int.reduceMul, Int.reduceNeg, Int.reduceEq, reduceCtorEq, eq_self, ne_eq, not_false_eq_true, if_true, reduceIte, Tryz.underlying9]
    repeat' (first | refine abs_seq ?_ | refine abs_block ?_ | refine abs_skip ?_ | refine abs_scope ?_ | refine abs_label ?_ | refine abs_exit ?_ | refine abs_ret ?_ | ((first | refine abs_region fun K hK => ?_ | refine abs_draw Tryz.ty.mixed (by kernel_rfl) fun K hK => ?_ | refine abs_if ?_ | show retQ _ _ _ _ _ | refine callK (hpr) ?_); simp -implicitDefEqProofs only [go_sem, bas, basL, Nat.reduceAdd, Nat.reduceSub, Nat.reduceMul, Nat.reduceLT, Nat.reduceLeDiff, Nat.reduceEqDiff, Nat.reduceBEq, Int.reduceLT, Int.reduceLE, Int.reduceToNat, Int.reduceAdd, Int.reduceSub, Int.reduceMul, Int.reduceNeg, Int.reduceEq, reduceCtorEq, eq_self, ne_eq, not_false_eq_true, if_true, reduceIte, Tryz.underlying9]) | ((first | (refine hK _ ?_; clear hK K) | show thenQ _ _ _ _ | show blockQ _ _ _ _ | show noGoQ _ _ _); simp only [noGoQ, thenQ, blockQ, if_true, Nat.reduceEqDiff, reduceIte]) | (intro hg; first | (exfalso; omega) | (exfalso; contradiction) | skip) | apply And.intro | (with_reducible rfl) | (clear hK; omega) | omega)
    all_goals skip
end Go.Proofs.YtdbiiegohemahaaGreatDoor
