import Derived.Test.YtdbiiegohemahaaGreatDoorT5
import Derived.Test.YtdbiiegohemahaaGreatDoorT6
set_option linter.unusedVariables false
set_option linter.unusedSimpArgs false
namespace Go.Proofs.YtdbiiegohemahaaGreatDoor
open Go.Ab Go.Sheet
attribute [local irreducible] Abs CallK CallR CallsTo IA
theorem tmod_nat (k : Nat) : Int.tmod (k : Int) 10 = ((k % 10 : Nat) : Int) := rfl
theorem tdiv_nat (k : Nat) : Int.tdiv (k : Int) 10 = ((k / 10 : Nat) : Int) := rfl
theorem toNat48 (k : Nat) : ((48 : Int) + (k : Int)).toNat = 48 + k := by omega
/-- What is left ahead of the digits that are written. -/
def decP (n : Nat) (j : Nat × List UInt8) : Prop := j.1 ≤ 99999 ∧ Go.Lib.decDigits n = (if j.1 < 10 then [] else Go.Lib.decDigits (j.1 / 10)) ++ j.2
theorem decP_init (n : Nat) (h : n ≤ 99999) : decP n (n, [UInt8.ofNat (48 + n % 10)]) := by
  refine ⟨h, ?_⟩
  by_cases hn : n < 10
  · simp only [if_pos hn, List.nil_append, dec_small hn, Nat.mod_eq_of_lt hn]
  · simp only [if_neg hn]; exact dec_big hn
theorem decP_len {n : Nat} {j : Nat × List UInt8} (h0 : n ≤ 99999) (h : decP n j) : j.2.length ≤ 5 := by
  have := congrArg List.length h.2
  have h2 := dec_len h0
  rw [List.length_append] at this
  omega
theorem decP_next {n : Nat} {m : Nat} {s : List UInt8} (h : decP n (m, s)) (hm : 10 ≤ m) : decP n (m / 10, UInt8.ofNat (48 + m / 10 % 10) :: s) := by
  refine ⟨by have := h.1; simp only at this ⊢; omega, ?_⟩
  have h2 := h.2
  simp only at h2 ⊢
  rw [if_neg (by omega)] at h2
  rw [h2]
  by_cases hn : m / 10 < 10
  · rw [if_pos hn, dec_small hn, Nat.mod_eq_of_lt hn]; rfl
  · rw [if_neg hn, dec_big hn]; simp
theorem decP_end {n : Nat} {m : Nat} {s : List UInt8} (h : decP n (m, s)) (hm : m < 10) : (ByteArray.mk s.toArray) = itoa (n : Int) := by
  have h2 := h.2
  simp only at h2
  rw [if_pos hm, List.nil_append] at h2
  unfold itoa
  rw [itoa_head _ (by omega), Int.toNat_natCast, h2]
set_option maxRecDepth 100000 in
set_option maxHeartbeats 4000000 in
theorem decN_ok (n : Nat) (h : n ≤ 99999) : CallsTo Tryz.prog 61 [i64 (n : Int)] (.str (itoa (n : Int))) := by
  have h0 := decP_init n h
  refine calls_abs Tryz.func61 Tryz.ntmps61 Tryz.results61 Tryz.call61 rfl (by simp) fun w0 S0 M0 => ?_
  repeat' (first | refine abs_seq ?_ | refine abs_block ?_ | refine abs_skip ?_ | refine abs_scope ?_ | refine abs_label ?_ | refine abs_exit ?_ | refine abs_ret ?_ | ((first | refine abs_region fun K hK => ?_ | refine abs_draw Tryz.ty.mixed (by kernel_rfl) fun K hK => ?_ | refine abs_if ?_ | show retQ _ _ _ _ _); simp -implicitDefEqProofs only [go_sem, bas, basL, Nat.reduceAdd, Nat.reduceSub, Nat.reduceMul, Nat.reduceLT, Nat.reduceLeDiff, Nat.reduceEqDiff, Nat.reduceBEq, Int.reduceLT, Int.reduceLE, Int.reduceToNat, Int.reduceAdd, Int.reduceSub, Int.reduceMul, Int.reduceNeg, Int.reduceEq, reduceCtorEq, eq_self, ne_eq, not_false_eq_true, if_true, reduceIte, tmod_nat, tdiv_nat, toNat48, mk_size, mk_app, Tryz.underlying9, Tryz.underlying5, List.length_singleton, List.length_cons, List.length_nil]) | ((first | (refine hK _ ?_; clear hK K) | show thenQ _ _ _ _ | show blockQ _ _ _ _ | show noGoQ _ _ _); simp only [noGoQ, thenQ, blockQ, if_true, Nat.reduceEqDiff, reduceIte]) | (intro hg; first | (exfalso; omega) | (exfalso; contradiction) | skip) | apply And.intro | (with_reducible rfl) | (clear hK; omega) | omega)
  refine abs_loopN (ι := Nat × List UInt8) (fun j => [(0, i64 (j.1 : Int)), (3, .str ⟨j.2.toArray⟩)]) (fun _ => []) (fun _ => []) (decP n) (fun j => j.1) (fun _ _ => ⟨rfl, rfl⟩) (n, [UInt8.ofNat (48 + n % 10)]) h0 (le_of rfl (by try simp -implicitDefEqProofs only [go_sem, bas, basL, Nat.reduceAdd, Nat.reduceSub, Nat.reduceMul, Nat.reduceLT, Nat.reduceLeDiff, Nat.reduceEqDiff, Nat.reduceBEq, Int.reduceLT, Int.reduceLE, Int.reduceToNat, Int.reduceAdd, Int.reduceSub, Int.reduceMul, Int.reduceNeg, Int.reduceEq, reduceCtorEq, eq_self, ne_eq, not_false_eq_true, if_true, reduceIte, tmod_nat, tdiv_nat, toNat48, mk_size, mk_app, Tryz.underlying9, Tryz.underlying5, List.length_singleton, List.length_cons, List.length_nil]; try simp) ⟨_, rfl⟩ ⟨_, rfl⟩) (fun j hj => ?_)
  obtain ⟨m, s⟩ := j
  have hl := decP_len h hj
  have hm := hj.1
  simp only at hl hm
  by_cases h10 : 10 ≤ m
  · have hn := decP_next hj h10
    simp -implicitDefEqProofs only [go_sem, bas, basL, Nat.reduceAdd, Nat.reduceSub, Nat.reduceMul, Nat.reduceLT, Nat.reduceLeDiff, Nat.reduceEqDiff, Nat.reduceBEq, Int.reduceLT, Int.reduceLE, Int.reduceToNat, Int.reduceAdd, Int.reduceSub, Int.reduceMul, Int.reduceNeg, Int.reduceEq, reduceCtorEq, eq_self, ne_eq, not_false_eq_true, if_true, reduceIte, tmod_nat, tdiv_nat, toNat48, mk_size, mk_app, Tryz.underlying9, Tryz.underlying5, List.length_singleton, List.length_cons, List.length_nil]
    repeat' (first | refine abs_seq ?_ | refine abs_block ?_ | refine abs_skip ?_ | refine abs_scope ?_ | refine abs_label ?_ | refine abs_exit ?_ | refine abs_ret ?_ | ((first | refine abs_region fun K hK => ?_ | refine abs_draw Tryz.ty.mixed (by kernel_rfl) fun K hK => ?_ | refine abs_if ?_ | show retQ _ _ _ _ _); simp -implicitDefEqProofs only [go_sem, bas, basL, Nat.reduceAdd, Nat.reduceSub, Nat.reduceMul, Nat.reduceLT, Nat.reduceLeDiff, Nat.reduceEqDiff, Nat.reduceBEq, Int.reduceLT, Int.reduceLE, Int.reduceToNat, Int.reduceAdd, Int.reduceSub, Int.reduceMul, Int.reduceNeg, Int.reduceEq, reduceCtorEq, eq_self, ne_eq, not_false_eq_true, if_true, reduceIte, tmod_nat, tdiv_nat, toNat48, mk_size, mk_app, Tryz.underlying9, Tryz.underlying5, List.length_singleton, List.length_cons, List.length_nil]) | ((first | (refine hK _ ?_; clear hK K) | show thenQ _ _ _ _ | show blockQ _ _ _ _ | show noGoQ _ _ _); simp only [noGoQ, thenQ, blockQ, if_true, Nat.reduceEqDiff, reduceIte]) | (intro hg; first | (exfalso; omega) | (exfalso; contradiction) | skip) | apply And.intro | (with_reducible rfl) | (clear hK; omega) | omega)
    exact ⟨_, hn, by simp only; omega, le_of rfl (by try simp -implicitDefEqProofs only [go_sem, bas, basL, Nat.reduceAdd, Nat.reduceSub, Nat.reduceMul, Nat.reduceLT, Nat.reduceLeDiff, Nat.reduceEqDiff, Nat.reduceBEq, Int.reduceLT, Int.reduceLE, Int.reduceToNat, Int.reduceAdd, Int.reduceSub, Int.reduceMul, Int.reduceNeg, Int.reduceEq, reduceCtorEq, eq_self, ne_eq, not_false_eq_true, if_true, reduceIte, tmod_nat, tdiv_nat, toNat48, mk_size, mk_app, Tryz.underlying9, Tryz.underlying5, List.length_singleton, List.length_cons, List.length_nil]; try simp [mk_app]) ⟨_, rfl⟩ ⟨_, rfl⟩⟩
  · have he := decP_end hj (by omega)
    simp -implicitDefEqProofs only [go_sem, bas, basL, Nat.reduceAdd, Nat.reduceSub, Nat.reduceMul, Nat.reduceLT, Nat.reduceLeDiff, Nat.reduceEqDiff, Nat.reduceBEq, Int.reduceLT, Int.reduceLE, Int.reduceToNat, Int.reduceAdd, Int.reduceSub, Int.reduceMul, Int.reduceNeg, Int.reduceEq, reduceCtorEq, eq_self, ne_eq, not_false_eq_true, if_true, reduceIte, tmod_nat, tdiv_nat, toNat48, mk_size, mk_app, he]
    repeat' (first | refine abs_seq ?_ | refine abs_block ?_ | refine abs_skip ?_ | refine abs_scope ?_ | refine abs_label ?_ | refine abs_exit ?_ | refine abs_ret ?_ | ((first | refine abs_region fun K hK => ?_ | refine abs_draw Tryz.ty.mixed (by kernel_rfl) fun K hK => ?_ | refine abs_if ?_ | show retQ _ _ _ _ _); simp -implicitDefEqProofs only [go_sem, bas, basL, Nat.reduceAdd, Nat.reduceSub, Nat.reduceMul, Nat.reduceLT, Nat.reduceLeDiff, Nat.reduceEqDiff, Nat.reduceBEq, Int.reduceLT, Int.reduceLE, Int.reduceToNat, Int.reduceAdd, Int.reduceSub, Int.reduceMul, Int.reduceNeg, Int.reduceEq, reduceCtorEq, eq_self, ne_eq, not_false_eq_true, if_true, reduceIte, tmod_nat, tdiv_nat, toNat48, mk_size, mk_app, he]) | ((first | (refine hK _ ?_; clear hK K) | show thenQ _ _ _ _ | show blockQ _ _ _ _ | show noGoQ _ _ _); simp only [noGoQ, thenQ, blockQ, if_true, Nat.reduceEqDiff, reduceIte]) | (intro hg; first | (exfalso; omega) | (exfalso; contradiction) | skip) | apply And.intro | (with_reducible rfl) | (clear hK; omega) | omega)
set_option maxRecDepth 100000 in
set_option maxHeartbeats 4000000 in
theorem decimal_ok (n : Int) (h : n.natAbs ≤ 99999) : CallsTo Tryz.prog 61 [i64 n] (.str (itoa n)) := by
  by_cases hn : n < 0
  · have e : itoa n = (ByteArray.mk #[45]) ++ itoa (n.natAbs : Int) := by
      refine d_ext ?_
      rw [d_itoa, itoa_minus n hn, d_app, d_itoa, itoa_head _ (by omega), Int.toNat_natCast]; rfl
    have e1 : -n = (n.natAbs : Int) := by omega
    have hd := decN_ok n.natAbs h
    have hs := itoa_size (n := (n.natAbs : Int)) (by omega)
    have h45 : (#[45] : Array UInt8).size = 1 := rfl
    rw [e]
    rw [← e1] at hd hs ⊢
    generalize itoa (-n) = d at *
    refine calls_abs Tryz.func61 Tryz.ntmps61 Tryz.results61 Tryz.call61 rfl (by simp) fun w0 S0 M0 => ?_
    repeat' (first | refine abs_seq ?_ | refine abs_block ?_ | refine abs_skip ?_ | refine abs_scope ?_ | refine abs_label ?_ | refine abs_exit ?_ | refine abs_ret ?_ | ((first | refine abs_region fun K hK => ?_ | refine abs_draw Tryz.ty.mixed (by kernel_rfl) fun K hK => ?_ | refine abs_if ?_ | show retQ _ _ _ _ _ | refine callK (hd) ?_); simp -implicitDefEqProofs only [go_sem, bas, basL, Nat.reduceAdd, Nat.reduceSub, Nat.reduceMul, Nat.reduceLT, Nat.reduceLeDiff, Nat.reduceEqDiff, Nat.reduceBEq, Int.reduceLT, Int.reduceLE, Int.reduceToNat, Int.reduceAdd, Int.reduceSub, Int.reduceMul, Int.reduceNeg, Int.reduceEq, reduceCtorEq, eq_self, ne_eq, not_false_eq_true, if_true, reduceIte, h45]) | ((first | (refine hK _ ?_; clear hK K) | show thenQ _ _ _ _ | show blockQ _ _ _ _ | show noGoQ _ _ _); simp only [noGoQ, thenQ, blockQ, if_true, Nat.reduceEqDiff, reduceIte]) | (intro hg; first | (exfalso; omega) | (exfalso; contradiction) | skip) | apply And.intro | (with_reducible rfl) | (clear hK; omega) | omega)
    all_goals skip
  · obtain ⟨m, rfl⟩ : ∃ m : Nat, n = m := ⟨n.toNat, by omega⟩
    exact decN_ok m (by omega)
end Go.Proofs.YtdbiiegohemahaaGreatDoor
set_option linter.unusedVariables false
set_option linter.unusedSimpArgs false
namespace Go.Proofs.YtdbiiegohemahaaGreatDoor
open Go.Ab Go.Sheet
attribute [local irreducible] Abs CallK CallR CallsTo IA
@[go_sem high] theorem e_idx_byte {P : Program} {t : TypeId} {s : ByteArray} {j : Nat} {k : D → Prop} : wIdxAny P t (.str s) (.int .i64 (j : Int)) k = (strTy P t = true ∧ j < s.size ∧ k (.int .u8 (byteAt s j))) := by
  apply propext
  show (strTy P t = true ∧ wInt (.int .i64 (j : Int)) fun _ n => 0 ≤ n ∧ ∃ hl : n.toNat < s.size, k (.int .u8 (s[n.toNat]'hl).toNat)) ↔ _
  simp only [wInt, Int.toNat_natCast]
  constructor
  · rintro ⟨h1, _, h2, h3⟩
    exact ⟨h1, h2, by rw [byteAt_eq h2]; exact h3⟩
  · rintro ⟨h1, h2, h3⟩
    exact ⟨h1, by omega, h2, by rw [byteAt_eq h2] at h3; exact h3⟩
theorem byteAt_bd (s : ByteArray) (k : Nat) : 0 ≤ byteAt s k ∧ byteAt s k < 256 := by
  unfold byteAt
  split
  · have := (s[k]).toNat_lt; omega
  · omega
abbrev endSp : ByteArray := ⟨#[101, 110, 100, 32]⟩
theorem last_eq (s : ByteArray) : endSp ++ itoa ((sealS s s.size).1 % 97 / 10) ++ itoa ((sealS s s.size).1 % 97 % 10) ++ ⟨#[10]⟩ = lastB s := by
  refine d_ext ?_
  rw [lastB_eq]
  unfold endL
  rw [d_app, d_app, d_app, d_app, d_join, List.map_cons, List.map_cons, List.map_nil, join_two, Go.Lib.join_one, d_app]
  simp only [List.append_assoc]
  rfl
set_option maxRecDepth 100000 in
set_option maxHeartbeats 4000000 in
theorem rend_ok (s : ByteArray) (hs : s.size ≤ 100000) : CallsTo Tryz.prog 62 [.str s] (.str (lastB s)) := by
  have hsd := seal_bd s
  have hbd := sealS_bd s s.size
  have z1 := itoa_one hsd.1; have z2 := itoa_one hsd.2
  have d1 := decimal_ok ((sealS s s.size).1 % 97 / 10) (by omega)
  have d2 := decimal_ok ((sealS s s.size).1 % 97 % 10) (by omega)
  have hE := last_eq s
  have h4 : (#[101, 110, 100, 32] : Array UInt8).size = 4 := rfl
  have h10 : (#[10] : Array UInt8).size = 1 := rfl
  refine calls_abs Tryz.func62 Tryz.ntmps62 Tryz.results62 Tryz.call62 rfl (by simp) fun w0 S0 M0 => ?_
  repeat' (first | refine abs_seq ?_ | refine abs_block ?_ | refine abs_skip ?_ | refine abs_scope ?_ | refine abs_label ?_ | refine abs_exit ?_ | refine abs_ret ?_ | ((first | refine abs_region fun K hK => ?_ | refine abs_draw Tryz.ty.mixed (by kernel_rfl) fun K hK => ?_ | refine abs_if ?_ | show retQ _ _ _ _ _); simp -implicitDefEqProofs only [go_sem, bas, basL, Nat.reduceAdd, Nat.reduceSub, Nat.reduceMul, Nat.reduceLT, Nat.reduceLeDiff, Nat.reduceEqDiff, Nat.reduceBEq, Int.reduceLT, Int.reduceLE, Int.reduceToNat, Int.reduceAdd, Int.reduceSub, Int.reduceMul, Int.reduceNeg, Int.reduceEq, reduceCtorEq, eq_self, ne_eq, not_false_eq_true, if_true, reduceIte, Tryz.underlying9]) | ((first | (refine hK _ ?_; clear hK K) | show thenQ _ _ _ _ | show blockQ _ _ _ _ | show noGoQ _ _ _); simp only [noGoQ, thenQ, blockQ, if_true, Nat.reduceEqDiff, reduceIte]) | (intro hg; first | (exfalso; omega) | (exfalso; contradiction) | skip) | apply And.intro | (with_reducible rfl) | (clear hK; omega) | omega)
  refine abs_loopN (ι := Nat) (fun j => [(0, .str s), (3, i64 (sealS s j).1), (4, i64 (sealS s j).2), (5, i64 j)]) (fun _ => []) (fun _ => []) (fun j => j ≤ s.size) (fun j => s.size - j) (fun _ _ => ⟨rfl, rfl⟩) 0 (Nat.zero_le _) (le_of rfl (by try simp -implicitDefEqProofs only [go_sem, bas, basL, Nat.reduceAdd, Nat.reduceSub, Nat.reduceMul, Nat.reduceLT, Nat.reduceLeDiff, Nat.reduceEqDiff, Nat.reduceBEq, Int.reduceLT, Int.reduceLE, Int.reduceToNat, Int.reduceAdd, Int.reduceSub, Int.reduceMul, Int.reduceNeg, Int.reduceEq, reduceCtorEq, eq_self, ne_eq, not_false_eq_true, if_true, reduceIte, Tryz.underlying9]; try simp [sealS]) ⟨_, rfl⟩ ⟨_, rfl⟩) (fun j hj => ?_)
  have hbj := sealS_bd s j
  by_cases hlt : j < s.size
  · have hby := byteAt_bd s j
    have e1 : Int.tmod (sealS s j).2 8 = (sealS s j).2 % 8 := Int.tmod_eq_emod_of_nonneg (by omega)
    have hc1 : (sealS s j).2 % 8 + 1 = 1 + (sealS s j).2 % 8 := by omega
    by_cases hd : 48 ≤ byteAt s j ∧ byteAt s j ≤ 57
    · have hm := mulB (a := byteAt s j - 48) (b := 1 + (sealS s j).2 % 8) (A := 9) (B := 8) (by omega) (by omega) (by omega) (by omega)
      have e5 : sealS s (j + 1) = ((sealS s j).1 + (byteAt s j - 48) * (1 + (sealS s j).2 % 8), (sealS s j).2 + 1) := by simp only [sealS]; rw [if_pos hd]
      simp -implicitDefEqProofs only [go_sem, bas, basL, Nat.reduceAdd, Nat.reduceSub, Nat.reduceMul, Nat.reduceLT, Nat.reduceLeDiff, Nat.reduceEqDiff, Nat.reduceBEq, Int.reduceLT, Int.reduceLE, Int.reduceToNat, Int.reduceAdd, Int.reduceSub, Int.reduceMul, Int.reduceNeg, Int.reduceEq, reduceCtorEq, eq_self, ne_eq, not_false_eq_true, if_true, reduceIte, Tryz.underlying9, e1, hc1]
      repeat' (first | refine abs_seq ?_ | refine abs_block ?_ | refine abs_skip ?_ | refine abs_scope ?_ | refine abs_label ?_ | refine abs_exit ?_ | refine abs_ret ?_ | ((first | refine abs_region fun K hK => ?_ | refine abs_draw Tryz.ty.mixed (by kernel_rfl) fun K hK => ?_ | refine abs_if ?_ | show retQ _ _ _ _ _); simp -implicitDefEqProofs only [go_sem, bas, basL, Nat.reduceAdd, Nat.reduceSub, Nat.reduceMul, Nat.reduceLT, Nat.reduceLeDiff, Nat.reduceEqDiff, Nat.reduceBEq, Int.reduceLT, Int.reduceLE, Int.reduceToNat, Int.reduceAdd, Int.reduceSub, Int.reduceMul, Int.reduceNeg, Int.reduceEq, reduceCtorEq, eq_self, ne_eq, not_false_eq_true, if_true, reduceIte, Tryz.underlying9, e1, hc1]) | ((first | (refine hK _ ?_; clear hK K) | show thenQ _ _ _ _ | show blockQ _ _ _ _ | show noGoQ _ _ _); simp only [noGoQ, thenQ, blockQ, if_true, Nat.reduceEqDiff, reduceIte]) | (intro hg; first | (exfalso; omega) | (exfalso; contradiction) | skip) | apply And.intro | (with_reducible rfl) | (clear hK; omega) | omega)
      exact ⟨j + 1, by omega, by omega, le_of rfl (by try simp -implicitDefEqProofs only [go_sem, bas, basL, Nat.reduceAdd, Nat.reduceSub, Nat.reduceMul, Nat.reduceLT, Nat.reduceLeDiff, Nat.reduceEqDiff, Nat.reduceBEq, Int.reduceLT, Int.reduceLE, Int.reduceToNat, Int.reduceAdd, Int.reduceSub, Int.reduceMul, Int.reduceNeg, Int.reduceEq, reduceCtorEq, eq_self, ne_eq, not_false_eq_true, if_true, reduceIte, Tryz.underlying9, e1, hc1]; try simp [e5]) ⟨_, rfl⟩ ⟨_, rfl⟩⟩
    · have e5 : sealS s (j + 1) = sealS s j := by simp only [sealS]; rw [if_neg hd]
      simp -implicitDefEqProofs only [go_sem, bas, basL, Nat.reduceAdd, Nat.reduceSub, Nat.reduceMul, Nat.reduceLT, Nat.reduceLeDiff, Nat.reduceEqDiff, Nat.reduceBEq, Int.reduceLT, Int.reduceLE, Int.reduceToNat, Int.reduceAdd, Int.reduceSub, Int.reduceMul, Int.reduceNeg, Int.reduceEq, reduceCtorEq, eq_self, ne_eq, not_false_eq_true, if_true, reduceIte, Tryz.underlying9, e1, hc1]
      repeat' (first | refine abs_seq ?_ | refine abs_block ?_ | refine abs_skip ?_ | refine abs_scope ?_ | refine abs_label ?_ | refine abs_exit ?_ | refine abs_ret ?_ | ((first | refine abs_region fun K hK => ?_ | refine abs_draw Tryz.ty.mixed (by kernel_rfl) fun K hK => ?_ | refine abs_if ?_ | show retQ _ _ _ _ _); simp -implicitDefEqProofs only [go_sem, bas, basL, Nat.reduceAdd, Nat.reduceSub, Nat.reduceMul, Nat.reduceLT, Nat.reduceLeDiff, Nat.reduceEqDiff, Nat.reduceBEq, Int.reduceLT, Int.reduceLE, Int.reduceToNat, Int.reduceAdd, Int.reduceSub, Int.reduceMul, Int.reduceNeg, Int.reduceEq, reduceCtorEq, eq_self, ne_eq, not_false_eq_true, if_true, reduceIte, Tryz.underlying9, e1, hc1]) | ((first | (refine hK _ ?_; clear hK K) | show thenQ _ _ _ _ | show blockQ _ _ _ _ | show noGoQ _ _ _); simp only [noGoQ, thenQ, blockQ, if_true, Nat.reduceEqDiff, reduceIte]) | (intro hg; first | (exfalso; omega) | (exfalso; contradiction) | skip) | apply And.intro | (with_reducible rfl) | (clear hK; omega) | omega)
      all_goals exact ⟨j + 1, by omega, by omega, le_of rfl (by try simp -implicitDefEqProofs only [go_sem, bas, basL, Nat.reduceAdd, Nat.reduceSub, Nat.reduceMul, Nat.reduceLT, Nat.reduceLeDiff, Nat.reduceEqDiff, Nat.reduceBEq, Int.reduceLT, Int.reduceLE, Int.reduceToNat, Int.reduceAdd, Int.reduceSub, Int.reduceMul, Int.reduceNeg, Int.reduceEq, reduceCtorEq, eq_self, ne_eq, not_false_eq_true, if_true, reduceIte, Tryz.underlying9, e1, hc1]; try simp [e5]) ⟨_, rfl⟩ ⟨_, rfl⟩⟩
  · obtain rfl : j = s.size := by omega
    have e2 : Int.tmod (sealS s s.size).1 97 = (sealS s s.size).1 % 97 := Int.tmod_eq_emod_of_nonneg (by omega)
    have e3 : Int.tmod ((sealS s s.size).1 % 97) 10 = (sealS s s.size).1 % 97 % 10 := Int.tmod_eq_emod_of_nonneg (by omega)
    have e4 : Int.tdiv ((sealS s s.size).1 % 97) 10 = (sealS s s.size).1 % 97 / 10 := Int.tdiv_eq_ediv_of_nonneg (by omega)
    simp -implicitDefEqProofs only [go_sem, bas, basL, Nat.reduceAdd, Nat.reduceSub, Nat.reduceMul, Nat.reduceLT, Nat.reduceLeDiff, Nat.reduceEqDiff, Nat.reduceBEq, Int.reduceLT, Int.reduceLE, Int.reduceToNat, Int.reduceAdd, Int.reduceSub, Int.reduceMul, Int.reduceNeg, Int.reduceEq, reduceCtorEq, eq_self, ne_eq, not_false_eq_true, if_true, reduceIte, e2, e3, e4, Tryz.underlying9, h4, h10]
    repeat' (first | refine abs_seq ?_ | refine abs_block ?_ | refine abs_skip ?_ | refine abs_scope ?_ | refine abs_label ?_ | refine abs_exit ?_ | refine abs_ret ?_ | ((first | refine abs_region fun K hK => ?_ | refine abs_draw Tryz.ty.mixed (by kernel_rfl) fun K hK => ?_ | refine abs_if ?_ | show retQ _ _ _ _ _ | refine callK (d1) ?_ | refine callK (d2) ?_); simp -implicitDefEqProofs only [go_sem, bas, basL, Nat.reduceAdd, Nat.reduceSub, Nat.reduceMul, Nat.reduceLT, Nat.reduceLeDiff, Nat.reduceEqDiff, Nat.reduceBEq, Int.reduceLT, Int.reduceLE, Int.reduceToNat, Int.reduceAdd, Int.reduceSub, Int.reduceMul, Int.reduceNeg, Int.reduceEq, reduceCtorEq, eq_self, ne_eq, not_false_eq_true, if_true, reduceIte, e2, e3, e4, Tryz.underlying9, h4, h10]) | ((first | (refine hK _ ?_; clear hK K) | show thenQ _ _ _ _ | show blockQ _ _ _ _ | show noGoQ _ _ _); simp only [noGoQ, thenQ, blockQ, if_true, Nat.reduceEqDiff, reduceIte]) | (intro hg; first | (exfalso; omega) | (exfalso; contradiction) | skip) | apply And.intro | (with_reducible rfl) | (clear hK; omega) | omega)
    all_goals first | exact congrArg D.str hE | skip
theorem join_snocB (ws : List ByteArray) (hne : ws ≠ []) (x : ByteArray) : joinB (ws ++ [x]) sp = joinB ws sp ++ sp ++ x := by
  refine d_ext ?_
  rw [d_app, d_app, d_join, d_join, List.map_append, List.map_cons, List.map_nil]
  have key : ∀ (l : List (List UInt8)) (y : List UInt8), l ≠ [] → Go.Lib.join (l ++ [y]) [32] = Go.Lib.join l [32] ++ [32] ++ y := by
    intro l y
    induction l with
    | nil => intro h; exact absurd rfl h
    | cons a l ih =>
      intro _
      cases l with
      | nil => rw [show [a] ++ [y] = [a, y] from rfl, join_two, Go.Lib.join_one, Go.Lib.join_one]
      | cons b l =>
        rw [show (a :: b :: l) ++ [y] = a :: b :: (l ++ [y]) from rfl, join_two, join_two, show b :: (l ++ [y]) = (b :: l) ++ [y] from rfl, ih (by simp)]
        simp [List.append_assoc]
  exact key _ _ (by simpa using hne)
/-- A line, as far as it is written. -/
def lineK (r : Rdg) (j : Nat) : ByteArray := joinB (wordsK r j) sp
theorem lineK_succ (r : Rdg) {j : Nat} (h : j < 7) : lineK r (j + 1) = lineK r j ++ ⟨#[32]⟩ ++ itoa (nth (numsR r) j) := by
  have hn : (numsR r).length = 7 := rfl
  have e : wordsK r (j + 1) = wordsK r j ++ [itoa (nth (numsR r) j)] := by
    unfold wordsK
    rw [List.take_succ_eq_append_getElem (by omega), List.map_append, ← List.append_assoc, nth_eq _ j (by omega)]; rfl
  unfold lineK
  rw [e, join_snocB _ (by simp [wordsK])]
theorem lineK_zero (r : Rdg) (hf : Fit r) : lineK r 0 = itoa r.day ++ ⟨#[32]⟩ ++ itoa r.min ++ ⟨#[32]⟩ ++ ⟨#[letterC r.clk]⟩ := by
  unfold lineK wordsK
  rw [letter_eq hf.c]
  rw [show ([itoa r.day, itoa r.min, ⟨#[letterC r.clk]⟩] ++ ((numsR r).take 0).map itoa) = [itoa r.day, itoa r.min] ++ [⟨#[letterC r.clk]⟩] from rfl, join_snocB _ (by simp), show [itoa r.day, itoa r.min] = [itoa r.day] ++ [itoa r.min] from rfl, join_snocB _ (by simp), join_self]
theorem lineK_size {r : Rdg} (hf : Fit r) : ∀ j, j ≤ 7 → (lineK r j).size ≤ 16 + 7 * j
  | 0, _ => by
    have h1 := itoa_size hf.d; have h2 := itoa_size hf.m
    rw [lineK_zero r hf, d_size]
    simp only [d_app, List.length_append]
    rw [d_size] at h1 h2
    have e1 : ([32] : List UInt8).length = 1 := rfl
    have e2 : ([letterC r.clk] : List UInt8).length = 1 := rfl
    omega
  | j + 1, h => by
    have ih := lineK_size hf j (by omega)
    have hn : (numsR r).length = 7 := rfl
    have h1 := itoa_size (hf.n (nth (numsR r) j) (by rw [nth_eq _ j (by omega)]; exact List.getElem_mem _))
    rw [lineK_succ r (by omega), d_size]
    simp only [d_app, List.length_append]
    rw [d_size] at h1 ih
    have e1 : ([32] : List UInt8).length = 1 := rfl
    omega
theorem letters_at {k : Int} (h : 1 ≤ k ∧ k ≤ 3) : (ByteArray.mk #[32, 114, 115, 101]).extract k.toNat (k + 1).toNat = ⟨#[letterC k]⟩ := by
  have : k = 1 ∨ k = 2 ∨ k = 3 := by omega
  rcases this with rfl | rfl | rfl <;> rfl
set_option maxRecDepth 100000 in
set_option maxHeartbeats 4000000 in
theorem rline_ok (r : Rdg) (hf : Fit r) : CallsTo Tryz.prog 30 [rdD r] (.str (lineB r)) := by
  have hc := hf.c
  have d1 := decimal_ok r.day hf.d
  have d2 := decimal_ok r.min hf.m
  have hx := letters_at hf.c
  have h0 := lineK_zero r hf
  have hz := lineK_size hf
  have s1 := itoa_size hf.d; have s2 := itoa_size hf.m
  have h32 : (#[32] : Array UInt8).size = 1 := rfl
  have h10 : (#[10] : Array UInt8).size = 1 := rfl
  have h4 : (#[32, 114, 115, 101] : Array UInt8).size = 4 := rfl
  have hls : (#[letterC r.clk] : Array UInt8).size = 1 := rfl
  have hlb : lineK r 7 ++ ⟨#[10]⟩ = lineB r := rfl
  generalize hdd : itoa r.day = sd at *
  generalize hmm : itoa r.min = sm at *
  refine calls_abs Tryz.func30 Tryz.ntmps30 Tryz.results30 Tryz.call30 rfl (by simp) fun w0 S0 M0 => ?_
  repeat' (first | refine abs_seq ?_ | refine abs_block ?_ | refine abs_skip ?_ | refine abs_scope ?_ | refine abs_label ?_ | refine abs_exit ?_ | refine abs_ret ?_ | ((first | refine abs_region fun K hK => ?_ | refine abs_draw Tryz.ty.mixed (by kernel_rfl) fun K hK => ?_ | refine abs_if ?_ | show retQ _ _ _ _ _ | refine callK (d1) ?_ | refine callK (d2) ?_); simp -implicitDefEqProofs only [go_sem, bas, basL, Nat.reduceAdd, Nat.reduceSub, Nat.reduceMul, Nat.reduceLT, Nat.reduceLeDiff, Nat.reduceEqDiff, Nat.reduceBEq, Int.reduceLT, Int.reduceLE, Int.reduceToNat, Int.reduceAdd, Int.reduceSub, Int.reduceMul, Int.reduceNeg, Int.reduceEq, reduceCtorEq, eq_self, ne_eq, not_false_eq_true, if_true, reduceIte, Tryz.underlying9, h32, h10, h4, hx, hls]) | ((first | (refine hK _ ?_; clear hK K) | show thenQ _ _ _ _ | show blockQ _ _ _ _ | show noGoQ _ _ _); simp only [noGoQ, thenQ, blockQ, if_true, Nat.reduceEqDiff, reduceIte]) | (intro hg; first | (exfalso; omega) | (exfalso; contradiction) | skip) | apply And.intro | (with_reducible rfl) | (clear hK; omega) | omega)
  refine abs_loopN (ι := Nat) (fun j => [(3, ints (numsR r)), (4, .str (lineK r j)), (5, i64 j)]) (fun _ => []) (fun _ => []) (fun j => j ≤ 7) (fun j => 7 - j) (fun _ _ => ⟨rfl, rfl⟩) 0 (Nat.zero_le _) (le_of rfl (by try simp -implicitDefEqProofs only [go_sem, bas, basL, Nat.reduceAdd, Nat.reduceSub, Nat.reduceMul, Nat.reduceLT, Nat.reduceLeDiff, Nat.reduceEqDiff, Nat.reduceBEq, Int.reduceLT, Int.reduceLE, Int.reduceToNat, Int.reduceAdd, Int.reduceSub, Int.reduceMul, Int.reduceNeg, Int.reduceEq, reduceCtorEq, eq_self, ne_eq, not_false_eq_true, if_true, reduceIte, Tryz.underlying9, h32, h10, h4, hx, hls]; try simp [h0, numsR]) ⟨_, rfl⟩ ⟨_, rfl⟩) (fun j hj => ?_)
  have hn : (numsR r).length = 7 := rfl
  have hzj := hz j hj
  by_cases hlt : j < 7
  · have hs := lineK_succ r hlt
    have hfn := hf.n (nth (numsR r) j) (by rw [nth_eq _ j (by omega)]; exact List.getElem_mem _)
    have d3 := decimal_ok _ hfn
    have s3 := itoa_size hfn
    simp -implicitDefEqProofs only [go_sem, bas, basL, Nat.reduceAdd, Nat.reduceSub, Nat.reduceMul, Nat.reduceLT, Nat.reduceLeDiff, Nat.reduceEqDiff, Nat.reduceBEq, Int.reduceLT, Int.reduceLE, Int.reduceToNat, Int.reduceAdd, Int.reduceSub, Int.reduceMul, Int.reduceNeg, Int.reduceEq, reduceCtorEq, eq_self, ne_eq, not_false_eq_true, if_true, reduceIte, Tryz.underlying9, h32, h10, h4, hx, hls]
    repeat' (first | refine abs_seq ?_ | refine abs_block ?_ | refine abs_skip ?_ | refine abs_scope ?_ | refine abs_label ?_ | refine abs_exit ?_ | refine abs_ret ?_ | ((first | refine abs_region fun K hK => ?_ | refine abs_draw Tryz.ty.mixed (by kernel_rfl) fun K hK => ?_ | refine abs_if ?_ | show retQ _ _ _ _ _ | refine callK (d3) ?_); simp -implicitDefEqProofs only [go_sem, bas, basL, Nat.reduceAdd, Nat.reduceSub, Nat.reduceMul, Nat.reduceLT, Nat.reduceLeDiff, Nat.reduceEqDiff, Nat.reduceBEq, Int.reduceLT, Int.reduceLE, Int.reduceToNat, Int.reduceAdd, Int.reduceSub, Int.reduceMul, Int.reduceNeg, Int.reduceEq, reduceCtorEq, eq_self, ne_eq, not_false_eq_true, if_true, reduceIte, Tryz.underlying9, h32, h10, h4, hx, hls]) | ((first | (refine hK _ ?_; clear hK K) | show thenQ _ _ _ _ | show blockQ _ _ _ _ | show noGoQ _ _ _); simp only [noGoQ, thenQ, blockQ, if_true, Nat.reduceEqDiff, reduceIte]) | (intro hg; first | (exfalso; omega) | (exfalso; contradiction) | skip) | apply And.intro | (with_reducible rfl) | (clear hK; omega) | omega)
    exact ⟨j + 1, by omega, by omega, le_of rfl (by try simp -implicitDefEqProofs only [go_sem, bas, basL, Nat.reduceAdd, Nat.reduceSub, Nat.reduceMul, Nat.reduceLT, Nat.reduceLeDiff, Nat.reduceEqDiff, Nat.reduceBEq, Int.reduceLT, Int.reduceLE, Int.reduceToNat, Int.reduceAdd, Int.reduceSub, Int.reduceMul, Int.reduceNeg, Int.reduceEq, reduceCtorEq, eq_self, ne_eq, not_false_eq_true, if_true, reduceIte, Tryz.underlying9, h32, h10, h4, hx, hls]; try simp [hs]) ⟨_, rfl⟩ ⟨_, rfl⟩⟩
  · obtain rfl : j = 7 := by omega
    simp -implicitDefEqProofs only [go_sem, bas, basL, Nat.reduceAdd, Nat.reduceSub, Nat.reduceMul, Nat.reduceLT, Nat.reduceLeDiff, Nat.reduceEqDiff, Nat.reduceBEq, Int.reduceLT, Int.reduceLE, Int.reduceToNat, Int.reduceAdd, Int.reduceSub, Int.reduceMul, Int.reduceNeg, Int.reduceEq, reduceCtorEq, eq_self, ne_eq, not_false_eq_true, if_true, reduceIte, Tryz.underlying9, h32, h10, h4, hx, hls]
    repeat' (first | refine abs_seq ?_ | refine abs_block ?_ | refine abs_skip ?_ | refine abs_scope ?_ | refine abs_label ?_ | refine abs_exit ?_ | refine abs_ret ?_ | ((first | refine abs_region fun K hK => ?_ | refine abs_draw Tryz.ty.mixed (by kernel_rfl) fun K hK => ?_ | refine abs_if ?_ | show retQ _ _ _ _ _); simp -implicitDefEqProofs only [go_sem, bas, basL, Nat.reduceAdd, Nat.reduceSub, Nat.reduceMul, Nat.reduceLT, Nat.reduceLeDiff, Nat.reduceEqDiff, Nat.reduceBEq, Int.reduceLT, Int.reduceLE, Int.reduceToNat, Int.reduceAdd, Int.reduceSub, Int.reduceMul, Int.reduceNeg, Int.reduceEq, reduceCtorEq, eq_self, ne_eq, not_false_eq_true, if_true, reduceIte, Tryz.underlying9, h32, h10, h4, hx, hls]) | ((first | (refine hK _ ?_; clear hK K) | show thenQ _ _ _ _ | show blockQ _ _ _ _ | show noGoQ _ _ _); simp only [noGoQ, thenQ, blockQ, if_true, Nat.reduceEqDiff, reduceIte]) | (intro hg; first | (exfalso; omega) | (exfalso; contradiction) | skip) | apply And.intro | (with_reducible rfl) | (clear hK; omega) | omega)
    all_goals first | exact congrArg D.str hlb | skip
end Go.Proofs.YtdbiiegohemahaaGreatDoor
set_option linter.unusedVariables false
set_option linter.unusedSimpArgs false
namespace Go.Proofs.YtdbiiegohemahaaGreatDoor
open Go.Ab Go.Sheet
attribute [local irreducible] Abs CallK CallR CallsTo IA
set_option maxRecDepth 100000 in
set_option maxHeartbeats 4000000 in
theorem sealed_ok (s : ByteArray) (hs : s.size ≤ 100000) : CallsTo Tryz.prog 31 [.str s] (.str (s ++ lastB s)) := by
  have h := rend_ok s hs
  have h7 := lastB_size s
  refine calls_abs Tryz.func31 Tryz.ntmps31 Tryz.results31 Tryz.call31 rfl (by simp) fun w0 S0 M0 => ?_
  repeat' (first | refine abs_seq ?_ | refine abs_block ?_ | refine abs_skip ?_ | refine abs_scope ?_ | refine abs_label ?_ | refine abs_exit ?_ | refine abs_ret ?_ | ((first | refine abs_region fun K hK => ?_ | refine abs_draw Tryz.ty.mixed (by kernel_rfl) fun K hK => ?_ | refine abs_if ?_ | show retQ _ _ _ _ _ | refine callK (h) ?_); simp -implicitDefEqProofs only [go_sem, bas, basL, Nat.reduceAdd, Nat.reduceSub, Nat.reduceMul, Nat.reduceLT, Nat.reduceLeDiff, Nat.reduceEqDiff, Nat.reduceBEq, Int.reduceLT, Int.reduceLE, Int.reduceToNat, Int.reduceAdd, Int.reduceSub, Int.reduceMul, Int.reduceNeg, Int.reduceEq, reduceCtorEq, eq_self, ne_eq, not_false_eq_true, if_true, reduceIte, Tryz.underlying9]) | ((first | (refine hK _ ?_; clear hK K) | show thenQ _ _ _ _ | show blockQ _ _ _ _ | show noGoQ _ _ _); simp only [noGoQ, thenQ, blockQ, if_true, Nat.reduceEqDiff, reduceIte]) | (intro hg; first | (exfalso; omega) | (exfalso; contradiction) | skip) | apply And.intro | (with_reducible rfl) | (clear hK; omega) | omega)
set_option maxRecDepth 100000 in
set_option maxHeartbeats 4000000 in
theorem rprint_ok (l : List Rdg) (hf : ∀ i, i < l.length → Fit (nth l i)) (hl : l.length ≤ 30) : CallsTo Tryz.prog 10 [.list (l.map rdD)] (.str (sheetB l)) := by
  have hob := outB_size l hf
  have hend := sealed_ok (outB l l.length) (by have := hob l.length (Nat.le_refl _); omega)
  refine calls_abs Tryz.func10 Tryz.ntmps10 Tryz.results10 Tryz.call10 rfl (by simp) fun w0 S0 M0 => ?_
  repeat' (first | refine abs_seq ?_ | refine abs_block ?_ | refine abs_skip ?_ | refine abs_scope ?_ | refine abs_label ?_ | refine abs_exit ?_ | refine abs_ret ?_ | ((first | refine abs_region fun K hK => ?_ | refine abs_draw Tryz.ty.mixed (by kernel_rfl) fun K hK => ?_ | refine abs_if ?_ | show retQ _ _ _ _ _); simp -implicitDefEqProofs only [go_sem, bas, basL, Nat.reduceAdd, Nat.reduceSub, Nat.reduceMul, Nat.reduceLT, Nat.reduceLeDiff, Nat.reduceEqDiff, Nat.reduceBEq, Int.reduceLT, Int.reduceLE, Int.reduceToNat, Int.reduceAdd, Int.reduceSub, Int.reduceMul, Int.reduceNeg, Int.reduceEq, reduceCtorEq, eq_self, ne_eq, not_false_eq_true, if_true, reduceIte, Tryz.underlying9]) | ((first | (refine hK _ ?_; clear hK K) | show thenQ _ _ _ _ | show blockQ _ _ _ _ | show noGoQ _ _ _); simp only [noGoQ, thenQ, blockQ, if_true, Nat.reduceEqDiff, reduceIte]) | (intro hg; first | (exfalso; omega) | (exfalso; contradiction) | skip) | apply And.intro | (with_reducible rfl) | (clear hK; omega) | omega)
  refine abs_loopN (ι := Nat) (fun j => [(0, .list (l.map rdD)), (3, .str (outB l j)), (4, i64 j)]) (fun _ => []) (fun _ => []) (fun j => j ≤ l.length) (fun j => l.length - j) (fun _ _ => ⟨rfl, rfl⟩) 0 (Nat.zero_le _) (le_of rfl (by try simp -implicitDefEqProofs only [go_sem, bas, basL, Nat.reduceAdd, Nat.reduceSub, Nat.reduceMul, Nat.reduceLT, Nat.reduceLeDiff, Nat.reduceEqDiff, Nat.reduceBEq, Int.reduceLT, Int.reduceLE, Int.reduceToNat, Int.reduceAdd, Int.reduceSub, Int.reduceMul, Int.reduceNeg, Int.reduceEq, reduceCtorEq, eq_self, ne_eq, not_false_eq_true, if_true, reduceIte, Tryz.underlying9]; try simp [outB]) ⟨_, rfl⟩ ⟨_, rfl⟩) (fun j hj => ?_)
  have hobj := hob j hj
  by_cases hlt : j < l.length
  · have hr := rline_ok (nth l j) (hf j hlt)
    have hz := lineB_size (hf j hlt)
    have hs : outB l (j + 1) = outB l j ++ lineB (nth l j) := rfl
    simp -implicitDefEqProofs only [go_sem, bas, basL, Nat.reduceAdd, Nat.reduceSub, Nat.reduceMul, Nat.reduceLT, Nat.reduceLeDiff, Nat.reduceEqDiff, Nat.reduceBEq, Int.reduceLT, Int.reduceLE, Int.reduceToNat, Int.reduceAdd, Int.reduceSub, Int.reduceMul, Int.reduceNeg, Int.reduceEq, reduceCtorEq, eq_self, ne_eq, not_false_eq_true, if_true, reduceIte, Tryz.underlying9]
    repeat' (first | refine abs_seq ?_ | refine abs_block ?_ | refine abs_skip ?_ | refine abs_scope ?_ | refine abs_label ?_ | refine abs_exit ?_ | refine abs_ret ?_ | ((first | refine abs_region fun K hK => ?_ | refine abs_draw Tryz.ty.mixed (by kernel_rfl) fun K hK => ?_ | refine abs_if ?_ | show retQ _ _ _ _ _ | refine callK (hr) ?_); simp -implicitDefEqProofs only [go_sem, bas, basL, Nat.reduceAdd, Nat.reduceSub, Nat.reduceMul, Nat.reduceLT, Nat.reduceLeDiff, Nat.reduceEqDiff, Nat.reduceBEq, Int.reduceLT, Int.reduceLE, Int.reduceToNat, Int.reduceAdd, Int.reduceSub, Int.reduceMul, Int.reduceNeg, Int.reduceEq, reduceCtorEq, eq_self, ne_eq, not_false_eq_true, if_true, reduceIte, Tryz.underlying9]) | ((first | (refine hK _ ?_; clear hK K) | show thenQ _ _ _ _ | show blockQ _ _ _ _ | show noGoQ _ _ _); simp only [noGoQ, thenQ, blockQ, if_true, Nat.reduceEqDiff, reduceIte]) | (intro hg; first | (exfalso; omega) | (exfalso; contradiction) | skip) | apply And.intro | (with_reducible rfl) | (clear hK; omega) | omega)
    exact ⟨j + 1, by omega, by omega, le_of rfl (by try simp -implicitDefEqProofs only [go_sem, bas, basL, Nat.reduceAdd, Nat.reduceSub, Nat.reduceMul, Nat.reduceLT, Nat.reduceLeDiff, Nat.reduceEqDiff, Nat.reduceBEq, Int.reduceLT, Int.reduceLE, Int.reduceToNat, Int.reduceAdd, Int.reduceSub, Int.reduceMul, Int.reduceNeg, Int.reduceEq, reduceCtorEq, eq_self, ne_eq, not_false_eq_true, if_true, reduceIte, Tryz.underlying9]; try simp [hs]) ⟨_, rfl⟩ ⟨_, rfl⟩⟩
  · obtain rfl : j = l.length := by omega
    simp -implicitDefEqProofs only [go_sem, bas, basL, Nat.reduceAdd, Nat.reduceSub, Nat.reduceMul, Nat.reduceLT, Nat.reduceLeDiff, Nat.reduceEqDiff, Nat.reduceBEq, Int.reduceLT, Int.reduceLE, Int.reduceToNat, Int.reduceAdd, Int.reduceSub, Int.reduceMul, Int.reduceNeg, Int.reduceEq, reduceCtorEq, eq_self, ne_eq, not_false_eq_true, if_true, reduceIte, Tryz.underlying9]
    repeat' (first | refine abs_seq ?_ | refine abs_block ?_ | refine abs_skip ?_ | refine abs_scope ?_ | refine abs_label ?_ | refine abs_exit ?_ | refine abs_ret ?_ | ((first | refine abs_region fun K hK => ?_ | refine abs_draw Tryz.ty.mixed (by kernel_rfl) fun K hK => ?_ | refine abs_if ?_ | show retQ _ _ _ _ _ | refine callK (hend) ?_); simp -implicitDefEqProofs only [go_sem, bas, basL, Nat.reduceAdd, Nat.reduceSub, Nat.reduceMul, Nat.reduceLT, Nat.reduceLeDiff, Nat.reduceEqDiff, Nat.reduceBEq, Int.reduceLT, Int.reduceLE, Int.reduceToNat, Int.reduceAdd, Int.reduceSub, Int.reduceMul, Int.reduceNeg, Int.reduceEq, reduceCtorEq, eq_self, ne_eq, not_false_eq_true, if_true, reduceIte, Tryz.underlying9]) | ((first | (refine hK _ ?_; clear hK K) | show thenQ _ _ _ _ | show blockQ _ _ _ _ | show noGoQ _ _ _); simp only [noGoQ, thenQ, blockQ, if_true, Nat.reduceEqDiff, reduceIte]) | (intro hg; first | (exfalso; omega) | (exfalso; contradiction) | skip) | apply And.intro | (with_reducible rfl) | (clear hK; omega) | omega)
    all_goals rfl
/-- All readings are as defined. -/
def ShOk (l : List Rdg) : Prop := ∀ i, i < l.length → RdOk (nth l i)
instance (l : List Rdg) : Decidable (ShOk l) := by unfold ShOk; infer_instance
theorem ShOk.fit {l : List Rdg} (h : ShOk l) : ∀ i, i < l.length → Fit (nth l i) := fun i hi => (h i hi).fit
set_option maxRecDepth 100000 in
set_option maxHeartbeats 4000000 in
theorem sheet_ok (l : List Rdg) (hl : l.length ≤ 9223372036854775807) : CallsTo Tryz.prog 8 [.list (l.map rdD)] (.bool (decide (ShOk l))) := by
  refine calls_abs Tryz.func8 Tryz.ntmps8 Tryz.results8 Tryz.call8 rfl (by simp) fun w0 S0 M0 => ?_
  repeat' (first | refine abs_seq ?_ | refine abs_block ?_ | refine abs_skip ?_ | refine abs_scope ?_ | refine abs_label ?_ | refine abs_exit ?_ | refine abs_ret ?_ | ((first | refine abs_region fun K hK => ?_ | refine abs_draw Tryz.ty.mixed (by kernel_rfl) fun K hK => ?_ | refine abs_if ?_ | show retQ _ _ _ _ _); simp -implicitDefEqProofs only [go_sem, bas, basL, Nat.reduceAdd, Nat.reduceSub, Nat.reduceMul, Nat.reduceLT, Nat.reduceLeDiff, Nat.reduceEqDiff, Nat.reduceBEq, Int.reduceLT, Int.reduceLE, Int.reduceToNat, Int.reduceAdd, Int.reduceSub, Int.reduceMul, Int.reduceNeg, Int.reduceEq, reduceCtorEq, eq_self, ne_eq, not_false_eq_true, if_true, reduceIte, Tryz.underlying9]) | ((first | (refine hK _ ?_; clear hK K) | show thenQ _ _ _ _ | show blockQ _ _ _ _ | show noGoQ _ _ _); simp only [noGoQ, thenQ, blockQ, if_true, Nat.reduceEqDiff, reduceIte]) | (intro hg; first | (exfalso; omega) | (exfalso; contradiction) | skip) | apply And.intro | (with_reducible rfl) | (clear hK; omega) | omega)
  refine abs_loopN (ι := Nat) (fun j => [(0, .list (l.map rdD)), (3, i64 j)]) (fun _ => []) (fun _ => []) (fun j => j ≤ l.length ∧ ∀ i, i < j → RdOk (nth l i)) (fun j => l.length - j) (fun _ _ => ⟨rfl, rfl⟩) 0 ⟨Nat.zero_le _, fun i h => absurd h (Nat.not_lt_zero i)⟩ (le_of rfl (by try simp -implicitDefEqProofs only [go_sem, bas, basL, Nat.reduceAdd, Nat.reduceSub, Nat.reduceMul, Nat.reduceLT, Nat.reduceLeDiff, Nat.reduceEqDiff, Nat.reduceBEq, Int.reduceLT, Int.reduceLE, Int.reduceToNat, Int.reduceAdd, Int.reduceSub, Int.reduceMul, Int.reduceNeg, Int.reduceEq, reduceCtorEq, eq_self, ne_eq, not_false_eq_true, if_true, reduceIte, Tryz.underlying9]; try simp) ⟨_, rfl⟩ ⟨_, rfl⟩) (fun j ⟨hj, hi⟩ => ?_)
  by_cases hlt : j < l.length
  · by_cases hr : RdOk (nth l j)
    · have d1 : CallsTo Tryz.prog 27 [rdD (nth l j)] (.bool true) := decide_eq_true hr ▸ reading_ok (nth l j)
      simp -implicitDefEqProofs only [go_sem, bas, basL, Nat.reduceAdd, Nat.reduceSub, Nat.reduceMul, Nat.reduceLT, Nat.reduceLeDiff, Nat.reduceEqDiff, Nat.reduceBEq, Int.reduceLT, Int.reduceLE, Int.reduceToNat, Int.reduceAdd, Int.reduceSub, Int.reduceMul, Int.reduceNeg, Int.reduceEq, reduceCtorEq, eq_self, ne_eq, not_false_eq_true, if_true, reduceIte, Tryz.underlying9]
      repeat' (first | refine abs_seq ?_ | refine abs_block ?_ | refine abs_skip ?_ | refine abs_scope ?_ | refine abs_label ?_ | refine abs_exit ?_ | refine abs_ret ?_ | ((first | refine abs_region fun K hK => ?_ | refine abs_draw Tryz.ty.mixed (by kernel_rfl) fun K hK => ?_ | refine abs_if ?_ | show retQ _ _ _ _ _ | refine callK (d1) ?_); simp -implicitDefEqProofs only [go_sem, bas, basL, Nat.reduceAdd, Nat.reduceSub, Nat.reduceMul, Nat.reduceLT, Nat.reduceLeDiff, Nat.reduceEqDiff, Nat.reduceBEq, Int.reduceLT, Int.reduceLE, Int.reduceToNat, Int.reduceAdd, Int.reduceSub, Int.reduceMul, Int.reduceNeg, Int.reduceEq, reduceCtorEq, eq_self, ne_eq, not_false_eq_true, if_true, reduceIte, Tryz.underlying9]) | ((first | (refine hK _ ?_; clear hK K) | show thenQ _ _ _ _ | show blockQ _ _ _ _ | show noGoQ _ _ _); simp only [noGoQ, thenQ, blockQ, if_true, Nat.reduceEqDiff, reduceIte]) | (intro hg; first | (exfalso; omega) | (exfalso; contradiction) | skip) | apply And.intro | (with_reducible rfl) | (clear hK; omega) | omega)
      refine ⟨j + 1, ⟨by omega, fun i h1 => ?_⟩, by omega, le_of rfl (by try simp -implicitDefEqProofs only [go_sem, bas, basL, Nat.reduceAdd, Nat.reduceSub, Nat.reduceMul, Nat.reduceLT, Nat.reduceLeDiff, Nat.reduceEqDiff, Nat.reduceBEq, Int.reduceLT, Int.reduceLE, Int.reduceToNat, Int.reduceAdd, Int.reduceSub, Int.reduceMul, Int.reduceNeg, Int.reduceEq, reduceCtorEq, eq_self, ne_eq, not_false_eq_true, if_true, reduceIte, Tryz.underlying9]; try simp) ⟨_, rfl⟩ ⟨_, rfl⟩⟩
      rcases Nat.lt_or_eq_of_le (Nat.le_of_lt_succ h1) with h | h
      · exact hi i h
      · rw [h]; exact hr
    · have d1 : CallsTo Tryz.prog 27 [rdD (nth l j)] (.bool false) := decide_eq_false hr ▸ reading_ok (nth l j)
      rw [decide_eq_false (fun h : ShOk l => hr (h j hlt))]
      simp -implicitDefEqProofs only [go_sem, bas, basL, Nat.reduceAdd, Nat.reduceSub, Nat.reduceMul, Nat.reduceLT, Nat.reduceLeDiff, Nat.reduceEqDiff, Nat.reduceBEq, Int.reduceLT, Int.reduceLE, Int.reduceToNat, Int.reduceAdd, Int.reduceSub, Int.reduceMul, Int.reduceNeg, Int.reduceEq, reduceCtorEq, eq_self, ne_eq, not_false_eq_true, if_true, reduceIte, Tryz.underlying9]
      repeat' (first | refine abs_seq ?_ | refine abs_block ?_ | refine abs_skip ?_ | refine abs_scope ?_ | refine abs_label ?_ | refine abs_exit ?_ | refine abs_ret ?_ | ((first | refine abs_region fun K hK => ?_ | refine abs_draw Tryz.ty.mixed (by kernel_rfl) fun K hK => ?_ | refine abs_if ?_ | show retQ _ _ _ _ _ | refine callK (d1) ?_); simp -implicitDefEqProofs only [go_sem, bas, basL, Nat.reduceAdd, Nat.reduceSub, Nat.reduceMul, Nat.reduceLT, Nat.reduceLeDiff, Nat.reduceEqDiff, Nat.reduceBEq, Int.reduceLT, Int.reduceLE, Int.reduceToNat, Int.reduceAdd, Int.reduceSub, Int.reduceMul, Int.reduceNeg, Int.reduceEq, reduceCtorEq, eq_self, ne_eq, not_false_eq_true, if_true, reduceIte, Tryz.underlying9]) | ((first | (refine hK _ ?_; clear hK K) | show thenQ _ _ _ _ | show blockQ _ _ _ _ | show noGoQ _ _ _); simp only [noGoQ, thenQ, blockQ, if_true, Nat.reduceEqDiff, reduceIte]) | (intro hg; first | (exfalso; omega) | (exfalso; contradiction) | skip) | apply And.intro | (with_reducible rfl) | (clear hK; omega) | omega)
  · obtain rfl : j = l.length := by omega
    rw [decide_eq_true (show ShOk l from hi)]
    simp -implicitDefEqProofs only [go_sem, bas, basL, Nat.reduceAdd, Nat.reduceSub, Nat.reduceMul, Nat.reduceLT, Nat.reduceLeDiff, Nat.reduceEqDiff, Nat.reduceBEq, Int.reduceLT, Int.reduceLE, Int.reduceToNat, Int.reduceAdd, Int.reduceSub, Int.reduceMul, Int.reduceNeg, Int.reduceEq, reduceCtorEq, eq_self, ne_eq, not_false_eq_true, if_true, reduceIte, Tryz.underlying9]
    repeat' (first | refine abs_seq ?_ | refine abs_block ?_ | refine abs_skip ?_ | refine abs_scope ?_ | refine abs_label ?_ | refine abs_exit ?_ | refine abs_ret ?_ | ((first | refine abs_region fun K hK => ?_ | refine abs_draw Tryz.ty.mixed (by kernel_rfl) fun K hK => ?_ | refine abs_if ?_ | show retQ _ _ _ _ _); simp -implicitDefEqProofs only [go_sem, bas, basL, Nat.reduceAdd, Nat.reduceSub, Nat.reduceMul, Nat.reduceLT, Nat.reduceLeDiff, Nat.reduceEqDiff, Nat.reduceBEq, Int.reduceLT, Int.reduceLE, Int.reduceToNat, Int.reduceAdd, Int.reduceSub, Int.reduceMul, Int.reduceNeg, Int.reduceEq, reduceCtorEq, eq_self, ne_eq, not_false_eq_true, if_true, reduceIte, Tryz.underlying9]) | ((first | (refine hK _ ?_; clear hK K) | show thenQ _ _ _ _ | show blockQ _ _ _ _ | show noGoQ _ _ _); simp only [noGoQ, thenQ, blockQ, if_true, Nat.reduceEqDiff, reduceIte]) | (intro hg; first | (exfalso; omega) | (exfalso; contradiction) | skip) | apply And.intro | (with_reducible rfl) | (clear hK; omega) | omega)
set_option maxRecDepth 100000 in
set_option maxHeartbeats 4000000 in
theorem eq53 : EqInts Tryz.prog 53 10 := eq_struct2 (by kernel_rfl) (fsB_ok _ _ (by kernel_rfl)) (by kernel_rfl) (by kernel_rfl)
set_option maxRecDepth 100000 in
set_option maxHeartbeats 4000000 in
theorem sameR_ok (l : List Rdg) (hl : l.length ≤ 1000) : CallsTo Tryz.prog 11 [.list (l.map rdD), .list (l.map rdD)] (.bool true) := by
  refine calls_abs Tryz.func11 Tryz.ntmps11 Tryz.results11 Tryz.call11 rfl (by simp) fun w0 S0 M0 => ?_
  repeat' (first | refine abs_seq ?_ | refine abs_block ?_ | refine abs_skip ?_ | refine abs_scope ?_ | refine abs_label ?_ | refine abs_exit ?_ | refine abs_ret ?_ | ((first | refine abs_region fun K hK => ?_ | refine abs_draw Tryz.ty.mixed (by kernel_rfl) fun K hK => ?_ | refine abs_if ?_ | show retQ _ _ _ _ _); simp -implicitDefEqProofs only [go_sem, bas, basL, Nat.reduceAdd, Nat.reduceSub, Nat.reduceMul, Nat.reduceLT, Nat.reduceLeDiff, Nat.reduceEqDiff, Nat.reduceBEq, Int.reduceLT, Int.reduceLE, Int.reduceToNat, Int.reduceAdd, Int.reduceSub, Int.reduceMul, Int.reduceNeg, Int.reduceEq, reduceCtorEq, eq_self, ne_eq, not_false_eq_true, if_true, reduceIte, Tryz.underlying9, eq53, beq_self_eq_true]) | ((first | (refine hK _ ?_; clear hK K) | show thenQ _ _ _ _ | show blockQ _ _ _ _ | show noGoQ _ _ _); simp only [noGoQ, thenQ, blockQ, if_true, Nat.reduceEqDiff, reduceIte]) | (intro hg; first | (exfalso; omega) | (exfalso; contradiction) | skip) | apply And.intro | (with_reducible rfl) | (clear hK; omega) | omega)
  refine abs_loopN (ι := Nat) (fun j => [(0, .list (l.map rdD)), (1, .list (l.map rdD)), (5, i64 j)]) (fun _ => []) (fun _ => []) (fun j => j ≤ l.length) (fun j => l.length - j) (fun _ _ => ⟨rfl, rfl⟩) 0 (Nat.zero_le _) (le_of rfl (by try simp -implicitDefEqProofs only [go_sem, bas, basL, Nat.reduceAdd, Nat.reduceSub, Nat.reduceMul, Nat.reduceLT, Nat.reduceLeDiff, Nat.reduceEqDiff, Nat.reduceBEq, Int.reduceLT, Int.reduceLE, Int.reduceToNat, Int.reduceAdd, Int.reduceSub, Int.reduceMul, Int.reduceNeg, Int.reduceEq, reduceCtorEq, eq_self, ne_eq, not_false_eq_true, if_true, reduceIte, Tryz.underlying9, eq53, beq_self_eq_true]; try simp) ⟨_, rfl⟩ ⟨_, rfl⟩) (fun j hj => ?_)
  by_cases hlt : j < l.length
  · simp -implicitDefEqProofs only [go_sem, bas, basL, Nat.reduceAdd, Nat.reduceSub, Nat.reduceMul, Nat.reduceLT, Nat.reduceLeDiff, Nat.reduceEqDiff, Nat.reduceBEq, Int.reduceLT, Int.reduceLE, Int.reduceToNat, Int.reduceAdd, Int.reduceSub, Int.reduceMul, Int.reduceNeg, Int.reduceEq, reduceCtorEq, eq_self, ne_eq, not_false_eq_true, if_true, reduceIte, Tryz.underlying9, eq53, beq_self_eq_true]
    repeat' (first | refine abs_seq ?_ | refine abs_block ?_ | refine abs_skip ?_ | refine abs_scope ?_ | refine abs_label ?_ | refine abs_exit ?_ | refine abs_ret ?_ | ((first | refine abs_region fun K hK => ?_ | refine abs_draw Tryz.ty.mixed (by kernel_rfl) fun K hK => ?_ | refine abs_if ?_ | show retQ _ _ _ _ _); simp -implicitDefEqProofs only [go_sem, bas, basL, Nat.reduceAdd, Nat.reduceSub, Nat.reduceMul, Nat.reduceLT, Nat.reduceLeDiff, Nat.reduceEqDiff, Nat.reduceBEq, Int.reduceLT, Int.reduceLE, Int.reduceToNat, Int.reduceAdd, Int.reduceSub, Int.reduceMul, Int.reduceNeg, Int.reduceEq, reduceCtorEq, eq_self, ne_eq, not_false_eq_true, if_true, reduceIte, Tryz.underlying9, eq53, beq_self_eq_true]) | ((first | (refine hK _ ?_; clear hK K) | show thenQ _ _ _ _ | show blockQ _ _ _ _ | show noGoQ _ _ _); simp only [noGoQ, thenQ, blockQ, if_true, Nat.reduceEqDiff, reduceIte]) | (intro hg; first | (exfalso; omega) | (exfalso; contradiction) | skip) | apply And.intro | (with_reducible rfl) | (clear hK; omega) | omega)
    exact ⟨j + 1, by omega, by omega, le_of rfl (by try simp -implicitDefEqProofs only [go_sem, bas, basL, Nat.reduceAdd, Nat.reduceSub, Nat.reduceMul, Nat.reduceLT, Nat.reduceLeDiff, Nat.reduceEqDiff, Nat.reduceBEq, Int.reduceLT, Int.reduceLE, Int.reduceToNat, Int.reduceAdd, Int.reduceSub, Int.reduceMul, Int.reduceNeg, Int.reduceEq, reduceCtorEq, eq_self, ne_eq, not_false_eq_true, if_true, reduceIte, Tryz.underlying9, eq53, beq_self_eq_true]; try simp) ⟨_, rfl⟩ ⟨_, rfl⟩⟩
  · simp -implicitDefEqProofs only [go_sem, bas, basL, Nat.reduceAdd, Nat.reduceSub, Nat.reduceMul, Nat.reduceLT, Nat.reduceLeDiff, Nat.reduceEqDiff, Nat.reduceBEq, Int.reduceLT, Int.reduceLE, Int.reduceToNat, Int.reduceAdd, Int.reduceSub, Int.reduceMul, Int.reduceNeg, Int.reduceEq, reduceCtorEq, eq_self, ne_eq, not_false_eq_true, if_true, reduceIte, Tryz.underlying9, eq53, beq_self_eq_true]
    repeat' (first | refine abs_seq ?_ | refine abs_block ?_ | refine abs_skip ?_ | refine abs_scope ?_ | refine abs_label ?_ | refine abs_exit ?_ | refine abs_ret ?_ | ((first | refine abs_region fun K hK => ?_ | refine abs_draw Tryz.ty.mixed (by kernel_rfl) fun K hK => ?_ | refine abs_if ?_ | show retQ _ _ _ _ _); simp -implicitDefEqProofs only [go_sem, bas, basL, Nat.reduceAdd, Nat.reduceSub, Nat.reduceMul, Nat.reduceLT, Nat.reduceLeDiff, Nat.reduceEqDiff, Nat.reduceBEq, Int.reduceLT, Int.reduceLE, Int.reduceToNat, Int.reduceAdd, Int.reduceSub, Int.reduceMul, Int.reduceNeg, Int.reduceEq, reduceCtorEq, eq_self, ne_eq, not_false_eq_true, if_true, reduceIte, Tryz.underlying9, eq53, beq_self_eq_true]) | ((first | (refine hK _ ?_; clear hK K) | show thenQ _ _ _ _ | show blockQ _ _ _ _ | show noGoQ _ _ _); simp only [noGoQ, thenQ, blockQ, if_true, Nat.reduceEqDiff, reduceIte]) | (intro hg; first | (exfalso; omega) | (exfalso; contradiction) | skip) | apply And.intro | (with_reducible rfl) | (clear hK; omega) | omega)
/-- The error of readings. -/
def fmE (l : List Rdg) : Int := if 20 < l.length then 3 else if ShOk l then 0 else 2
set_option maxRecDepth 100000 in
set_option maxHeartbeats 4000000 in
theorem formedE_ok (l : List Rdg) (hl : l.length ≤ 9223372036854775807) : CallsTo Tryz.prog 24 [.list (l.map rdD)] (i64 (fmE l)) := by
  by_cases h20 : 20 < l.length
  · rw [show fmE l = 3 from if_pos h20]
    refine calls_abs Tryz.func24 Tryz.ntmps24 Tryz.results24 Tryz.call24 rfl (by simp) fun w0 S0 M0 => ?_
    repeat' (first | refine abs_seq ?_ | refine abs_block ?_ | refine abs_skip ?_ | refine abs_scope ?_ | refine abs_label ?_ | refine abs_exit ?_ | refine abs_ret ?_ | ((first | refine abs_region fun K hK => ?_ | refine abs_draw Tryz.ty.mixed (by kernel_rfl) fun K hK => ?_ | refine abs_if ?_ | show retQ _ _ _ _ _); simp -implicitDefEqProofs only [go_sem, bas, basL, Nat.reduceAdd, Nat.reduceSub, Nat.reduceMul, Nat.reduceLT, Nat.reduceLeDiff, Nat.reduceEqDiff, Nat.reduceBEq, Int.reduceLT, Int.reduceLE, Int.reduceToNat, Int.reduceAdd, Int.reduceSub, Int.reduceMul, Int.reduceNeg, Int.reduceEq, reduceCtorEq, eq_self, ne_eq, not_false_eq_true, if_true, reduceIte, Tryz.underlying9]) | ((first | (refine hK _ ?_; clear hK K) | show thenQ _ _ _ _ | show blockQ _ _ _ _ | show noGoQ _ _ _); simp only [noGoQ, thenQ, blockQ, if_true, Nat.reduceEqDiff, reduceIte]) | (intro hg; first | (exfalso; omega) | (exfalso; contradiction) | skip) | apply And.intro | (with_reducible rfl) | (clear hK; omega) | omega)
  · by_cases hs : ShOk l
    · rw [show fmE l = 0 by unfold fmE; rw [if_neg h20, if_pos hs]]
      exact formed_ok l (by omega) hs
    · rw [show fmE l = 2 by unfold fmE; rw [if_neg h20, if_neg hs]]
      refine calls_abs Tryz.func24 Tryz.ntmps24 Tryz.results24 Tryz.call24 rfl (by simp) fun w0 S0 M0 => ?_
      repeat' (first | refine abs_seq ?_ | refine abs_block ?_ | refine abs_skip ?_ | refine abs_scope ?_ | refine abs_label ?_ | refine abs_exit ?_ | refine abs_ret ?_ | ((first | refine abs_region fun K hK => ?_ | refine abs_draw Tryz.ty.mixed (by kernel_rfl) fun K hK => ?_ | refine abs_if ?_ | show retQ _ _ _ _ _); simp -implicitDefEqProofs only [go_sem, bas, basL, Nat.reduceAdd, Nat.reduceSub, Nat.reduceMul, Nat.reduceLT, Nat.reduceLeDiff, Nat.reduceEqDiff, Nat.reduceBEq, Int.reduceLT, Int.reduceLE, Int.reduceToNat, Int.reduceAdd, Int.reduceSub, Int.reduceMul, Int.reduceNeg, Int.reduceEq, reduceCtorEq, eq_self, ne_eq, not_false_eq_true, if_true, reduceIte, Tryz.underlying9]) | ((first | (refine hK _ ?_; clear hK K) | show thenQ _ _ _ _ | show blockQ _ _ _ _ | show noGoQ _ _ _); simp only [noGoQ, thenQ, blockQ, if_true, Nat.reduceEqDiff, reduceIte]) | (intro hg; first | (exfalso; omega) | (exfalso; contradiction) | skip) | apply And.intro | (with_reducible rfl) | (clear hK; omega) | omega)
      refine abs_loopN (ι := Nat) (fun j => [(8, .list (l.map rdD)), (9, i64 l.length), (10, i64 j)]) (fun _ => []) (fun _ => [])
        (fun j => j ≤ l.length ∧ ∀ i, i < j → RdOk (nth l i)) (fun j => l.length - j) (fun _ _ => ⟨rfl, rfl⟩) 0 ⟨Nat.zero_le _, fun i h => absurd h (Nat.not_lt_zero i)⟩ (le_of rfl (by try simp -implicitDefEqProofs only [go_sem, bas, basL, Nat.reduceAdd, Nat.reduceSub, Nat.reduceMul, Nat.reduceLT, Nat.reduceLeDiff, Nat.reduceEqDiff, Nat.reduceBEq, Int.reduceLT, Int.reduceLE, Int.reduceToNat, Int.reduceAdd, Int.reduceSub, Int.reduceMul, Int.reduceNeg, Int.reduceEq, reduceCtorEq, eq_self, ne_eq, not_false_eq_true, if_true, reduceIte, Tryz.underlying9]; try simp) ⟨_, rfl⟩ ⟨_, rfl⟩) (fun j ⟨hj, hi⟩ => ?_)
      by_cases hlt : j < l.length
      · by_cases hr : RdOk (nth l j)
        · have hv : CallsTo Tryz.prog 37 [rdD (nth l j)] (.bool true) := decide_eq_true hr ▸ greading_ok (nth l j)
          simp -implicitDefEqProofs only [go_sem, bas, basL, Nat.reduceAdd, Nat.reduceSub, Nat.reduceMul, Nat.reduceLT, Nat.reduceLeDiff, Nat.reduceEqDiff, Nat.reduceBEq, Int.reduceLT, Int.reduceLE, Int.reduceToNat, Int.reduceAdd, Int.reduceSub, Int.reduceMul, Int.reduceNeg, Int.reduceEq, reduceCtorEq, eq_self, ne_eq, not_false_eq_true, if_true, reduceIte, Tryz.underlying9]
          repeat' (first | refine abs_seq ?_ | refine abs_block ?_ | refine abs_skip ?_ | refine abs_scope ?_ | refine abs_label ?_ | refine abs_exit ?_ | refine abs_ret ?_ | ((first | refine abs_region fun K hK => ?_ | refine abs_draw Tryz.ty.mixed (by kernel_rfl) fun K hK => ?_ | refine abs_if ?_ | show retQ _ _ _ _ _ | refine callK (hv) ?_); simp -implicitDefEqProofs only [go_sem, bas, basL, Nat.reduceAdd, Nat.reduceSub, Nat.reduceMul, Nat.reduceLT, Nat.reduceLeDiff, Nat.reduceEqDiff, Nat.reduceBEq, Int.reduceLT, Int.reduceLE, Int.reduceToNat, Int.reduceAdd, Int.reduceSub, Int.reduceMul, Int.reduceNeg, Int.reduceEq, reduceCtorEq, eq_self, ne_eq, not_false_eq_true, if_true, reduceIte, Tryz.underlying9]) | ((first | (refine hK _ ?_; clear hK K) | show thenQ _ _ _ _ | show blockQ _ _ _ _ | show noGoQ _ _ _); simp only [noGoQ, thenQ, blockQ, if_true, Nat.reduceEqDiff, reduceIte]) | (intro hg; first | (exfalso; omega) | (exfalso; contradiction) | skip) | apply And.intro | (with_reducible rfl) | (clear hK; omega) | omega)
          refine ⟨j + 1, ⟨by omega, fun i h1 => ?_⟩, by omega, le_of rfl (by try simp -implicitDefEqProofs only [go_sem, bas, basL, Nat.reduceAdd, Nat.reduceSub, Nat.reduceMul, Nat.reduceLT, Nat.reduceLeDiff, Nat.reduceEqDiff, Nat.reduceBEq, Int.reduceLT, Int.reduceLE, Int.reduceToNat, Int.reduceAdd, Int.reduceSub, Int.reduceMul, Int.reduceNeg, Int.reduceEq, reduceCtorEq, eq_self, ne_eq, not_false_eq_true, if_true, reduceIte, Tryz.underlying9]; try simp) ⟨_, rfl⟩ ⟨_, rfl⟩⟩
          rcases Nat.lt_or_eq_of_le (Nat.le_of_lt_succ h1) with h | h
          · exact hi i h
          · rw [h]; exact hr
        · have hv : CallsTo Tryz.prog 37 [rdD (nth l j)] (.bool false) := decide_eq_false hr ▸ greading_ok (nth l j)
          simp -implicitDefEqProofs only [go_sem, bas, basL, Nat.reduceAdd, Nat.reduceSub, Nat.reduceMul, Nat.reduceLT, Nat.reduceLeDiff, Nat.reduceEqDiff, Nat.reduceBEq, Int.reduceLT, Int.reduceLE, Int.reduceToNat, Int.reduceAdd, Int.reduceSub, Int.reduceMul, Int.reduceNeg, Int.reduceEq, reduceCtorEq, eq_self, ne_eq, not_false_eq_true, if_true, reduceIte, Tryz.underlying9]
          repeat' (first | refine abs_seq ?_ | refine abs_block ?_ | refine abs_skip ?_ | refine abs_scope ?_ | refine abs_label ?_ | refine abs_exit ?_ | refine abs_ret ?_ | ((first | refine abs_region fun K hK => ?_ | refine abs_draw Tryz.ty.mixed (by kernel_rfl) fun K hK => ?_ | refine abs_if ?_ | show retQ _ _ _ _ _ | refine callK (hv) ?_); simp -implicitDefEqProofs only [go_sem, bas, basL, Nat.reduceAdd, Nat.reduceSub, Nat.reduceMul, Nat.reduceLT, Nat.reduceLeDiff, Nat.reduceEqDiff, Nat.reduceBEq, Int.reduceLT, Int.reduceLE, Int.reduceToNat, Int.reduceAdd, Int.reduceSub, Int.reduceMul, Int.reduceNeg, Int.reduceEq, reduceCtorEq, eq_self, ne_eq, not_false_eq_true, if_true, reduceIte, Tryz.underlying9]) | ((first | (refine hK _ ?_; clear hK K) | show thenQ _ _ _ _ | show blockQ _ _ _ _ | show noGoQ _ _ _); simp only [noGoQ, thenQ, blockQ, if_true, Nat.reduceEqDiff, reduceIte]) | (intro hg; first | (exfalso; omega) | (exfalso; contradiction) | skip) | apply And.intro | (with_reducible rfl) | (clear hK; omega) | omega)
      · obtain rfl : j = l.length := by omega
        exact absurd hi hs
theorem writ_ok {r : Rdg} (hr : RdOk r) : CallsTo Tryz.prog 25 [rdD r] (.str (lineB r)) := written_ok r hr (by have := line_len hr.fit; omega)
theorem gprint0 (l : List Rdg) (hl : l.length ≤ 20) (hr : ShOk l) : CallsTo Tryz.prog 7 [.list (l.map rdD)] (.tup [.str (sheetB l), i64 0]) :=
  print_ok l hl hr (fun i hi => writ_ok (hr i hi)) (fun j hj => by have := outB_size l hr.fit j hj; omega) (fun j hj => by have := lineB_size (hr.fit j hj); omega)
    (lastB (outB l l.length)) (last_out l hr.fit (by omega)) (by rw [lastB_size]; omega)
set_option maxRecDepth 100000 in
set_option maxHeartbeats 4000000 in
theorem gprintE (l : List Rdg) (hl : l.length ≤ 9223372036854775807) (h : fmE l ≠ 0) : CallsTo Tryz.prog 7 [.list (l.map rdD)] (.tup [.str ⟨#[]⟩, i64 (fmE l)]) := by
  have hv := formedE_ok l hl
  generalize fmE l = e at *
  refine calls_abs Tryz.func7 Tryz.ntmps7 Tryz.results7 Tryz.call7 rfl (by simp) fun w0 S0 M0 => ?_
  repeat' (first | refine abs_seq ?_ | refine abs_block ?_ | refine abs_skip ?_ | refine abs_scope ?_ | refine abs_label ?_ | refine abs_exit ?_ | refine abs_ret ?_ | ((first | refine abs_region fun K hK => ?_ | refine abs_draw Tryz.ty.mixed (by kernel_rfl) fun K hK => ?_ | refine abs_if ?_ | show retQ _ _ _ _ _ | refine callK (hv) ?_); simp -implicitDefEqProofs only [go_sem, bas, basL, Nat.reduceAdd, Nat.reduceSub, Nat.reduceMul, Nat.reduceLT, Nat.reduceLeDiff, Nat.reduceEqDiff, Nat.reduceBEq, Int.reduceLT, Int.reduceLE, Int.reduceToNat, Int.reduceAdd, Int.reduceSub, Int.reduceMul, Int.reduceNeg, Int.reduceEq, reduceCtorEq, eq_self, ne_eq, not_false_eq_true, if_true, reduceIte, Tryz.underlying9]) | ((first | (refine hK _ ?_; clear hK K) | show thenQ _ _ _ _ | show blockQ _ _ _ _ | show noGoQ _ _ _); simp only [noGoQ, thenQ, blockQ, if_true, Nat.reduceEqDiff, reduceIte]) | (intro hg; first | (exfalso; omega) | (exfalso; contradiction) | skip) | apply And.intro | (with_reducible rfl) | (clear hK; omega) | omega)
theorem fmE_zero {l : List Rdg} : fmE l = 0 ↔ l.length ≤ 20 ∧ ShOk l := by
  unfold fmE
  by_cases h : 20 < l.length
  · rw [if_pos h]; constructor
    · intro e; omega
    · intro e; omega
  · rw [if_neg h]
    by_cases hs : ShOk l
    · rw [if_pos hs]; exact ⟨fun _ => ⟨by omega, hs⟩, fun _ => rfl⟩
    · rw [if_neg hs]; exact ⟨fun e => by omega, fun e => absurd e.2 hs⟩
/-- What Print wrote is read. -/
theorem gread0 (l : List Rdg) (hl : l.length ≤ 20) (hr : ShOk l) : CallsTo Tryz.prog 9 [.str (sheetB l)] (.tup [.list (l.map rdD), i64 0]) :=
  gRead_ok (sheetB l) (by have := sheet_size hr.fit; omega) (l.map rdD) 0 rfl (readS_ok l hr.fit (by omega)) (formed_ok l hl hr)
set_option maxRecDepth 100000 in
set_option maxHeartbeats 4000000 in
theorem sheets_law (l : List Rdg) (hl : l.length ≤ 9223372036854775807) : CallsTo Tryz.prog 3 [.list (l.map rdD)] (.bool true) := by
  by_cases h24 : 24 < l.length
  · refine calls_abs Tryz.func3 Tryz.ntmps3 Tryz.results3 Tryz.call3 rfl (by simp) fun w0 S0 M0 => ?_
    repeat' (first | refine abs_seq ?_ | refine abs_block ?_ | refine abs_skip ?_ | refine abs_scope ?_ | refine abs_label ?_ | refine abs_exit ?_ | refine abs_ret ?_ | ((first | refine abs_region fun K hK => ?_ | refine abs_draw Tryz.ty.mixed (by kernel_rfl) fun K hK => ?_ | refine abs_if ?_ | show retQ _ _ _ _ _ | refine callK (known_ok) ?_); simp -implicitDefEqProofs only [go_sem, bas, basL, Nat.reduceAdd, Nat.reduceSub, Nat.reduceMul, Nat.reduceLT, Nat.reduceLeDiff, Nat.reduceEqDiff, Nat.reduceBEq, Int.reduceLT, Int.reduceLE, Int.reduceToNat, Int.reduceAdd, Int.reduceSub, Int.reduceMul, Int.reduceNeg, Int.reduceEq, reduceCtorEq, eq_self, ne_eq, not_false_eq_true, if_true, reduceIte, Tryz.underlying9]) | ((first | (refine hK _ ?_; clear hK K) | show thenQ _ _ _ _ | show blockQ _ _ _ _ | show noGoQ _ _ _); simp only [noGoQ, thenQ, blockQ, if_true, Nat.reduceEqDiff, reduceIte]) | (intro hg; first | (exfalso; omega) | (exfalso; contradiction) | skip) | apply And.intro | (with_reducible rfl) | (clear hK; omega) | omega)
  · have hsh := sheet_ok l hl
    by_cases h0 : fmE l = 0
    · obtain ⟨h20, hs⟩ := fmE_zero.1 h0
      rw [decide_eq_true hs] at hsh
      have p1 := gprint0 l h20 hs
      have p2 := gread0 l h20 hs
      have p3 := rprint_ok l hs.fit (by omega)
      have p4 := sameR_ok l (by omega)
      generalize sheetB l = t at *
      refine calls_abs Tryz.func3 Tryz.ntmps3 Tryz.results3 Tryz.call3 rfl (by simp) fun w0 S0 M0 => ?_
      repeat' (first | refine abs_seq ?_ | refine abs_block ?_ | refine abs_skip ?_ | refine abs_scope ?_ | refine abs_label ?_ | refine abs_exit ?_ | refine abs_ret ?_ | ((first | refine abs_region fun K hK => ?_ | refine abs_draw Tryz.ty.mixed (by kernel_rfl) fun K hK => ?_ | refine abs_if ?_ | show retQ _ _ _ _ _ | refine callK (hsh) ?_ | refine callK (p1) ?_ | refine callK (p2) ?_ | refine callK (p3) ?_ | refine callK (p4) ?_ | refine callK (known_ok) ?_); simp -implicitDefEqProofs only [go_sem, bas, basL, Nat.reduceAdd, Nat.reduceSub, Nat.reduceMul, Nat.reduceLT, Nat.reduceLeDiff, Nat.reduceEqDiff, Nat.reduceBEq, Int.reduceLT, Int.reduceLE, Int.reduceToNat, Int.reduceAdd, Int.reduceSub, Int.reduceMul, Int.reduceNeg, Int.reduceEq, reduceCtorEq, eq_self, ne_eq, not_false_eq_true, if_true, reduceIte, Tryz.underlying9, beq_self_eq_true]) | ((first | (refine hK _ ?_; clear hK K) | show thenQ _ _ _ _ | show blockQ _ _ _ _ | show noGoQ _ _ _); simp only [noGoQ, thenQ, blockQ, if_true, Nat.reduceEqDiff, reduceIte]) | (intro hg; first | (exfalso; omega) | (exfalso; contradiction) | skip) | apply And.intro | (with_reducible rfl) | (clear hK; omega) | omega)
    · have p1 := gprintE l hl h0
      by_cases h20 : 20 < l.length
      · rw [show fmE l = 3 from if_pos h20] at p1
        refine calls_abs Tryz.func3 Tryz.ntmps3 Tryz.results3 Tryz.call3 rfl (by simp) fun w0 S0 M0 => ?_
        repeat' (first | refine abs_seq ?_ | refine abs_block ?_ | refine abs_skip ?_ | refine abs_scope ?_ | refine abs_label ?_ | refine abs_exit ?_ | refine abs_ret ?_ | ((first | refine abs_region fun K hK => ?_ | refine abs_draw Tryz.ty.mixed (by kernel_rfl) fun K hK => ?_ | refine abs_if ?_ | show retQ _ _ _ _ _ | refine callK (p1) ?_ | refine callK (known_ok) ?_); simp -implicitDefEqProofs only [go_sem, bas, basL, Nat.reduceAdd, Nat.reduceSub, Nat.reduceMul, Nat.reduceLT, Nat.reduceLeDiff, Nat.reduceEqDiff, Nat.reduceBEq, Int.reduceLT, Int.reduceLE, Int.reduceToNat, Int.reduceAdd, Int.reduceSub, Int.reduceMul, Int.reduceNeg, Int.reduceEq, reduceCtorEq, eq_self, ne_eq, not_false_eq_true, if_true, reduceIte, Tryz.underlying9, beq_self_eq_true]) | ((first | (refine hK _ ?_; clear hK K) | show thenQ _ _ _ _ | show blockQ _ _ _ _ | show noGoQ _ _ _); simp only [noGoQ, thenQ, blockQ, if_true, Nat.reduceEqDiff, reduceIte]) | (intro hg; first | (exfalso; omega) | (exfalso; contradiction) | skip) | apply And.intro | (with_reducible rfl) | (clear hK; omega) | omega)
      · have hs : ¬ ShOk l := fun hs => h0 (fmE_zero.2 ⟨by omega, hs⟩)
        rw [decide_eq_false hs] at hsh
        rw [show fmE l = 2 by unfold fmE; rw [if_neg h20, if_neg hs]] at p1
        refine calls_abs Tryz.func3 Tryz.ntmps3 Tryz.results3 Tryz.call3 rfl (by simp) fun w0 S0 M0 => ?_
        repeat' (first | refine abs_seq ?_ | refine abs_block ?_ | refine abs_skip ?_ | refine abs_scope ?_ | refine abs_label ?_ | refine abs_exit ?_ | refine abs_ret ?_ | ((first | refine abs_region fun K hK => ?_ | refine abs_draw Tryz.ty.mixed (by kernel_rfl) fun K hK => ?_ | refine abs_if ?_ | show retQ _ _ _ _ _ | refine callK (p1) ?_ | refine callK (hsh) ?_ | refine callK (known_ok) ?_); simp -implicitDefEqProofs only [go_sem, bas, basL, Nat.reduceAdd, Nat.reduceSub, Nat.reduceMul, Nat.reduceLT, Nat.reduceLeDiff, Nat.reduceEqDiff, Nat.reduceBEq, Int.reduceLT, Int.reduceLE, Int.reduceToNat, Int.reduceAdd, Int.reduceSub, Int.reduceMul, Int.reduceNeg, Int.reduceEq, reduceCtorEq, eq_self, ne_eq, not_false_eq_true, if_true, reduceIte, Tryz.underlying9, beq_self_eq_true]) | ((first | (refine hK _ ?_; clear hK K) | show thenQ _ _ _ _ | show blockQ _ _ _ _ | show noGoQ _ _ _); simp only [noGoQ, thenQ, blockQ, if_true, Nat.reduceEqDiff, reduceIte]) | (intro hg; first | (exfalso; omega) | (exfalso; contradiction) | skip) | apply And.intro | (with_reducible rfl) | (clear hK; omega) | omega)
end Go.Proofs.YtdbiiegohemahaaGreatDoor
