import Derived.Test.YtdbiiegohemahaaGreatDoorT6
import Derived.Test.YtdbiiegohemahaaGreatDoorAbE
set_option linter.unusedVariables false
set_option linter.unusedSimpArgs false
namespace Go.Proofs.YtdbiiegohemahaaGreatDoor
open Go.Ab Go.Sheet
attribute [local irreducible] Abs CallK CallR CallsTo CallsE IA
set_option maxRecDepth 100000 in
set_option maxHeartbeats 4000000 in
theorem sure_t (w : ByteArray) : CallsE Tryz.prog 58 [.bool true, .str w] 72 (some (resD [])) := by
  refine callsE_abs Tryz.func58 Tryz.ntmps58 Tryz.results58 Tryz.call58 rfl (by simp) fun w0 S0 M0 => ?_
  repeat' (first | refine abs_seq ?_ | refine abs_block ?_ | refine abs_skip ?_ | refine abs_scope ?_ | refine abs_label ?_ | refine abs_exit ?_ | refine abs_ret ?_ | ((first | refine abs_region fun K hK => ?_ | refine abs_draw Tryz.ty.mixed (by kernel_rfl) fun K hK => ?_ | refine abs_if ?_ | show retQ _ _ _ _ _); simp -implicitDefEqProofs only [go_sem, bas, basL, Nat.reduceAdd, Nat.reduceSub, Nat.reduceMul, Nat.reduceLT, Nat.reduceLeDiff, Nat.reduceEqDiff, Nat.reduceBEq, Int.reduceLT, Int.reduceLE, Int.reduceToNat, Int.reduceAdd, Int.reduceSub, Int.reduceMul, Int.reduceNeg, Int.reduceEq, reduceCtorEq, eq_self, ne_eq, not_false_eq_true, if_true, reduceIte]) | ((first | (refine hK _ ?_; clear hK K) | show thenQ _ _ _ _ | show blockQ _ _ _ _ | show noGoQ _ _ _); simp only [noGoQ, thenQ, blockQ, if_true, Nat.reduceEqDiff, reduceIte]) | (refine ende_ret ?_) | (refine ende_normal ?_) | (intro hg; first | (exfalso; omega) | (exfalso; contradiction) | skip) | apply And.intro | (with_reducible rfl) | (clear hK; omega) | omega)
  all_goals rfl
def isStructB : Option TypeDesc → Bool
  | some (.struct _) => true
  | _ => false
theorem u72 : ∃ fs, Tryz.prog.underlying 72 = some (.struct fs) := by
  have h : isStructB (Tryz.prog.underlying 72) = true := by kernel_rfl
  generalize Tryz.prog.underlying 72 = u at h ⊢
  unfold isStructB at h
  split at h
  · exact ⟨_, rfl⟩
  · cases h
set_option maxRecDepth 100000 in
set_option maxHeartbeats 4000000 in
theorem sure_f (w : ByteArray) : CallsE Tryz.prog 58 [.bool false, .str w] 72 none := by
  refine callsE_abs Tryz.func58 Tryz.ntmps58 Tryz.results58 Tryz.call58 rfl (by simp) fun w0 S0 M0 => ?_
  refine abs_seq ?_
  refine abs_region fun K hK => ?_
  simp -implicitDefEqProofs only [go_sem, bas, basL, Nat.reduceAdd, Nat.reduceSub, Nat.reduceMul, Nat.reduceLT, Nat.reduceLeDiff, Nat.reduceEqDiff, Nat.reduceBEq, Int.reduceLT, Int.reduceLE, Int.reduceToNat, Int.reduceAdd, Int.reduceSub, Int.reduceMul, Int.reduceNeg, Int.reduceEq, reduceCtorEq, eq_self, ne_eq, not_false_eq_true, if_true, reduceIte]
  refine hK _ ?_; clear hK K; simp only [thenQ]
  refine abs_if ?_
  simp -implicitDefEqProofs only [go_sem, bas, basL, Nat.reduceAdd, Nat.reduceSub, Nat.reduceMul, Nat.reduceLT, Nat.reduceLeDiff, Nat.reduceEqDiff, Nat.reduceBEq, Int.reduceLT, Int.reduceLE, Int.reduceToNat, Int.reduceAdd, Int.reduceSub, Int.reduceMul, Int.reduceNeg, Int.reduceEq, reduceCtorEq, eq_self, ne_eq, not_false_eq_true, if_true, reduceIte]
  obtain ⟨fs, h72⟩ := u72
  refine abs_panic (x := w) 2 rfl h72 (fun K1 hK1 => ?_)
  simp -implicitDefEqProofs only [go_sem, bas, basL, Nat.reduceAdd, Nat.reduceSub, Nat.reduceMul, Nat.reduceLT, Nat.reduceLeDiff, Nat.reduceEqDiff, Nat.reduceBEq, Int.reduceLT, Int.reduceLE, Int.reduceToNat, Int.reduceAdd, Int.reduceSub, Int.reduceMul, Int.reduceNeg, Int.reduceEq, reduceCtorEq, eq_self, ne_eq, not_false_eq_true, if_true, reduceIte]
  exact hK1 _ rfl (by show 8 < 9; decide) (fun s2 => ende_panic)
/-- A number's text without its sign. -/
def numT (w : ByteArray) : List UInt8 := Go.Lib.trimPrefix w.data.toList [45]
instance (b : UInt8) : Decidable (isDig b) := by unfold isDig; infer_instance
/-- Is it a number? -/
def numB (w : ByteArray) : Bool := !(numT w).isEmpty && (numT w).all (fun b => decide (isDig b)) && decide ((numT w).length ≤ 5) && (Go.Lib.itoa (val (numT w)) == numT w) && (decide (0 < val (numT w)) || w.data.toList == numT w)
/-- The number that a text is, if it is one. -/
def numO (w : ByteArray) : Option Int := if numB w then some (if w.data.toList == numT w then (val (numT w) : Int) else -(val (numT w) : Int)) else none
theorem trim_gen (w : ByteArray) : CallsTo Tryz.prog 94 [.str w, .str ⟨#[45]⟩] (.str ⟨(numT w).toArray⟩) := trim_ok w ⟨#[45]⟩
theorem mk_get (d : List UInt8) {k : Nat} (hk : k < (ByteArray.mk d.toArray).size) : (ByteArray.mk d.toArray)[k]'hk = d[k]'(by rw [mk_size] at hk; exact hk) := rfl
def vK (d : List UInt8) (k : Nat) : Int := ((val (d.take k) : Nat) : Int)
/-- What is known ahead of a round. -/
def pK (d : List UInt8) (k : Nat) : Prop := (∀ b ∈ d.take k, isDig b) ∧ (k = 0 ∨ d.length ≤ 5)
theorem vK_bd {d : List UInt8} {k : Nat} (h : pK d k) : 0 ≤ vK d k ∧ vK d k < 100000 := by
  unfold vK
  have h1 := val_lt (d.take k) h.1
  have h2 : (d.take k).length ≤ 5 := by rw [List.length_take]; have := h.2; omega
  have h3 : 10 ^ (d.take k).length ≤ 10 ^ 5 := Nat.pow_le_pow_right (by decide) h2
  omega
theorem vK_succ {d : List UInt8} {k : Nat} (hk : k < d.length) (h : isDig d[k]) : vK d (k + 1) = 10 * vK d k + ((d[k]).toNat - 48 : Int) := by
  unfold isDig at h
  unfold vK
  rw [val_take hk]; omega
theorem pK_succ {d : List UInt8} {k : Nat} (hk : k < d.length) (hp : pK d k) (h : isDig d[k]) (h5 : d.length ≤ 5) : pK d (k + 1) := by
  refine ⟨fun b hb => ?_, .inr h5⟩
  rw [List.take_succ_eq_append_getElem hk] at hb
  rcases List.mem_append.1 hb with hb | hb
  · exact hp.1 b hb
  · simp only [List.mem_cons, List.not_mem_nil, or_false] at hb; rw [hb]; exact h
set_option maxRecDepth 100000 in
set_option maxHeartbeats 4000000 in
theorem number_E (w : ByteArray) : CallsE Tryz.prog 78 [.str w] 72 ((numO w).map i64) := by
  have htr := trim_gen w
  obtain ⟨O, hO⟩ : ∃ O, numO w = O := ⟨_, rfl⟩
  have hOdef := hO
  unfold numO numB at hOdef
  rw [hO]
  clear hO
  generalize numT w = d at *
  refine callsE_abs Tryz.func78 Tryz.ntmps78 Tryz.results78 Tryz.call78 rfl (by simp) fun w0 S0 M0 => ?_
  refine abs_seq ?_
  refine abs_region fun K hK => ?_
  simp -implicitDefEqProofs only [go_sem, bas, basL, Nat.reduceAdd, Nat.reduceSub, Nat.reduceMul, Nat.reduceLT, Nat.reduceLeDiff, Nat.reduceEqDiff, Nat.reduceBEq, Int.reduceLT, Int.reduceLE, Int.reduceToNat, Int.reduceAdd, Int.reduceSub, Int.reduceMul, Int.reduceNeg, Int.reduceEq, reduceCtorEq, eq_self, ne_eq, not_false_eq_true, if_true, reduceIte, Tryz.underlying9]
  refine hK _ ?_; clear hK K; simp only [thenQ]
  refine abs_seq ?_
  refine abs_region fun K hK => ?_
  simp -implicitDefEqProofs only [go_sem, bas, basL, Nat.reduceAdd, Nat.reduceSub, Nat.reduceMul, Nat.reduceLT, Nat.reduceLeDiff, Nat.reduceEqDiff, Nat.reduceBEq, Int.reduceLT, Int.reduceLE, Int.reduceToNat, Int.reduceAdd, Int.reduceSub, Int.reduceMul, Int.reduceNeg, Int.reduceEq, reduceCtorEq, eq_self, ne_eq, not_false_eq_true, if_true, reduceIte, Tryz.underlying9]
  refine callK htr ?_
  simp -implicitDefEqProofs only [go_sem, bas, basL, Nat.reduceAdd, Nat.reduceSub, Nat.reduceMul, Nat.reduceLT, Nat.reduceLeDiff, Nat.reduceEqDiff, Nat.reduceBEq, Int.reduceLT, Int.reduceLE, Int.reduceToNat, Int.reduceAdd, Int.reduceSub, Int.reduceMul, Int.reduceNeg, Int.reduceEq, reduceCtorEq, eq_self, ne_eq, not_false_eq_true, if_true, reduceIte, Tryz.underlying9]
  refine hK _ ?_; clear hK K; simp only [thenQ]
  refine abs_seq ?_
  refine abs_rangeStrE (str := ⟨d.toArray⟩) rfl (by kernel_rfl) (by show 9 < 58; decide) (by show 10 < 58; decide) (by show 11 < 58; decide) (by show 12 < 58; decide) (by decide) rfl rfl rfl (pK d) ⟨by simp, .inl rfl⟩ (fun k => [(0, .str w), (3, .str ⟨d.toArray⟩), (4, i64 (vK d k))]) (fun k => rfl) (fun B => le_of rfl (by try simp -implicitDefEqProofs only [go_sem, bas, basL, Nat.reduceAdd, Nat.reduceSub, Nat.reduceMul, Nat.reduceLT, Nat.reduceLeDiff, Nat.reduceEqDiff, Nat.reduceBEq, Int.reduceLT, Int.reduceLE, Int.reduceToNat, Int.reduceAdd, Int.reduceSub, Int.reduceMul, Int.reduceNeg, Int.reduceEq, reduceCtorEq, eq_self, ne_eq, not_false_eq_true, if_true, reduceIte, Tryz.underlying9]; try simp [vK, val]) ⟨_, rfl⟩ ⟨_, rfl⟩) (fun B k hk hpk w1 S1 M1 o1 r hr => ?_) (fun hpk B => ?_)
  · have hkl : k < d.length := by rw [mk_size] at hk; exact hk
    have hbk := vK_bd hpk
    rw [mk_get] at hr
    show Abs ⟨Tryz.prog, w1, S1, M1, none, o1, []⟩ _ _ _
    simp -implicitDefEqProofs only [go_sem, bas, basL, Nat.reduceAdd, Nat.reduceSub, Nat.reduceMul, Nat.reduceLT, Nat.reduceLeDiff, Nat.reduceEqDiff, Nat.reduceBEq, Int.reduceLT, Int.reduceLE, Int.reduceToNat, Int.reduceAdd, Int.reduceSub, Int.reduceMul, Int.reduceNeg, Int.reduceEq, reduceCtorEq, eq_self, ne_eq, not_false_eq_true, if_true, reduceIte, Tryz.underlying9]
    by_cases hd : isDig d[k]
    · have h128 : (d[k]).toNat < 128 := by unfold isDig at hd; omega
      rw [if_pos h128] at hr
      have hsucc := vK_succ hkl hd
      have hd' := hd
      unfold isDig at hd'
      by_cases h5 : d.length ≤ 5
      · have hp2 := pK_succ hkl hpk hd h5
        have hsz : (ByteArray.mk d.toArray).size ≤ 5 := by rw [mk_size]; exact h5
        rw [← hr] at hsucc hd'
        repeat' (first | refine abs_seq ?_ | refine abs_block ?_ | refine abs_skip ?_ | refine abs_scope ?_ | refine abs_label ?_ | refine abs_exit ?_ | refine abs_ret ?_ | ((first | refine abs_region fun K hK => ?_ | refine abs_draw Tryz.ty.mixed (by kernel_rfl) fun K hK => ?_ | refine abs_if ?_ | show retQ _ _ _ _ _ | refine callK (sure_ok _ (by simp <;> omega) _) ?_); simp -implicitDefEqProofs only [go_sem, bas, basL, Nat.reduceAdd, Nat.reduceSub, Nat.reduceMul, Nat.reduceLT, Nat.reduceLeDiff, Nat.reduceEqDiff, Nat.reduceBEq, Int.reduceLT, Int.reduceLE, Int.reduceToNat, Int.reduceAdd, Int.reduceSub, Int.reduceMul, Int.reduceNeg, Int.reduceEq, reduceCtorEq, eq_self, ne_eq, not_false_eq_true, if_true, reduceIte, Tryz.underlying9]) | ((first | (refine hK _ ?_; clear hK K) | show thenQ _ _ _ _ | show blockQ _ _ _ _ | show noGoQ _ _ _); simp only [noGoQ, thenQ, blockQ, if_true, Nat.reduceEqDiff, reduceIte]) | (intro hg; first | (exfalso; omega) | (exfalso; contradiction) | skip) | apply And.intro | (with_reducible rfl) | (clear hK; omega) | omega)
        all_goals exact .inl ⟨trivial, h128, hp2, le_of rfl (by try simp -implicitDefEqProofs only [go_sem, bas, basL, Nat.reduceAdd, Nat.reduceSub, Nat.reduceMul, Nat.reduceLT, Nat.reduceLeDiff, Nat.reduceEqDiff, Nat.reduceBEq, Int.reduceLT, Int.reduceLE, Int.reduceToNat, Int.reduceAdd, Int.reduceSub, Int.reduceMul, Int.reduceNeg, Int.reduceEq, reduceCtorEq, eq_self, ne_eq, not_false_eq_true, if_true, reduceIte, Tryz.underlying9]; try simp [hsucc]) ⟨_, rfl⟩ ⟨_, rfl⟩⟩
      · have hN : O.map i64 = none := by
          rw [← hOdef, if_neg (by simp [h5])]; rfl
        have hz : decide ((d.toArray.size : Int) ≤ 5) = false := by simp; omega
        rw [← hr] at hd'
        rw [hN]
        repeat' (first | (show Abs _ (.region 5 _ _) _ _; refine abs_regionE 12 rfl (sure_f w) (fun K1 hK1 => ?_); simp -implicitDefEqProofs only [go_sem, bas, basL, Nat.reduceAdd, Nat.reduceSub, Nat.reduceMul, Nat.reduceLT, Nat.reduceLeDiff, Nat.reduceEqDiff, Nat.reduceBEq, Int.reduceLT, Int.reduceLE, Int.reduceToNat, Int.reduceAdd, Int.reduceSub, Int.reduceMul, Int.reduceNeg, Int.reduceEq, reduceCtorEq, eq_self, ne_eq, not_false_eq_true, if_true, reduceIte, Tryz.underlying9, hz]) | refine abs_seq ?_ | refine abs_block ?_ | refine abs_skip ?_ | refine abs_scope ?_ | refine abs_label ?_ | refine abs_exit ?_ | refine abs_ret ?_ | ((first | refine abs_region fun K hK => ?_ | refine abs_draw Tryz.ty.mixed (by kernel_rfl) fun K hK => ?_ | refine abs_if ?_ | show retQ _ _ _ _ _); simp -implicitDefEqProofs only [go_sem, bas, basL, Nat.reduceAdd, Nat.reduceSub, Nat.reduceMul, Nat.reduceLT, Nat.reduceLeDiff, Nat.reduceEqDiff, Nat.reduceBEq, Int.reduceLT, Int.reduceLE, Int.reduceToNat, Int.reduceAdd, Int.reduceSub, Int.reduceMul, Int.reduceNeg, Int.reduceEq, reduceCtorEq, eq_self, ne_eq, not_false_eq_true, if_true, reduceIte, Tryz.underlying9, hz]) | ((first | (refine hK _ ?_; clear hK K) | show thenQ _ _ _ _ | show blockQ _ _ _ _ | show noGoQ _ _ _); simp only [noGoQ, thenQ, blockQ, if_true, Nat.reduceEqDiff, reduceIte]) | (refine hK1 _ (atE_none ?_ ?_ (fun x => .inr ⟨⟨_, rfl⟩, rfl, rfl, ende_panic⟩)); clear hK1 K1) | (intro hg; first | (exfalso; omega) | (exfalso; contradiction) | skip) | apply And.intro | (with_reducible rfl) | (clear hK; omega) | omega)
        all_goals first | (show pureDsV _ _ _ = _; try simp -implicitDefEqProofs only [go_sem, bas, basL, Nat.reduceAdd, Nat.reduceSub, Nat.reduceMul, Nat.reduceLT, Nat.reduceLeDiff, Nat.reduceEqDiff, Nat.reduceBEq, Int.reduceLT, Int.reduceLE, Int.reduceToNat, Int.reduceAdd, Int.reduceSub, Int.reduceMul, Int.reduceNeg, Int.reduceEq, reduceCtorEq, eq_self, ne_eq, not_false_eq_true, if_true, reduceIte, Tryz.underlying9, hz]; done) | (show dstOk _ _; rfl) | (show dstOk _ _; simp -implicitDefEqProofs only [go_sem, bas, basL, Nat.reduceAdd, Nat.reduceSub, Nat.reduceMul, Nat.reduceLT, Nat.reduceLeDiff, Nat.reduceEqDiff, Nat.reduceBEq, Int.reduceLT, Int.reduceLE, Int.reduceToNat, Int.reduceAdd, Int.reduceSub, Int.reduceMul, Int.reduceNeg, Int.reduceEq, reduceCtorEq, eq_self, ne_eq, not_false_eq_true, if_true, reduceIte, Tryz.underlying9, hz]; done) | skip
    · have hN : O.map i64 = none := by
        rw [← hOdef, if_neg (by
          intro h
          simp only [Bool.and_eq_true] at h
          have := List.all_eq_true.1 h.1.1.1.2 _ (List.getElem_mem hkl)
          exact hd (by simpa using this))]; rfl
      have hd' : ¬ (48 ≤ r ∧ r ≤ 57) := by
        unfold isDig at hd
        split at hr <;> omega
      rw [hN]
      repeat' (first | (show Abs _ (.region 5 _ _) _ _; refine abs_regionE 12 rfl (sure_f w) (fun K1 hK1 => ?_); simp -implicitDefEqProofs only [go_sem, bas, basL, Nat.reduceAdd, Nat.reduceSub, Nat.reduceMul, Nat.reduceLT, Nat.reduceLeDiff, Nat.reduceEqDiff, Nat.reduceBEq, Int.reduceLT, Int.reduceLE, Int.reduceToNat, Int.reduceAdd, Int.reduceSub, Int.reduceMul, Int.reduceNeg, Int.reduceEq, reduceCtorEq, eq_self, ne_eq, not_false_eq_true, if_true, reduceIte, Tryz.underlying9]) | refine abs_seq ?_ | refine abs_block ?_ | refine abs_skip ?_ | refine abs_scope ?_ | refine abs_label ?_ | refine abs_exit ?_ | refine abs_ret ?_ | ((first | refine abs_region fun K hK => ?_ | refine abs_draw Tryz.ty.mixed (by kernel_rfl) fun K hK => ?_ | refine abs_if ?_ | show retQ _ _ _ _ _); simp -implicitDefEqProofs only [go_sem, bas, basL, Nat.reduceAdd, Nat.reduceSub, Nat.reduceMul, Nat.reduceLT, Nat.reduceLeDiff, Nat.reduceEqDiff, Nat.reduceBEq, Int.reduceLT, Int.reduceLE, Int.reduceToNat, Int.reduceAdd, Int.reduceSub, Int.reduceMul, Int.reduceNeg, Int.reduceEq, reduceCtorEq, eq_self, ne_eq, not_false_eq_true, if_true, reduceIte, Tryz.underlying9]) | ((first | (refine hK _ ?_; clear hK K) | show thenQ _ _ _ _ | show blockQ _ _ _ _ | show noGoQ _ _ _); simp only [noGoQ, thenQ, blockQ, if_true, Nat.reduceEqDiff, reduceIte]) | (refine hK1 _ (atE_none ?_ ?_ (fun x => .inr ⟨⟨_, rfl⟩, rfl, rfl, ende_panic⟩)); clear hK1 K1) | (intro hg; first | (exfalso; omega) | (exfalso; contradiction) | skip) | apply And.intro | (with_reducible rfl) | (clear hK; omega) | omega)
      all_goals first | (show pureDsV _ _ _ = _; try simp -implicitDefEqProofs only [go_sem, bas, basL, Nat.reduceAdd, Nat.reduceSub, Nat.reduceMul, Nat.reduceLT, Nat.reduceLeDiff, Nat.reduceEqDiff, Nat.reduceBEq, Int.reduceLT, Int.reduceLE, Int.reduceToNat, Int.reduceAdd, Int.reduceSub, Int.reduceMul, Int.reduceNeg, Int.reduceEq, reduceCtorEq, eq_self, ne_eq, not_false_eq_true, if_true, reduceIte, Tryz.underlying9]; done) | (show dstOk _ _; rfl) | (show dstOk _ _; simp -implicitDefEqProofs only [go_sem, bas, basL, Nat.reduceAdd, Nat.reduceSub, Nat.reduceMul, Nat.reduceLT, Nat.reduceLeDiff, Nat.reduceEqDiff, Nat.reduceBEq, Int.reduceLT, Int.reduceLE, Int.reduceToNat, Int.reduceAdd, Int.reduceSub, Int.reduceMul, Int.reduceNeg, Int.reduceEq, reduceCtorEq, eq_self, ne_eq, not_false_eq_true, if_true, reduceIte, Tryz.underlying9]; done) | skip
  · have hpk2 : pK d d.length := by rw [mk_size] at hpk; exact hpk
    have hbk := vK_bd hpk2
    have hall : d.all (fun b => decide (isDig b)) = true := List.all_eq_true.2 fun b hb => decide_eq_true (hpk2.1 b (by rw [List.take_length]; exact hb))
    have hv0 : vK d d.length = (val d : Int) := by unfold vK; rw [List.take_length]
    have hv : vK d (ByteArray.mk d.toArray).size = (val d : Int) := by rw [mk_size]; exact hv0
    rw [hv0] at hbk
    rw [hv]
    clear hv hv0
    simp only [thenQ]
    have t0 : (ByteArray.mk d.toArray).toList = d := mk_toList d
    have t1 : (ByteArray.mk #[]).toList = [] := mk_toList []
    have t2 : (itoa (val d : Int)).toList = Go.Lib.itoa (val d : Int) := mk_toList _
    have t3 : w.toList = w.data.toList := Go.Lib.toList_data w
    by_cases h0 : d = []
    · have hN : O.map i64 = none := by
        rw [← hOdef, h0]; rfl
      have e0 : (d == []) = true := by rw [h0]; rfl
      rw [hN]
      repeat' (first | (show Abs _ (.region 7 _ _) _ _; refine abs_regionE 18 rfl (sure_f w) (fun K1 hK1 => ?_); simp -implicitDefEqProofs only [go_sem, bas, basL, Nat.reduceAdd, Nat.reduceSub, Nat.reduceMul, Nat.reduceLT, Nat.reduceLeDiff, Nat.reduceEqDiff, Nat.reduceBEq, Int.reduceLT, Int.reduceLE, Int.reduceToNat, Int.reduceAdd, Int.reduceSub, Int.reduceMul, Int.reduceNeg, Int.reduceEq, reduceCtorEq, eq_self, ne_eq, not_false_eq_true, if_true, reduceIte, Tryz.underlying9, t0, t1, t2, t3, e0, beq_self_eq_true, Bool.not_false, Bool.not_true]) | refine abs_seq ?_ | refine abs_block ?_ | refine abs_skip ?_ | refine abs_scope ?_ | refine abs_label ?_ | refine abs_exit ?_ | refine abs_ret ?_ | ((first | refine abs_region fun K hK => ?_ | refine abs_draw Tryz.ty.mixed (by kernel_rfl) fun K hK => ?_ | refine abs_if ?_ | show retQ _ _ _ _ _); simp -implicitDefEqProofs only [go_sem, bas, basL, Nat.reduceAdd, Nat.reduceSub, Nat.reduceMul, Nat.reduceLT, Nat.reduceLeDiff, Nat.reduceEqDiff, Nat.reduceBEq, Int.reduceLT, Int.reduceLE, Int.reduceToNat, Int.reduceAdd, Int.reduceSub, Int.reduceMul, Int.reduceNeg, Int.reduceEq, reduceCtorEq, eq_self, ne_eq, not_false_eq_true, if_true, reduceIte, Tryz.underlying9, t0, t1, t2, t3, e0, beq_self_eq_true, Bool.not_false, Bool.not_true]) | ((first | (refine hK _ ?_; clear hK K) | show thenQ _ _ _ _ | show blockQ _ _ _ _ | show noGoQ _ _ _); simp only [noGoQ, thenQ, blockQ, if_true, Nat.reduceEqDiff, reduceIte]) | (refine hK1 _ (atE_none ?_ ?_ (fun x => by simp only [thenQ, blockQ]; exact ende_panic)); clear hK1 K1) | (intro hg; first | (exfalso; omega) | (exfalso; contradiction) | skip) | apply And.intro | (with_reducible rfl) | (clear hK; omega) | omega)
      all_goals first | (show pureDsV _ _ _ = _; try simp -implicitDefEqProofs only [go_sem, bas, basL, Nat.reduceAdd, Nat.reduceSub, Nat.reduceMul, Nat.reduceLT, Nat.reduceLeDiff, Nat.reduceEqDiff, Nat.reduceBEq, Int.reduceLT, Int.reduceLE, Int.reduceToNat, Int.reduceAdd, Int.reduceSub, Int.reduceMul, Int.reduceNeg, Int.reduceEq, reduceCtorEq, eq_self, ne_eq, not_false_eq_true, if_true, reduceIte, Tryz.underlying9, t0, t1, t2, t3, e0, beq_self_eq_true, Bool.not_false, Bool.not_true]; done) | (show dstOk _ _; rfl) | (show dstOk _ _; simp -implicitDefEqProofs only [go_sem, bas, basL, Nat.reduceAdd, Nat.reduceSub, Nat.reduceMul, Nat.reduceLT, Nat.reduceLeDiff, Nat.reduceEqDiff, Nat.reduceBEq, Int.reduceLT, Int.reduceLE, Int.reduceToNat, Int.reduceAdd, Int.reduceSub, Int.reduceMul, Int.reduceNeg, Int.reduceEq, reduceCtorEq, eq_self, ne_eq, not_false_eq_true, if_true, reduceIte, Tryz.underlying9, t0, t1, t2, t3, e0, beq_self_eq_true, Bool.not_false, Bool.not_true]; done) | skip
    · have e0 : (d == []) = false := by cases d with | nil => exact absurd rfl h0 | cons a l => rfl
      have he : (!d.isEmpty) = true := by cases d with | nil => exact absurd rfl h0 | cons a l => rfl
      have h5 : decide (d.length ≤ 5) = true := decide_eq_true (by have := hpk2.2; cases d with | nil => exact absurd rfl h0 | cons a l => simp at this ⊢; omega)
      rw [he, hall, h5] at hOdef
      cases e1 : (Go.Lib.itoa (val d) == d) with
      | false =>
        rw [e1] at hOdef
        have hN : O.map i64 = none := by rw [← hOdef]; rfl
        rw [hN]
        repeat' (first | (show Abs _ (.region 7 _ _) _ _; refine abs_regionE 18 rfl (sure_f w) (fun K1 hK1 => ?_); simp -implicitDefEqProofs only [go_sem, bas, basL, Nat.reduceAdd, Nat.reduceSub, Nat.reduceMul, Nat.reduceLT, Nat.reduceLeDiff, Nat.reduceEqDiff, Nat.reduceBEq, Int.reduceLT, Int.reduceLE, Int.reduceToNat, Int.reduceAdd, Int.reduceSub, Int.reduceMul, Int.reduceNeg, Int.reduceEq, reduceCtorEq, eq_self, ne_eq, not_false_eq_true, if_true, reduceIte, Tryz.underlying9, t0, t1, t2, t3, e0, e1, beq_self_eq_true, Bool.not_false, Bool.not_true]) | refine abs_seq ?_ | refine abs_block ?_ | refine abs_skip ?_ | refine abs_scope ?_ | refine abs_label ?_ | refine abs_exit ?_ | refine abs_ret ?_ | ((first | refine abs_region fun K hK => ?_ | refine abs_draw Tryz.ty.mixed (by kernel_rfl) fun K hK => ?_ | refine abs_if ?_ | show retQ _ _ _ _ _ | refine callK (itoa_ok _ (by omega) (by omega)) ?_); simp -implicitDefEqProofs only [go_sem, bas, basL, Nat.reduceAdd, Nat.reduceSub, Nat.reduceMul, Nat.reduceLT, Nat.reduceLeDiff, Nat.reduceEqDiff, Nat.reduceBEq, Int.reduceLT, Int.reduceLE, Int.reduceToNat, Int.reduceAdd, Int.reduceSub, Int.reduceMul, Int.reduceNeg, Int.reduceEq, reduceCtorEq, eq_self, ne_eq, not_false_eq_true, if_true, reduceIte, Tryz.underlying9, t0, t1, t2, t3, e0, e1, beq_self_eq_true, Bool.not_false, Bool.not_true]) | ((first | (refine hK _ ?_; clear hK K) | show thenQ _ _ _ _ | show blockQ _ _ _ _ | show noGoQ _ _ _); simp only [noGoQ, thenQ, blockQ, if_true, Nat.reduceEqDiff, reduceIte]) | (refine hK1 _ (atE_none ?_ ?_ (fun x => by simp only [thenQ, blockQ]; exact ende_panic)); clear hK1 K1) | (intro hg; first | (exfalso; omega) | (exfalso; contradiction) | skip) | apply And.intro | (with_reducible rfl) | (clear hK; omega) | omega)
        all_goals first | (show pureDsV _ _ _ = _; try simp -implicitDefEqProofs only [go_sem, bas, basL, Nat.reduceAdd, Nat.reduceSub, Nat.reduceMul, Nat.reduceLT, Nat.reduceLeDiff, Nat.reduceEqDiff, Nat.reduceBEq, Int.reduceLT, Int.reduceLE, Int.reduceToNat, Int.reduceAdd, Int.reduceSub, Int.reduceMul, Int.reduceNeg, Int.reduceEq, reduceCtorEq, eq_self, ne_eq, not_false_eq_true, if_true, reduceIte, Tryz.underlying9, t0, t1, t2, t3, e0, e1, beq_self_eq_true, Bool.not_false, Bool.not_true]; done) | (show dstOk _ _; rfl) | (show dstOk _ _; simp -implicitDefEqProofs only [go_sem, bas, basL, Nat.reduceAdd, Nat.reduceSub, Nat.reduceMul, Nat.reduceLT, Nat.reduceLeDiff, Nat.reduceEqDiff, Nat.reduceBEq, Int.reduceLT, Int.reduceLE, Int.reduceToNat, Int.reduceAdd, Int.reduceSub, Int.reduceMul, Int.reduceNeg, Int.reduceEq, reduceCtorEq, eq_self, ne_eq, not_false_eq_true, if_true, reduceIte, Tryz.underlying9, t0, t1, t2, t3, e0, e1, beq_self_eq_true, Bool.not_false, Bool.not_true]; done) | skip
      | true =>
        rw [e1] at hOdef
        cases e3 : (w.data.toList == d) with
        | true =>
          rw [e3] at hOdef
          have hN : O.map i64 = some (i64 (val d : Int)) := by rw [← hOdef]; simp
          rw [hN]
          repeat' (first | refine abs_seq ?_ | refine abs_block ?_ | refine abs_skip ?_ | refine abs_scope ?_ | refine abs_label ?_ | refine abs_exit ?_ | refine abs_ret ?_ | ((first | refine abs_region fun K hK => ?_ | refine abs_draw Tryz.ty.mixed (by kernel_rfl) fun K hK => ?_ | refine abs_if ?_ | show retQ _ _ _ _ _ | refine callK (itoa_ok _ (by omega) (by omega)) ?_ | refine callK (sure_ok _ (by simp <;> omega) _) ?_); simp -implicitDefEqProofs only [go_sem, bas, basL, Nat.reduceAdd, Nat.reduceSub, Nat.reduceMul, Nat.reduceLT, Nat.reduceLeDiff, Nat.reduceEqDiff, Nat.reduceBEq, Int.reduceLT, Int.reduceLE, Int.reduceToNat, Int.reduceAdd, Int.reduceSub, Int.reduceMul, Int.reduceNeg, Int.reduceEq, reduceCtorEq, eq_self, ne_eq, not_false_eq_true, if_true, reduceIte, Tryz.underlying9, t0, t1, t2, t3, e0, e1, e3, beq_self_eq_true, Bool.not_false, Bool.not_true]) | ((first | (refine hK _ ?_; clear hK K) | show thenQ _ _ _ _ | show blockQ _ _ _ _ | show noGoQ _ _ _); simp only [noGoQ, thenQ, blockQ, if_true, Nat.reduceEqDiff, reduceIte]) | (refine ende_ret ?_) | (refine ende_normal ?_) | (intro hg; first | (exfalso; omega) | (exfalso; contradiction) | skip) | apply And.intro | (with_reducible rfl) | (clear hK; omega) | omega)
          all_goals skip
        | false =>
          rw [e3] at hOdef
          by_cases hp : 0 < val d
          · have hN : O.map i64 = some (i64 (-(val d : Int))) := by rw [← hOdef]; simp [hp]
            rw [hN]
            repeat' (first | refine abs_seq ?_ | refine abs_block ?_ | refine abs_skip ?_ | refine abs_scope ?_ | refine abs_label ?_ | refine abs_exit ?_ | refine abs_ret ?_ | ((first | refine abs_region fun K hK => ?_ | refine abs_draw Tryz.ty.mixed (by kernel_rfl) fun K hK => ?_ | refine abs_if ?_ | show retQ _ _ _ _ _ | refine callK (itoa_ok _ (by omega) (by omega)) ?_ | refine callK (sure_ok _ (by simp <;> omega) _) ?_); simp -implicitDefEqProofs only [go_sem, bas, basL, Nat.reduceAdd, Nat.reduceSub, Nat.reduceMul, Nat.reduceLT, Nat.reduceLeDiff, Nat.reduceEqDiff, Nat.reduceBEq, Int.reduceLT, Int.reduceLE, Int.reduceToNat, Int.reduceAdd, Int.reduceSub, Int.reduceMul, Int.reduceNeg, Int.reduceEq, reduceCtorEq, eq_self, ne_eq, not_false_eq_true, if_true, reduceIte, Tryz.underlying9, t0, t1, t2, t3, e0, e1, e3, beq_self_eq_true, Bool.not_false, Bool.not_true]) | ((first | (refine hK _ ?_; clear hK K) | show thenQ _ _ _ _ | show blockQ _ _ _ _ | show noGoQ _ _ _); simp only [noGoQ, thenQ, blockQ, if_true, Nat.reduceEqDiff, reduceIte]) | (refine ende_ret ?_) | (refine ende_normal ?_) | (intro hg; first | (exfalso; omega) | (exfalso; contradiction) | skip) | apply And.intro | (with_reducible rfl) | (clear hK; omega) | omega)
            all_goals skip
          · have hN : O.map i64 = none := by rw [← hOdef]; simp [hp]
            rw [hN]
            repeat' (first | (show Abs _ (.region 7 _ _) _ _; refine abs_regionE 18 rfl (sure_f w) (fun K1 hK1 => ?_); simp -implicitDefEqProofs only [go_sem, bas, basL, Nat.reduceAdd, Nat.reduceSub, Nat.reduceMul, Nat.reduceLT, Nat.reduceLeDiff, Nat.reduceEqDiff, Nat.reduceBEq, Int.reduceLT, Int.reduceLE, Int.reduceToNat, Int.reduceAdd, Int.reduceSub, Int.reduceMul, Int.reduceNeg, Int.reduceEq, reduceCtorEq, eq_self, ne_eq, not_false_eq_true, if_true, reduceIte, Tryz.underlying9, t0, t1, t2, t3, e0, e1, e3, beq_self_eq_true, Bool.not_false, Bool.not_true]) | refine abs_seq ?_ | refine abs_block ?_ | refine abs_skip ?_ | refine abs_scope ?_ | refine abs_label ?_ | refine abs_exit ?_ | refine abs_ret ?_ | ((first | refine abs_region fun K hK => ?_ | refine abs_draw Tryz.ty.mixed (by kernel_rfl) fun K hK => ?_ | refine abs_if ?_ | show retQ _ _ _ _ _ | refine callK (itoa_ok _ (by omega) (by omega)) ?_); simp -implicitDefEqProofs only [go_sem, bas, basL, Nat.reduceAdd, Nat.reduceSub, Nat.reduceMul, Nat.reduceLT, Nat.reduceLeDiff, Nat.reduceEqDiff, Nat.reduceBEq, Int.reduceLT, Int.reduceLE, Int.reduceToNat, Int.reduceAdd, Int.reduceSub, Int.reduceMul, Int.reduceNeg, Int.reduceEq, reduceCtorEq, eq_self, ne_eq, not_false_eq_true, if_true, reduceIte, Tryz.underlying9, t0, t1, t2, t3, e0, e1, e3, beq_self_eq_true, Bool.not_false, Bool.not_true]) | ((first | (refine hK _ ?_; clear hK K) | show thenQ _ _ _ _ | show blockQ _ _ _ _ | show noGoQ _ _ _); simp only [noGoQ, thenQ, blockQ, if_true, Nat.reduceEqDiff, reduceIte]) | (refine hK1 _ (atE_none ?_ ?_ (fun x => by simp only [thenQ, blockQ]; exact ende_panic)); clear hK1 K1) | (intro hg; first | (exfalso; omega) | (exfalso; contradiction) | skip) | apply And.intro | (with_reducible rfl) | (clear hK; omega) | omega)
            all_goals first | (show pureDsV _ _ _ = _; try simp -implicitDefEqProofs only [go_sem, bas, basL, Nat.reduceAdd, Nat.reduceSub, Nat.reduceMul, Nat.reduceLT, Nat.reduceLeDiff, Nat.reduceEqDiff, Nat.reduceBEq, Int.reduceLT, Int.reduceLE, Int.reduceToNat, Int.reduceAdd, Int.reduceSub, Int.reduceMul, Int.reduceNeg, Int.reduceEq, reduceCtorEq, eq_self, ne_eq, not_false_eq_true, if_true, reduceIte, Tryz.underlying9, t0, t1, t2, t3, e0, e1, e3, beq_self_eq_true, Bool.not_false, Bool.not_true]; done) | (show dstOk _ _; rfl) | (show dstOk _ _; simp -implicitDefEqProofs only [go_sem, bas, basL, Nat.reduceAdd, Nat.reduceSub, Nat.reduceMul, Nat.reduceLT, Nat.reduceLeDiff, Nat.reduceEqDiff, Nat.reduceBEq, Int.reduceLT, Int.reduceLE, Int.reduceToNat, Int.reduceAdd, Int.reduceSub, Int.reduceMul, Int.reduceNeg, Int.reduceEq, reduceCtorEq, eq_self, ne_eq, not_false_eq_true, if_true, reduceIte, Tryz.underlying9, t0, t1, t2, t3, e0, e1, e3, beq_self_eq_true, Bool.not_false, Bool.not_true]; done) | skip
end Go.Proofs.YtdbiiegohemahaaGreatDoor
set_option linter.unusedVariables false
set_option linter.unusedSimpArgs false
namespace Go.Proofs.YtdbiiegohemahaaGreatDoor
open Go.Ab Go.Sheet
attribute [local irreducible] Abs CallK CallR CallsTo CallsE IA
def nO (w : ByteArray) : Int := (numO w).getD 0
def idxO (w : ByteArray) : Int := Go.Lib.indexByte rse.data.toList (w.data.toList.headD 0)
/-- The reading that some words are, if they are one. -/
def rdgO : List ByteArray → Option Rdg
  | [w0, w1, w2, w3, w4, w5, w6, w7, w8, w9] => if w2.size = 1 ∧ 0 ≤ idxO w2 ∧ ((numO w0).isSome ∧ (numO w1).isSome ∧ (numO w3).isSome ∧ (numO w4).isSome ∧ (numO w5).isSome ∧ (numO w6).isSome ∧ (numO w7).isSome ∧ (numO w8).isSome ∧ (numO w9).isSome) then some ⟨nO w0, nO w1, 1 + idxO w2, nO w3, nO w4, nO w5, nO w6, nO w7, nO w8, nO w9⟩ else none
  | _ => none
/-- The reading that a line is, if it is one. -/
def lineO (s : ByteArray) : Option Rdg := rdgO (partsB 32 s)
theorem one_byte {w : ByteArray} (h : w.size = 1) : ∃ c, w = ⟨#[c]⟩ := by
  obtain ⟨⟨l⟩⟩ := w
  match l, h with
  | [c], _ => exact ⟨c, rfl⟩
theorem ten {l : List ByteArray} (h : l.length = 10) : ∃ w0 w1 w2 w3 w4 w5 w6 w7 w8 w9, l = [w0, w1, w2, w3, w4, w5, w6, w7, w8, w9] := by
  match l, h with
  | [w0, w1, w2, w3, w4, w5, w6, w7, w8, w9], _ => exact ⟨w0, w1, w2, w3, w4, w5, w6, w7, w8, w9, rfl⟩
theorem rdgO_ten {l : List ByteArray} (h : l.length ≠ 10) : rdgO l = none := by
  unfold rdgO
  split
  · exact absurd rfl h
  · rfl
set_option maxRecDepth 100000 in
set_option maxHeartbeats 4000000 in
theorem reading_not (s : ByteArray) (hs : s.size < 1000000) (h : (partsB 32 s).length ≠ 10) : CallsE Tryz.prog 60 [.str s] 72 none := by
  have hsp := split_ok s 32 (by omega)
  generalize partsB 32 s = ws at *
  have hz : decide ((ws.length : Int) = 10) = false := decide_eq_false (by omega)
  refine callsE_abs Tryz.func60 Tryz.ntmps60 Tryz.results60 Tryz.call60 rfl (by simp) fun W0 S0 M0 => ?_
  repeat' (first | (show Abs _ (.region 2 _ _) _ _; refine abs_regionE 17 rfl (sure_f s) (fun K1 hK1 => ?_); simp -implicitDefEqProofs only [go_sem, bas, basL, Nat.reduceAdd, Nat.reduceSub, Nat.reduceMul, Nat.reduceLT, Nat.reduceLeDiff, Nat.reduceEqDiff, Nat.reduceBEq, Int.reduceLT, Int.reduceLE, Int.reduceToNat, Int.reduceAdd, Int.reduceSub, Int.reduceMul, Int.reduceNeg, Int.reduceEq, reduceCtorEq, eq_self, ne_eq, not_false_eq_true, if_true, reduceIte, Tryz.underlying9, List.length_map, hz]) | refine abs_seq ?_ | refine abs_block ?_ | refine abs_skip ?_ | refine abs_scope ?_ | refine abs_label ?_ | refine abs_exit ?_ | refine abs_ret ?_ | ((first | refine abs_region fun K hK => ?_ | refine abs_draw Tryz.ty.mixed (by kernel_rfl) fun K hK => ?_ | refine abs_if ?_ | show retQ _ _ _ _ _ | refine callK (hsp) ?_); simp -implicitDefEqProofs only [go_sem, bas, basL, Nat.reduceAdd, Nat.reduceSub, Nat.reduceMul, Nat.reduceLT, Nat.reduceLeDiff, Nat.reduceEqDiff, Nat.reduceBEq, Int.reduceLT, Int.reduceLE, Int.reduceToNat, Int.reduceAdd, Int.reduceSub, Int.reduceMul, Int.reduceNeg, Int.reduceEq, reduceCtorEq, eq_self, ne_eq, not_false_eq_true, if_true, reduceIte, Tryz.underlying9, List.length_map, hz]) | ((first | (refine hK _ ?_; clear hK K) | show thenQ _ _ _ _ | show blockQ _ _ _ _ | show noGoQ _ _ _); simp only [noGoQ, thenQ, blockQ, if_true, Nat.reduceEqDiff, reduceIte]) | (refine hK1 _ (atE_none ?_ ?_ (fun x => by simp only [thenQ, blockQ]; exact ende_panic)); clear hK1 K1) | (intro hg; first | (exfalso; omega) | (exfalso; contradiction) | skip) | apply And.intro | (with_reducible rfl) | (clear hK; omega) | omega)
  all_goals first | (show pureDsV _ _ _ = _; try simp -implicitDefEqProofs only [go_sem, bas, basL, Nat.reduceAdd, Nat.reduceSub, Nat.reduceMul, Nat.reduceLT, Nat.reduceLeDiff, Nat.reduceEqDiff, Nat.reduceBEq, Int.reduceLT, Int.reduceLE, Int.reduceToNat, Int.reduceAdd, Int.reduceSub, Int.reduceMul, Int.reduceNeg, Int.reduceEq, reduceCtorEq, eq_self, ne_eq, not_false_eq_true, if_true, reduceIte, Tryz.underlying9, List.length_map, hz]; done) | (show dstOk _ _; rfl) | (show dstOk _ _; simp -implicitDefEqProofs only [go_sem, bas, basL, Nat.reduceAdd, Nat.reduceSub, Nat.reduceMul, Nat.reduceLT, Nat.reduceLeDiff, Nat.reduceEqDiff, Nat.reduceBEq, Int.reduceLT, Int.reduceLE, Int.reduceToNat, Int.reduceAdd, Int.reduceSub, Int.reduceMul, Int.reduceNeg, Int.reduceEq, reduceCtorEq, eq_self, ne_eq, not_false_eq_true, if_true, reduceIte, Tryz.underlying9, List.length_map, hz]; done) | skip
set_option maxRecDepth 100000 in
set_option maxHeartbeats 4000000 in
theorem reading_not1 (s : ByteArray) (hs : s.size < 1000000) (w0 w1 w2 w3 w4 w5 w6 w7 w8 w9 : ByteArray) (h : partsB 32 s = [w0, w1, w2, w3, w4, w5, w6, w7, w8, w9]) (h2 : w2.size ≠ 1) : CallsE Tryz.prog 60 [.str s] 72 none := by
  have hsp := split_ok s 32 (by omega)
  rw [h] at hsp
  simp only [List.map_cons, List.map_nil] at hsp
  have hz : decide ((w2.size : Int) = 1) = false := decide_eq_false (by omega)
  refine callsE_abs Tryz.func60 Tryz.ntmps60 Tryz.results60 Tryz.call60 rfl (by simp) fun W0 S0 M0 => ?_
  repeat' (first | (show Abs _ (.region 2 _ _) _ _; refine abs_regionE 17 rfl (sure_f s) (fun K1 hK1 => ?_); simp -implicitDefEqProofs only [go_sem, bas, basL, Nat.reduceAdd, Nat.reduceSub, Nat.reduceMul, Nat.reduceLT, Nat.reduceLeDiff, Nat.reduceEqDiff, Nat.reduceBEq, Int.reduceLT, Int.reduceLE, Int.reduceToNat, Int.reduceAdd, Int.reduceSub, Int.reduceMul, Int.reduceNeg, Int.reduceEq, reduceCtorEq, eq_self, ne_eq, not_false_eq_true, if_true, reduceIte, ↓wq0, ↓wq1, ↓wq2, ↓wq3, ↓wq4, ↓wq5, ↓wq6, ↓wq7, ↓wq8, ↓wq9, Int.natCast_zero, Int.natCast_one, Int.cast_ofNat_Int, Tryz.underlying9, hz]) | refine abs_seq ?_ | refine abs_block ?_ | refine abs_skip ?_ | refine abs_scope ?_ | refine abs_label ?_ | refine abs_exit ?_ | refine abs_ret ?_ | ((first | refine abs_region fun K hK => ?_ | refine abs_draw Tryz.ty.mixed (by kernel_rfl) fun K hK => ?_ | refine abs_if ?_ | show retQ _ _ _ _ _ | refine callK (hsp) ?_); simp -implicitDefEqProofs only [go_sem, bas, basL, Nat.reduceAdd, Nat.reduceSub, Nat.reduceMul, Nat.reduceLT, Nat.reduceLeDiff, Nat.reduceEqDiff, Nat.reduceBEq, Int.reduceLT, Int.reduceLE, Int.reduceToNat, Int.reduceAdd, Int.reduceSub, Int.reduceMul, Int.reduceNeg, Int.reduceEq, reduceCtorEq, eq_self, ne_eq, not_false_eq_true, if_true, reduceIte, ↓wq0, ↓wq1, ↓wq2, ↓wq3, ↓wq4, ↓wq5, ↓wq6, ↓wq7, ↓wq8, ↓wq9, Int.natCast_zero, Int.natCast_one, Int.cast_ofNat_Int, Tryz.underlying9, hz]) | ((first | (refine hK _ ?_; clear hK K) | show thenQ _ _ _ _ | show blockQ _ _ _ _ | show noGoQ _ _ _); simp only [noGoQ, thenQ, blockQ, if_true, Nat.reduceEqDiff, reduceIte]) | (refine hK1 _ (atE_none ?_ ?_ (fun x => by simp only [thenQ, blockQ]; exact ende_panic)); clear hK1 K1) | (intro hg; first | (exfalso; omega) | (exfalso; contradiction) | skip) | apply And.intro | (with_reducible rfl) | (clear hK; omega) | omega)
  all_goals first | (show pureDsV _ _ _ = _; try simp -implicitDefEqProofs only [go_sem, bas, basL, Nat.reduceAdd, Nat.reduceSub, Nat.reduceMul, Nat.reduceLT, Nat.reduceLeDiff, Nat.reduceEqDiff, Nat.reduceBEq, Int.reduceLT, Int.reduceLE, Int.reduceToNat, Int.reduceAdd, Int.reduceSub, Int.reduceMul, Int.reduceNeg, Int.reduceEq, reduceCtorEq, eq_self, ne_eq, not_false_eq_true, if_true, reduceIte, ↓wq0, ↓wq1, ↓wq2, ↓wq3, ↓wq4, ↓wq5, ↓wq6, ↓wq7, ↓wq8, ↓wq9, Int.natCast_zero, Int.natCast_one, Int.cast_ofNat_Int, Tryz.underlying9, hz]; done) | (show dstOk _ _; rfl) | (show dstOk _ _; simp -implicitDefEqProofs only [go_sem, bas, basL, Nat.reduceAdd, Nat.reduceSub, Nat.reduceMul, Nat.reduceLT, Nat.reduceLeDiff, Nat.reduceEqDiff, Nat.reduceBEq, Int.reduceLT, Int.reduceLE, Int.reduceToNat, Int.reduceAdd, Int.reduceSub, Int.reduceMul, Int.reduceNeg, Int.reduceEq, reduceCtorEq, eq_self, ne_eq, not_false_eq_true, if_true, reduceIte, ↓wq0, ↓wq1, ↓wq2, ↓wq3, ↓wq4, ↓wq5, ↓wq6, ↓wq7, ↓wq8, ↓wq9, Int.natCast_zero, Int.natCast_one, Int.cast_ofNat_Int, Tryz.underlying9, hz]; done) | skip
set_option maxRecDepth 100000 in
set_option maxHeartbeats 4000000 in
theorem reading_not2 (s : ByteArray) (hs : s.size < 1000000) (w0 w1 : ByteArray) (c : UInt8) (w3 w4 w5 w6 w7 w8 w9 : ByteArray) (h : partsB 32 s = [w0, w1, ⟨#[c]⟩, w3, w4, w5, w6, w7, w8, w9]) (h2 : ¬ 0 ≤ Go.Lib.indexByte rse.data.toList c) : CallsE Tryz.prog 60 [.str s] 72 none := by
  have hsp := split_ok s 32 (by omega)
  rw [h] at hsp
  simp only [List.map_cons, List.map_nil] at hsp
  have hcon := contains_ok rse c
  rw [decide_eq_false h2] at hcon
  have hz : (ByteArray.mk #[c]).size = 1 := rfl
  refine callsE_abs Tryz.func60 Tryz.ntmps60 Tryz.results60 Tryz.call60 rfl (by simp) fun W0 S0 M0 => ?_
  repeat' (first | (show Abs _ (.region 2 _ _) _ _; refine abs_regionE 17 rfl (sure_f s) (fun K1 hK1 => ?_); simp -implicitDefEqProofs only [go_sem, bas, basL, Nat.reduceAdd, Nat.reduceSub, Nat.reduceMul, Nat.reduceLT, Nat.reduceLeDiff, Nat.reduceEqDiff, Nat.reduceBEq, Int.reduceLT, Int.reduceLE, Int.reduceToNat, Int.reduceAdd, Int.reduceSub, Int.reduceMul, Int.reduceNeg, Int.reduceEq, reduceCtorEq, eq_self, ne_eq, not_false_eq_true, if_true, reduceIte, ↓wq0, ↓wq1, ↓wq2, ↓wq3, ↓wq4, ↓wq5, ↓wq6, ↓wq7, ↓wq8, ↓wq9, Int.natCast_zero, Int.natCast_one, Int.cast_ofNat_Int, Tryz.underlying9, hz]) | refine abs_seq ?_ | refine abs_block ?_ | refine abs_skip ?_ | refine abs_scope ?_ | refine abs_label ?_ | refine abs_exit ?_ | refine abs_ret ?_ | ((first | refine abs_region fun K hK => ?_ | refine abs_draw Tryz.ty.mixed (by kernel_rfl) fun K hK => ?_ | refine abs_if ?_ | show retQ _ _ _ _ _ | refine callK (hsp) ?_ | refine callK (hcon) ?_); simp -implicitDefEqProofs only [go_sem, bas, basL, Nat.reduceAdd, Nat.reduceSub, Nat.reduceMul, Nat.reduceLT, Nat.reduceLeDiff, Nat.reduceEqDiff, Nat.reduceBEq, Int.reduceLT, Int.reduceLE, Int.reduceToNat, Int.reduceAdd, Int.reduceSub, Int.reduceMul, Int.reduceNeg, Int.reduceEq, reduceCtorEq, eq_self, ne_eq, not_false_eq_true, if_true, reduceIte, ↓wq0, ↓wq1, ↓wq2, ↓wq3, ↓wq4, ↓wq5, ↓wq6, ↓wq7, ↓wq8, ↓wq9, Int.natCast_zero, Int.natCast_one, Int.cast_ofNat_Int, Tryz.underlying9, hz]) | ((first | (refine hK _ ?_; clear hK K) | show thenQ _ _ _ _ | show blockQ _ _ _ _ | show noGoQ _ _ _); simp only [noGoQ, thenQ, blockQ, if_true, Nat.reduceEqDiff, reduceIte]) | (refine hK1 _ (atE_none ?_ ?_ (fun x => by simp only [thenQ, blockQ]; exact ende_panic)); clear hK1 K1) | (intro hg; first | (exfalso; omega) | (exfalso; contradiction) | skip) | apply And.intro | (with_reducible rfl) | (clear hK; omega) | omega)
  all_goals first | (show pureDsV _ _ _ = _; try simp -implicitDefEqProofs only [go_sem, bas, basL, Nat.reduceAdd, Nat.reduceSub, Nat.reduceMul, Nat.reduceLT, Nat.reduceLeDiff, Nat.reduceEqDiff, Nat.reduceBEq, Int.reduceLT, Int.reduceLE, Int.reduceToNat, Int.reduceAdd, Int.reduceSub, Int.reduceMul, Int.reduceNeg, Int.reduceEq, reduceCtorEq, eq_self, ne_eq, not_false_eq_true, if_true, reduceIte, ↓wq0, ↓wq1, ↓wq2, ↓wq3, ↓wq4, ↓wq5, ↓wq6, ↓wq7, ↓wq8, ↓wq9, Int.natCast_zero, Int.natCast_one, Int.cast_ofNat_Int, Tryz.underlying9, hz]; done) | (show dstOk _ _; rfl) | (show dstOk _ _; simp -implicitDefEqProofs only [go_sem, bas, basL, Nat.reduceAdd, Nat.reduceSub, Nat.reduceMul, Nat.reduceLT, Nat.reduceLeDiff, Nat.reduceEqDiff, Nat.reduceBEq, Int.reduceLT, Int.reduceLE, Int.reduceToNat, Int.reduceAdd, Int.reduceSub, Int.reduceMul, Int.reduceNeg, Int.reduceEq, reduceCtorEq, eq_self, ne_eq, not_false_eq_true, if_true, reduceIte, ↓wq0, ↓wq1, ↓wq2, ↓wq3, ↓wq4, ↓wq5, ↓wq6, ↓wq7, ↓wq8, ↓wq9, Int.natCast_zero, Int.natCast_one, Int.cast_ofNat_Int, Tryz.underlying9, hz]; done) | skip
theorem some_nO {w : ByteArray} {v : Int} (h : numO w = some v) : CallsTo Tryz.prog 78 [.str w] (i64 (nO w)) := by
  have := number_E w
  unfold nO
  rw [h] at this ⊢
  exact this.calls
theorem none_nO {w : ByteArray} (h : numO w = none) : CallsE Tryz.prog 78 [.str w] 72 none := by
  have := number_E w
  rw [h] at this
  exact this
/-- The first words are numbers. -/
def isN (L : List ByteArray) (j : Nat) : Prop := j ≤ 10 ∧ ∀ i, i < j → i ≠ 2 → (numO (L.getD i .empty)).isSome = true
theorem isN_succ {L : List ByteArray} {j : Nat} (h : isN L j) (hj : j < 10) (hn : j ≠ 2 → (numO (L.getD j .empty)).isSome = true) : isN L (j + 1) := by
  refine ⟨by omega, fun i hi hne => ?_⟩
  by_cases e : i = j
  · subst e; exact hn hne
  · exact h.2 i (by omega) hne
set_option maxRecDepth 100000 in
set_option maxHeartbeats 4000000 in
theorem reading_yes (s : ByteArray) (hs : s.size < 1000000) (w0 w1 : ByteArray) (c : UInt8) (w3 w4 w5 w6 w7 w8 w9 : ByteArray) (h : partsB 32 s = [w0, w1, ⟨#[c]⟩, w3, w4, w5, w6, w7, w8, w9]) (h2 : 0 ≤ Go.Lib.indexByte rse.data.toList c) (r : Rdg)
    (hr : r = ⟨nO w0, nO w1, 1 + Go.Lib.indexByte rse.data.toList c, nO w3, nO w4, nO w5, nO w6, nO w7, nO w8, nO w9⟩) (O : Option Rdg) (hO : O = if ((numO w0).isSome ∧ (numO w1).isSome ∧ (numO w3).isSome ∧ (numO w4).isSome ∧ (numO w5).isSome ∧ (numO w6).isSome ∧ (numO w7).isSome ∧ (numO w8).isSome ∧ (numO w9).isSome) then some r else none) (hi : Go.Lib.indexByte rse.data.toList c ≤ 100) : CallsE Tryz.prog 60 [.str s] 72 (O.map rdD) := by
  have hsp := split_ok s 32 (by omega)
  rw [h] at hsp
  simp only [List.map_cons, List.map_nil] at hsp
  have hcon := contains_ok rse c
  rw [decide_eq_true h2] at hcon
  have hidx := index_ok1 rse c
  have hsz : (ByteArray.mk #[c]).size = 1 := rfl
  have f0 : nO w0 = r.day := by rw [hr]
  have f1 : nO w1 = r.min := by rw [hr]
  have f3 : nO w3 = r.mer := by rw [hr]
  have f4 : nO w4 = r.al := by rw [hr]
  have f5 : nO w5 = r.ah := by rw [hr]
  have f6 : nO w6 = r.dl := by rw [hr]
  have f7 : nO w7 = r.dh := by rw [hr]
  have f8 : nO w8 = r.wl := by rw [hr]
  have f9 : nO w9 = r.wh := by rw [hr]
  have hck : 1 + Go.Lib.indexByte rse.data.toList c = r.clk := by rw [hr]
  obtain ⟨K0, hK0⟩ : ∃ K0, K0 = Go.Lib.indexByte rse.data.toList c := ⟨_, rfl⟩
  rw [← hK0] at hck hidx h2 hi
  clear hr
  obtain ⟨L, hL⟩ : ∃ L, L = [w0, w1, ⟨#[c]⟩, w3, w4, w5, w6, w7, w8, w9] := ⟨_, rfl⟩
  refine callsE_abs Tryz.func60 Tryz.ntmps60 Tryz.results60 Tryz.call60 rfl (by simp) fun W0 S0 M0 => ?_
  repeat' (first | refine abs_seq ?_ | refine abs_block ?_ | refine abs_skip ?_ | refine abs_scope ?_ | refine abs_label ?_ | refine abs_exit ?_ | refine abs_ret ?_ | ((first | refine abs_region fun K hK => ?_ | refine abs_draw Tryz.ty.mixed (by kernel_rfl) fun K hK => ?_ | refine abs_if ?_ | show retQ _ _ _ _ _ | refine callK (hsp) ?_ | refine callK (hcon) ?_ | refine callK (sure_ok _ (by simp <;> omega) _) ?_); simp -implicitDefEqProofs only [go_sem, bas, basL, Nat.reduceAdd, Nat.reduceSub, Nat.reduceMul, Nat.reduceLT, Nat.reduceLeDiff, Nat.reduceEqDiff, Nat.reduceBEq, Int.reduceLT, Int.reduceLE, Int.reduceToNat, Int.reduceAdd, Int.reduceSub, Int.reduceMul, Int.reduceNeg, Int.reduceEq, reduceCtorEq, eq_self, ne_eq, not_false_eq_true, if_true, reduceIte, ↓wq0, ↓wq1, ↓wq2, ↓wq3, ↓wq4, ↓wq5, ↓wq6, ↓wq7, ↓wq8, ↓wq9, Int.natCast_zero, Int.natCast_one, Int.cast_ofNat_Int, hsz, hck, Tryz.underlying9]) | ((first | (refine hK _ ?_; clear hK K) | show thenQ _ _ _ _ | show blockQ _ _ _ _ | show noGoQ _ _ _); simp only [noGoQ, thenQ, blockQ, if_true, Nat.reduceEqDiff, reduceIte]) | (intro hg; first | (exfalso; omega) | (exfalso; contradiction) | skip) | apply And.intro | (with_reducible rfl) | (clear hK; omega) | omega)
  refine abs_loopN (ι := Nat) (fun j => [(2, .box 0 0), (3, .list [.str w0, .str w1, .str ⟨#[c]⟩, .str w3, .str w4, .str w5, .str w6, .str w7, .str w8, .str w9]), (4, .box 1 0), (28, .list [.str w0, .str w1, .str ⟨#[c]⟩, .str w3, .str w4, .str w5, .str w6, .str w7, .str w8, .str w9]), (29, i64 10), (30, i64 j)]) (fun j => [.mu [i64 0, i64 0, i64 0, i64 0, i64 0, i64 0, i64 0, i64 0, i64 0, i64 0], .mu (xsK r j)]) (fun _ => [])
    (fun j => isN L j) (fun j => 10 - j) (fun j hj => ⟨rfl, by have hj := hj.1; match j, hj with | 0, _ => rfl | 1, _ => rfl | 2, _ => rfl | 3, _ => rfl | 4, _ => rfl | 5, _ => rfl | 6, _ => rfl | 7, _ => rfl | 8, _ => rfl | 9, _ => rfl | 10, _ => rfl⟩) 0 ⟨Nat.zero_le _, fun i hi => absurd hi (Nat.not_lt_zero _)⟩ (le_of rfl (by try simp -implicitDefEqProofs only [go_sem, bas, basL, Nat.reduceAdd, Nat.reduceSub, Nat.reduceMul, Nat.reduceLT, Nat.reduceLeDiff, Nat.reduceEqDiff, Nat.reduceBEq, Int.reduceLT, Int.reduceLE, Int.reduceToNat, Int.reduceAdd, Int.reduceSub, Int.reduceMul, Int.reduceNeg, Int.reduceEq, reduceCtorEq, eq_self, ne_eq, not_false_eq_true, if_true, reduceIte, ↓wq0, ↓wq1, ↓wq2, ↓wq3, ↓wq4, ↓wq5, ↓wq6, ↓wq7, ↓wq8, ↓wq9, Int.natCast_zero, Int.natCast_one, Int.cast_ofNat_Int, hsz, hck, Tryz.underlying9]; try simp [xsK]) ⟨_, rfl⟩ ⟨_, rfl⟩) (fun j hj => ?_)
  have hj0 := hj.1
  match j, hj0 with
  | 0, _ =>
    have e : xsK r 0 = [i64 0, i64 0, i64 0, i64 0, i64 0, i64 0, i64 0, i64 0, i64 0, i64 0] := rfl
    have e1 : xsK r 1 = [i64 r.day, i64 0, i64 0, i64 0, i64 0, i64 0, i64 0, i64 0, i64 0, i64 0] := rfl
    rw [e]
    cases hn : numO w0 with
    | none =>
      have hN : O.map rdD = none := by rw [hO, if_neg (by rw [hn]; simp)]; rfl
      rw [hN]
      simp -implicitDefEqProofs only [go_sem, bas, basL, Nat.reduceAdd, Nat.reduceSub, Nat.reduceMul, Nat.reduceLT, Nat.reduceLeDiff, Nat.reduceEqDiff, Nat.reduceBEq, Int.reduceLT, Int.reduceLE, Int.reduceToNat, Int.reduceAdd, Int.reduceSub, Int.reduceMul, Int.reduceNeg, Int.reduceEq, reduceCtorEq, eq_self, ne_eq, not_false_eq_true, if_true, reduceIte, ↓wq0, ↓wq1, ↓wq2, ↓wq3, ↓wq4, ↓wq5, ↓wq6, ↓wq7, ↓wq8, ↓wq9, Int.natCast_zero, Int.natCast_one, Int.cast_ofNat_Int, hsz, hck, Tryz.underlying9]
      repeat' (first | (show Abs _ (.region 8 _ _) _ _; refine abs_regionE 2 rfl (none_nO hn) (fun K1 hK1 => ?_); simp -implicitDefEqProofs only [go_sem, bas, basL, Nat.reduceAdd, Nat.reduceSub, Nat.reduceMul, Nat.reduceLT, Nat.reduceLeDiff, Nat.reduceEqDiff, Nat.reduceBEq, Int.reduceLT, Int.reduceLE, Int.reduceToNat, Int.reduceAdd, Int.reduceSub, Int.reduceMul, Int.reduceNeg, Int.reduceEq, reduceCtorEq, eq_self, ne_eq, not_false_eq_true, if_true, reduceIte, ↓wq0, ↓wq1, ↓wq2, ↓wq3, ↓wq4, ↓wq5, ↓wq6, ↓wq7, ↓wq8, ↓wq9, Int.natCast_zero, Int.natCast_one, Int.cast_ofNat_Int, hsz, hck, Tryz.underlying9]) | refine abs_seq ?_ | refine abs_block ?_ | refine abs_skip ?_ | refine abs_scope ?_ | refine abs_label ?_ | refine abs_exit ?_ | refine abs_ret ?_ | ((first | refine abs_region fun K hK => ?_ | refine abs_draw Tryz.ty.mixed (by kernel_rfl) fun K hK => ?_ | refine abs_if ?_ | show retQ _ _ _ _ _); simp -implicitDefEqProofs only [go_sem, bas, basL, Nat.reduceAdd, Nat.reduceSub, Nat.reduceMul, Nat.reduceLT, Nat.reduceLeDiff, Nat.reduceEqDiff, Nat.reduceBEq, Int.reduceLT, Int.reduceLE, Int.reduceToNat, Int.reduceAdd, Int.reduceSub, Int.reduceMul, Int.reduceNeg, Int.reduceEq, reduceCtorEq, eq_self, ne_eq, not_false_eq_true, if_true, reduceIte, ↓wq0, ↓wq1, ↓wq2, ↓wq3, ↓wq4, ↓wq5, ↓wq6, ↓wq7, ↓wq8, ↓wq9, Int.natCast_zero, Int.natCast_one, Int.cast_ofNat_Int, hsz, hck, Tryz.underlying9]) | ((first | (refine hK _ ?_; clear hK K) | show thenQ _ _ _ _ | show blockQ _ _ _ _ | show noGoQ _ _ _); simp only [noGoQ, thenQ, blockQ, if_true, Nat.reduceEqDiff, reduceIte]) | (refine hK1 _ (atE_none ?_ ?_ (fun x => by simp only [thenQ, blockQ]; exact ende_panic)); clear hK1 K1) | (intro hg; first | (exfalso; omega) | (exfalso; contradiction) | skip) | apply And.intro | (with_reducible rfl) | (clear hK; omega) | omega)
      all_goals first | (show pureDsV _ _ _ = _; try simp -implicitDefEqProofs only [go_sem, bas, basL, Nat.reduceAdd, Nat.reduceSub, Nat.reduceMul, Nat.reduceLT, Nat.reduceLeDiff, Nat.reduceEqDiff, Nat.reduceBEq, Int.reduceLT, Int.reduceLE, Int.reduceToNat, Int.reduceAdd, Int.reduceSub, Int.reduceMul, Int.reduceNeg, Int.reduceEq, reduceCtorEq, eq_self, ne_eq, not_false_eq_true, if_true, reduceIte, ↓wq0, ↓wq1, ↓wq2, ↓wq3, ↓wq4, ↓wq5, ↓wq6, ↓wq7, ↓wq8, ↓wq9, Int.natCast_zero, Int.natCast_one, Int.cast_ofNat_Int, hsz, hck, Tryz.underlying9]; done) | (show dstOk _ _; rfl) | (show dstOk _ _; simp -implicitDefEqProofs only [go_sem, bas, basL, Nat.reduceAdd, Nat.reduceSub, Nat.reduceMul, Nat.reduceLT, Nat.reduceLeDiff, Nat.reduceEqDiff, Nat.reduceBEq, Int.reduceLT, Int.reduceLE, Int.reduceToNat, Int.reduceAdd, Int.reduceSub, Int.reduceMul, Int.reduceNeg, Int.reduceEq, reduceCtorEq, eq_self, ne_eq, not_false_eq_true, if_true, reduceIte, ↓wq0, ↓wq1, ↓wq2, ↓wq3, ↓wq4, ↓wq5, ↓wq6, ↓wq7, ↓wq8, ↓wq9, Int.natCast_zero, Int.natCast_one, Int.cast_ofNat_Int, hsz, hck, Tryz.underlying9]; done) | skip
    | some v =>
      have nj := some_nO hn
      rw [f0] at nj
      simp -implicitDefEqProofs only [go_sem, bas, basL, Nat.reduceAdd, Nat.reduceSub, Nat.reduceMul, Nat.reduceLT, Nat.reduceLeDiff, Nat.reduceEqDiff, Nat.reduceBEq, Int.reduceLT, Int.reduceLE, Int.reduceToNat, Int.reduceAdd, Int.reduceSub, Int.reduceMul, Int.reduceNeg, Int.reduceEq, reduceCtorEq, eq_self, ne_eq, not_false_eq_true, if_true, reduceIte, ↓wq0, ↓wq1, ↓wq2, ↓wq3, ↓wq4, ↓wq5, ↓wq6, ↓wq7, ↓wq8, ↓wq9, Int.natCast_zero, Int.natCast_one, Int.cast_ofNat_Int, hsz, hck, Tryz.underlying9]
      repeat' (first | refine abs_seq ?_ | refine abs_block ?_ | refine abs_skip ?_ | refine abs_scope ?_ | refine abs_label ?_ | refine abs_exit ?_ | refine abs_ret ?_ | ((first | refine abs_region fun K hK => ?_ | refine abs_draw Tryz.ty.mixed (by kernel_rfl) fun K hK => ?_ | refine abs_if ?_ | show retQ _ _ _ _ _ | refine callK (nj) ?_); simp -implicitDefEqProofs only [go_sem, bas, basL, Nat.reduceAdd, Nat.reduceSub, Nat.reduceMul, Nat.reduceLT, Nat.reduceLeDiff, Nat.reduceEqDiff, Nat.reduceBEq, Int.reduceLT, Int.reduceLE, Int.reduceToNat, Int.reduceAdd, Int.reduceSub, Int.reduceMul, Int.reduceNeg, Int.reduceEq, reduceCtorEq, eq_self, ne_eq, not_false_eq_true, if_true, reduceIte, ↓wq0, ↓wq1, ↓wq2, ↓wq3, ↓wq4, ↓wq5, ↓wq6, ↓wq7, ↓wq8, ↓wq9, Int.natCast_zero, Int.natCast_one, Int.cast_ofNat_Int, hsz, hck, Tryz.underlying9]) | ((first | (refine hK _ ?_; clear hK K) | show thenQ _ _ _ _ | show blockQ _ _ _ _ | show noGoQ _ _ _); simp only [noGoQ, thenQ, blockQ, if_true, Nat.reduceEqDiff, reduceIte]) | (intro hg; first | (exfalso; omega) | (exfalso; contradiction) | skip) | apply And.intro | (with_reducible rfl) | (clear hK; omega) | omega)
      exact ⟨1, isN_succ hj (by omega) (fun _ => by rw [hL]; show (numO w0).isSome = true; rw [hn]; rfl), by omega, le_of rfl (by try simp -implicitDefEqProofs only [go_sem, bas, basL, Nat.reduceAdd, Nat.reduceSub, Nat.reduceMul, Nat.reduceLT, Nat.reduceLeDiff, Nat.reduceEqDiff, Nat.reduceBEq, Int.reduceLT, Int.reduceLE, Int.reduceToNat, Int.reduceAdd, Int.reduceSub, Int.reduceMul, Int.reduceNeg, Int.reduceEq, reduceCtorEq, eq_self, ne_eq, not_false_eq_true, if_true, reduceIte, ↓wq0, ↓wq1, ↓wq2, ↓wq3, ↓wq4, ↓wq5, ↓wq6, ↓wq7, ↓wq8, ↓wq9, Int.natCast_zero, Int.natCast_one, Int.cast_ofNat_Int, hsz, hck, Tryz.underlying9]; try simp) ⟨[], by rw [e1]; rfl⟩ ⟨_, rfl⟩⟩
  | 1, _ =>
    have e : xsK r 1 = [i64 r.day, i64 0, i64 0, i64 0, i64 0, i64 0, i64 0, i64 0, i64 0, i64 0] := rfl
    have e1 : xsK r 2 = [i64 r.day, i64 r.min, i64 0, i64 0, i64 0, i64 0, i64 0, i64 0, i64 0, i64 0] := rfl
    rw [e]
    cases hn : numO w1 with
    | none =>
      have hN : O.map rdD = none := by rw [hO, if_neg (by rw [hn]; simp)]; rfl
      rw [hN]
      simp -implicitDefEqProofs only [go_sem, bas, basL, Nat.reduceAdd, Nat.reduceSub, Nat.reduceMul, Nat.reduceLT, Nat.reduceLeDiff, Nat.reduceEqDiff, Nat.reduceBEq, Int.reduceLT, Int.reduceLE, Int.reduceToNat, Int.reduceAdd, Int.reduceSub, Int.reduceMul, Int.reduceNeg, Int.reduceEq, reduceCtorEq, eq_self, ne_eq, not_false_eq_true, if_true, reduceIte, ↓wq0, ↓wq1, ↓wq2, ↓wq3, ↓wq4, ↓wq5, ↓wq6, ↓wq7, ↓wq8, ↓wq9, Int.natCast_zero, Int.natCast_one, Int.cast_ofNat_Int, hsz, hck, Tryz.underlying9]
      repeat' (first | (show Abs _ (.region 8 _ _) _ _; refine abs_regionE 2 rfl (none_nO hn) (fun K1 hK1 => ?_); simp -implicitDefEqProofs only [go_sem, bas, basL, Nat.reduceAdd, Nat.reduceSub, Nat.reduceMul, Nat.reduceLT, Nat.reduceLeDiff, Nat.reduceEqDiff, Nat.reduceBEq, Int.reduceLT, Int.reduceLE, Int.reduceToNat, Int.reduceAdd, Int.reduceSub, Int.reduceMul, Int.reduceNeg, Int.reduceEq, reduceCtorEq, eq_self, ne_eq, not_false_eq_true, if_true, reduceIte, ↓wq0, ↓wq1, ↓wq2, ↓wq3, ↓wq4, ↓wq5, ↓wq6, ↓wq7, ↓wq8, ↓wq9, Int.natCast_zero, Int.natCast_one, Int.cast_ofNat_Int, hsz, hck, Tryz.underlying9]) | refine abs_seq ?_ | refine abs_block ?_ | refine abs_skip ?_ | refine abs_scope ?_ | refine abs_label ?_ | refine abs_exit ?_ | refine abs_ret ?_ | ((first | refine abs_region fun K hK => ?_ | refine abs_draw Tryz.ty.mixed (by kernel_rfl) fun K hK => ?_ | refine abs_if ?_ | show retQ _ _ _ _ _); simp -implicitDefEqProofs only [go_sem, bas, basL, Nat.reduceAdd, Nat.reduceSub, Nat.reduceMul, Nat.reduceLT, Nat.reduceLeDiff, Nat.reduceEqDiff, Nat.reduceBEq, Int.reduceLT, Int.reduceLE, Int.reduceToNat, Int.reduceAdd, Int.reduceSub, Int.reduceMul, Int.reduceNeg, Int.reduceEq, reduceCtorEq, eq_self, ne_eq, not_false_eq_true, if_true, reduceIte, ↓wq0, ↓wq1, ↓wq2, ↓wq3, ↓wq4, ↓wq5, ↓wq6, ↓wq7, ↓wq8, ↓wq9, Int.natCast_zero, Int.natCast_one, Int.cast_ofNat_Int, hsz, hck, Tryz.underlying9]) | ((first | (refine hK _ ?_; clear hK K) | show thenQ _ _ _ _ | show blockQ _ _ _ _ | show noGoQ _ _ _); simp only [noGoQ, thenQ, blockQ, if_true, Nat.reduceEqDiff, reduceIte]) | (refine hK1 _ (atE_none ?_ ?_ (fun x => by simp only [thenQ, blockQ]; exact ende_panic)); clear hK1 K1) | (intro hg; first | (exfalso; omega) | (exfalso; contradiction) | skip) | apply And.intro | (with_reducible rfl) | (clear hK; omega) | omega)
      all_goals first | (show pureDsV _ _ _ = _; try simp -implicitDefEqProofs only [go_sem, bas, basL, Nat.reduceAdd, Nat.reduceSub, Nat.reduceMul, Nat.reduceLT, Nat.reduceLeDiff, Nat.reduceEqDiff, Nat.reduceBEq, Int.reduceLT, Int.reduceLE, Int.reduceToNat, Int.reduceAdd, Int.reduceSub, Int.reduceMul, Int.reduceNeg, Int.reduceEq, reduceCtorEq, eq_self, ne_eq, not_false_eq_true, if_true, reduceIte, ↓wq0, ↓wq1, ↓wq2, ↓wq3, ↓wq4, ↓wq5, ↓wq6, ↓wq7, ↓wq8, ↓wq9, Int.natCast_zero, Int.natCast_one, Int.cast_ofNat_Int, hsz, hck, Tryz.underlying9]; done) | (show dstOk _ _; rfl) | (show dstOk _ _; simp -implicitDefEqProofs only [go_sem, bas, basL, Nat.reduceAdd, Nat.reduceSub, Nat.reduceMul, Nat.reduceLT, Nat.reduceLeDiff, Nat.reduceEqDiff, Nat.reduceBEq, Int.reduceLT, Int.reduceLE, Int.reduceToNat, Int.reduceAdd, Int.reduceSub, Int.reduceMul, Int.reduceNeg, Int.reduceEq, reduceCtorEq, eq_self, ne_eq, not_false_eq_true, if_true, reduceIte, ↓wq0, ↓wq1, ↓wq2, ↓wq3, ↓wq4, ↓wq5, ↓wq6, ↓wq7, ↓wq8, ↓wq9, Int.natCast_zero, Int.natCast_one, Int.cast_ofNat_Int, hsz, hck, Tryz.underlying9]; done) | skip
    | some v =>
      have nj := some_nO hn
      rw [f1] at nj
      simp -implicitDefEqProofs only [go_sem, bas, basL, Nat.reduceAdd, Nat.reduceSub, Nat.reduceMul, Nat.reduceLT, Nat.reduceLeDiff, Nat.reduceEqDiff, Nat.reduceBEq, Int.reduceLT, Int.reduceLE, Int.reduceToNat, Int.reduceAdd, Int.reduceSub, Int.reduceMul, Int.reduceNeg, Int.reduceEq, reduceCtorEq, eq_self, ne_eq, not_false_eq_true, if_true, reduceIte, ↓wq0, ↓wq1, ↓wq2, ↓wq3, ↓wq4, ↓wq5, ↓wq6, ↓wq7, ↓wq8, ↓wq9, Int.natCast_zero, Int.natCast_one, Int.cast_ofNat_Int, hsz, hck, Tryz.underlying9]
      repeat' (first | refine abs_seq ?_ | refine abs_block ?_ | refine abs_skip ?_ | refine abs_scope ?_ | refine abs_label ?_ | refine abs_exit ?_ | refine abs_ret ?_ | ((first | refine abs_region fun K hK => ?_ | refine abs_draw Tryz.ty.mixed (by kernel_rfl) fun K hK => ?_ | refine abs_if ?_ | show retQ _ _ _ _ _ | refine callK (nj) ?_); simp -implicitDefEqProofs only [go_sem, bas, basL, Nat.reduceAdd, Nat.reduceSub, Nat.reduceMul, Nat.reduceLT, Nat.reduceLeDiff, Nat.reduceEqDiff, Nat.reduceBEq, Int.reduceLT, Int.reduceLE, Int.reduceToNat, Int.reduceAdd, Int.reduceSub, Int.reduceMul, Int.reduceNeg, Int.reduceEq, reduceCtorEq, eq_self, ne_eq, not_false_eq_true, if_true, reduceIte, ↓wq0, ↓wq1, ↓wq2, ↓wq3, ↓wq4, ↓wq5, ↓wq6, ↓wq7, ↓wq8, ↓wq9, Int.natCast_zero, Int.natCast_one, Int.cast_ofNat_Int, hsz, hck, Tryz.underlying9]) | ((first | (refine hK _ ?_; clear hK K) | show thenQ _ _ _ _ | show blockQ _ _ _ _ | show noGoQ _ _ _); simp only [noGoQ, thenQ, blockQ, if_true, Nat.reduceEqDiff, reduceIte]) | (intro hg; first | (exfalso; omega) | (exfalso; contradiction) | skip) | apply And.intro | (with_reducible rfl) | (clear hK; omega) | omega)
      exact ⟨2, isN_succ hj (by omega) (fun _ => by rw [hL]; show (numO w1).isSome = true; rw [hn]; rfl), by omega, le_of rfl (by try simp -implicitDefEqProofs only [go_sem, bas, basL, Nat.reduceAdd, Nat.reduceSub, Nat.reduceMul, Nat.reduceLT, Nat.reduceLeDiff, Nat.reduceEqDiff, Nat.reduceBEq, Int.reduceLT, Int.reduceLE, Int.reduceToNat, Int.reduceAdd, Int.reduceSub, Int.reduceMul, Int.reduceNeg, Int.reduceEq, reduceCtorEq, eq_self, ne_eq, not_false_eq_true, if_true, reduceIte, ↓wq0, ↓wq1, ↓wq2, ↓wq3, ↓wq4, ↓wq5, ↓wq6, ↓wq7, ↓wq8, ↓wq9, Int.natCast_zero, Int.natCast_one, Int.cast_ofNat_Int, hsz, hck, Tryz.underlying9]; try simp) ⟨[], by rw [e1]; rfl⟩ ⟨_, rfl⟩⟩
  | 2, _ =>
    have e : xsK r 2 = [i64 r.day, i64 r.min, i64 0, i64 0, i64 0, i64 0, i64 0, i64 0, i64 0, i64 0] := rfl
    have e1 : xsK r 3 = [i64 r.day, i64 r.min, i64 0, i64 0, i64 0, i64 0, i64 0, i64 0, i64 0, i64 0] := rfl
    rw [e]
    simp -implicitDefEqProofs only [go_sem, bas, basL, Nat.reduceAdd, Nat.reduceSub, Nat.reduceMul, Nat.reduceLT, Nat.reduceLeDiff, Nat.reduceEqDiff, Nat.reduceBEq, Int.reduceLT, Int.reduceLE, Int.reduceToNat, Int.reduceAdd, Int.reduceSub, Int.reduceMul, Int.reduceNeg, Int.reduceEq, reduceCtorEq, eq_self, ne_eq, not_false_eq_true, if_true, reduceIte, ↓wq0, ↓wq1, ↓wq2, ↓wq3, ↓wq4, ↓wq5, ↓wq6, ↓wq7, ↓wq8, ↓wq9, Int.natCast_zero, Int.natCast_one, Int.cast_ofNat_Int, hsz, hck, Tryz.underlying9]
    repeat' (first | refine abs_seq ?_ | refine abs_block ?_ | refine abs_skip ?_ | refine abs_scope ?_ | refine abs_label ?_ | refine abs_exit ?_ | refine abs_ret ?_ | ((first | refine abs_region fun K hK => ?_ | refine abs_draw Tryz.ty.mixed (by kernel_rfl) fun K hK => ?_ | refine abs_if ?_ | show retQ _ _ _ _ _); simp -implicitDefEqProofs only [go_sem, bas, basL, Nat.reduceAdd, Nat.reduceSub, Nat.reduceMul, Nat.reduceLT, Nat.reduceLeDiff, Nat.reduceEqDiff, Nat.reduceBEq, Int.reduceLT, Int.reduceLE, Int.reduceToNat, Int.reduceAdd, Int.reduceSub, Int.reduceMul, Int.reduceNeg, Int.reduceEq, reduceCtorEq, eq_self, ne_eq, not_false_eq_true, if_true, reduceIte, ↓wq0, ↓wq1, ↓wq2, ↓wq3, ↓wq4, ↓wq5, ↓wq6, ↓wq7, ↓wq8, ↓wq9, Int.natCast_zero, Int.natCast_one, Int.cast_ofNat_Int, hsz, hck, Tryz.underlying9]) | ((first | (refine hK _ ?_; clear hK K) | show thenQ _ _ _ _ | show blockQ _ _ _ _ | show noGoQ _ _ _); simp only [noGoQ, thenQ, blockQ, if_true, Nat.reduceEqDiff, reduceIte]) | (intro hg; first | (exfalso; omega) | (exfalso; contradiction) | skip) | apply And.intro | (with_reducible rfl) | (clear hK; omega) | omega)
    exact ⟨3, isN_succ hj (by omega) (fun h => absurd rfl h), by omega, le_of rfl (by try simp -implicitDefEqProofs only [go_sem, bas, basL, Nat.reduceAdd, Nat.reduceSub, Nat.reduceMul, Nat.reduceLT, Nat.reduceLeDiff, Nat.reduceEqDiff, Nat.reduceBEq, Int.reduceLT, Int.reduceLE, Int.reduceToNat, Int.reduceAdd, Int.reduceSub, Int.reduceMul, Int.reduceNeg, Int.reduceEq, reduceCtorEq, eq_self, ne_eq, not_false_eq_true, if_true, reduceIte, ↓wq0, ↓wq1, ↓wq2, ↓wq3, ↓wq4, ↓wq5, ↓wq6, ↓wq7, ↓wq8, ↓wq9, Int.natCast_zero, Int.natCast_one, Int.cast_ofNat_Int, hsz, hck, Tryz.underlying9]; try simp) ⟨[], by rw [e1]; rfl⟩ ⟨_, rfl⟩⟩
  | 3, _ =>
    have e : xsK r 3 = [i64 r.day, i64 r.min, i64 0, i64 0, i64 0, i64 0, i64 0, i64 0, i64 0, i64 0] := rfl
    have e1 : xsK r 4 = [i64 r.day, i64 r.min, i64 0, i64 r.mer, i64 0, i64 0, i64 0, i64 0, i64 0, i64 0] := rfl
    rw [e]
    cases hn : numO w3 with
    | none =>
      have hN : O.map rdD = none := by rw [hO, if_neg (by rw [hn]; simp)]; rfl
      rw [hN]
      simp -implicitDefEqProofs only [go_sem, bas, basL, Nat.reduceAdd, Nat.reduceSub, Nat.reduceMul, Nat.reduceLT, Nat.reduceLeDiff, Nat.reduceEqDiff, Nat.reduceBEq, Int.reduceLT, Int.reduceLE, Int.reduceToNat, Int.reduceAdd, Int.reduceSub, Int.reduceMul, Int.reduceNeg, Int.reduceEq, reduceCtorEq, eq_self, ne_eq, not_false_eq_true, if_true, reduceIte, ↓wq0, ↓wq1, ↓wq2, ↓wq3, ↓wq4, ↓wq5, ↓wq6, ↓wq7, ↓wq8, ↓wq9, Int.natCast_zero, Int.natCast_one, Int.cast_ofNat_Int, hsz, hck, Tryz.underlying9]
      repeat' (first | (show Abs _ (.region 8 _ _) _ _; refine abs_regionE 2 rfl (none_nO hn) (fun K1 hK1 => ?_); simp -implicitDefEqProofs only [go_sem, bas, basL, Nat.reduceAdd, Nat.reduceSub, Nat.reduceMul, Nat.reduceLT, Nat.reduceLeDiff, Nat.reduceEqDiff, Nat.reduceBEq, Int.reduceLT, Int.reduceLE, Int.reduceToNat, Int.reduceAdd, Int.reduceSub, Int.reduceMul, Int.reduceNeg, Int.reduceEq, reduceCtorEq, eq_self, ne_eq, not_false_eq_true, if_true, reduceIte, ↓wq0, ↓wq1, ↓wq2, ↓wq3, ↓wq4, ↓wq5, ↓wq6, ↓wq7, ↓wq8, ↓wq9, Int.natCast_zero, Int.natCast_one, Int.cast_ofNat_Int, hsz, hck, Tryz.underlying9]) | refine abs_seq ?_ | refine abs_block ?_ | refine abs_skip ?_ | refine abs_scope ?_ | refine abs_label ?_ | refine abs_exit ?_ | refine abs_ret ?_ | ((first | refine abs_region fun K hK => ?_ | refine abs_draw Tryz.ty.mixed (by kernel_rfl) fun K hK => ?_ | refine abs_if ?_ | show retQ _ _ _ _ _); simp -implicitDefEqProofs only [go_sem, bas, basL, Nat.reduceAdd, Nat.reduceSub, Nat.reduceMul, Nat.reduceLT, Nat.reduceLeDiff, Nat.reduceEqDiff, Nat.reduceBEq, Int.reduceLT, Int.reduceLE, Int.reduceToNat, Int.reduceAdd, Int.reduceSub, Int.reduceMul, Int.reduceNeg, Int.reduceEq, reduceCtorEq, eq_self, ne_eq, not_false_eq_true, if_true, reduceIte, ↓wq0, ↓wq1, ↓wq2, ↓wq3, ↓wq4, ↓wq5, ↓wq6, ↓wq7, ↓wq8, ↓wq9, Int.natCast_zero, Int.natCast_one, Int.cast_ofNat_Int, hsz, hck, Tryz.underlying9]) | ((first | (refine hK _ ?_; clear hK K) | show thenQ _ _ _ _ | show blockQ _ _ _ _ | show noGoQ _ _ _); simp only [noGoQ, thenQ, blockQ, if_true, Nat.reduceEqDiff, reduceIte]) | (refine hK1 _ (atE_none ?_ ?_ (fun x => by simp only [thenQ, blockQ]; exact ende_panic)); clear hK1 K1) | (intro hg; first | (exfalso; omega) | (exfalso; contradiction) | skip) | apply And.intro | (with_reducible rfl) | (clear hK; omega) | omega)
      all_goals first | (show pureDsV _ _ _ = _; try simp -implicitDefEqProofs only [go_sem, bas, basL, Nat.reduceAdd, Nat.reduceSub, Nat.reduceMul, Nat.reduceLT, Nat.reduceLeDiff, Nat.reduceEqDiff, Nat.reduceBEq, Int.reduceLT, Int.reduceLE, Int.reduceToNat, Int.reduceAdd, Int.reduceSub, Int.reduceMul, Int.reduceNeg, Int.reduceEq, reduceCtorEq, eq_self, ne_eq, not_false_eq_true, if_true, reduceIte, ↓wq0, ↓wq1, ↓wq2, ↓wq3, ↓wq4, ↓wq5, ↓wq6, ↓wq7, ↓wq8, ↓wq9, Int.natCast_zero, Int.natCast_one, Int.cast_ofNat_Int, hsz, hck, Tryz.underlying9]; done) | (show dstOk _ _; rfl) | (show dstOk _ _; simp -implicitDefEqProofs only [go_sem, bas, basL, Nat.reduceAdd, Nat.reduceSub, Nat.reduceMul, Nat.reduceLT, Nat.reduceLeDiff, Nat.reduceEqDiff, Nat.reduceBEq, Int.reduceLT, Int.reduceLE, Int.reduceToNat, Int.reduceAdd, Int.reduceSub, Int.reduceMul, Int.reduceNeg, Int.reduceEq, reduceCtorEq, eq_self, ne_eq, not_false_eq_true, if_true, reduceIte, ↓wq0, ↓wq1, ↓wq2, ↓wq3, ↓wq4, ↓wq5, ↓wq6, ↓wq7, ↓wq8, ↓wq9, Int.natCast_zero, Int.natCast_one, Int.cast_ofNat_Int, hsz, hck, Tryz.underlying9]; done) | skip
    | some v =>
      have nj := some_nO hn
      rw [f3] at nj
      simp -implicitDefEqProofs only [go_sem, bas, basL, Nat.reduceAdd, Nat.reduceSub, Nat.reduceMul, Nat.reduceLT, Nat.reduceLeDiff, Nat.reduceEqDiff, Nat.reduceBEq, Int.reduceLT, Int.reduceLE, Int.reduceToNat, Int.reduceAdd, Int.reduceSub, Int.reduceMul, Int.reduceNeg, Int.reduceEq, reduceCtorEq, eq_self, ne_eq, not_false_eq_true, if_true, reduceIte, ↓wq0, ↓wq1, ↓wq2, ↓wq3, ↓wq4, ↓wq5, ↓wq6, ↓wq7, ↓wq8, ↓wq9, Int.natCast_zero, Int.natCast_one, Int.cast_ofNat_Int, hsz, hck, Tryz.underlying9]
      repeat' (first | refine abs_seq ?_ | refine abs_block ?_ | refine abs_skip ?_ | refine abs_scope ?_ | refine abs_label ?_ | refine abs_exit ?_ | refine abs_ret ?_ | ((first | refine abs_region fun K hK => ?_ | refine abs_draw Tryz.ty.mixed (by kernel_rfl) fun K hK => ?_ | refine abs_if ?_ | show retQ _ _ _ _ _ | refine callK (nj) ?_); simp -implicitDefEqProofs only [go_sem, bas, basL, Nat.reduceAdd, Nat.reduceSub, Nat.reduceMul, Nat.reduceLT, Nat.reduceLeDiff, Nat.reduceEqDiff, Nat.reduceBEq, Int.reduceLT, Int.reduceLE, Int.reduceToNat, Int.reduceAdd, Int.reduceSub, Int.reduceMul, Int.reduceNeg, Int.reduceEq, reduceCtorEq, eq_self, ne_eq, not_false_eq_true, if_true, reduceIte, ↓wq0, ↓wq1, ↓wq2, ↓wq3, ↓wq4, ↓wq5, ↓wq6, ↓wq7, ↓wq8, ↓wq9, Int.natCast_zero, Int.natCast_one, Int.cast_ofNat_Int, hsz, hck, Tryz.underlying9]) | ((first | (refine hK _ ?_; clear hK K) | show thenQ _ _ _ _ | show blockQ _ _ _ _ | show noGoQ _ _ _); simp only [noGoQ, thenQ, blockQ, if_true, Nat.reduceEqDiff, reduceIte]) | (intro hg; first | (exfalso; omega) | (exfalso; contradiction) | skip) | apply And.intro | (with_reducible rfl) | (clear hK; omega) | omega)
      exact ⟨4, isN_succ hj (by omega) (fun _ => by rw [hL]; show (numO w3).isSome = true; rw [hn]; rfl), by omega, le_of rfl (by try simp -implicitDefEqProofs only [go_sem, bas, basL, Nat.reduceAdd, Nat.reduceSub, Nat.reduceMul, Nat.reduceLT, Nat.reduceLeDiff, Nat.reduceEqDiff, Nat.reduceBEq, Int.reduceLT, Int.reduceLE, Int.reduceToNat, Int.reduceAdd, Int.reduceSub, Int.reduceMul, Int.reduceNeg, Int.reduceEq, reduceCtorEq, eq_self, ne_eq, not_false_eq_true, if_true, reduceIte, ↓wq0, ↓wq1, ↓wq2, ↓wq3, ↓wq4, ↓wq5, ↓wq6, ↓wq7, ↓wq8, ↓wq9, Int.natCast_zero, Int.natCast_one, Int.cast_ofNat_Int, hsz, hck, Tryz.underlying9]; try simp) ⟨[], by rw [e1]; rfl⟩ ⟨_, rfl⟩⟩
  | 4, _ =>
    have e : xsK r 4 = [i64 r.day, i64 r.min, i64 0, i64 r.mer, i64 0, i64 0, i64 0, i64 0, i64 0, i64 0] := rfl
    have e1 : xsK r 5 = [i64 r.day, i64 r.min, i64 0, i64 r.mer, i64 r.al, i64 0, i64 0, i64 0, i64 0, i64 0] := rfl
    rw [e]
    cases hn : numO w4 with
    | none =>
      have hN : O.map rdD = none := by rw [hO, if_neg (by rw [hn]; simp)]; rfl
      rw [hN]
      simp -implicitDefEqProofs only [go_sem, bas, basL, Nat.reduceAdd, Nat.reduceSub, Nat.reduceMul, Nat.reduceLT, Nat.reduceLeDiff, Nat.reduceEqDiff, Nat.reduceBEq, Int.reduceLT, Int.reduceLE, Int.reduceToNat, Int.reduceAdd, Int.reduceSub, Int.reduceMul, Int.reduceNeg, Int.reduceEq, reduceCtorEq, eq_self, ne_eq, not_false_eq_true, if_true, reduceIte, ↓wq0, ↓wq1, ↓wq2, ↓wq3, ↓wq4, ↓wq5, ↓wq6, ↓wq7, ↓wq8, ↓wq9, Int.natCast_zero, Int.natCast_one, Int.cast_ofNat_Int, hsz, hck, Tryz.underlying9]
      repeat' (first | (show Abs _ (.region 8 _ _) _ _; refine abs_regionE 2 rfl (none_nO hn) (fun K1 hK1 => ?_); simp -implicitDefEqProofs only [go_sem, bas, basL, Nat.reduceAdd, Nat.reduceSub, Nat.reduceMul, Nat.reduceLT, Nat.reduceLeDiff, Nat.reduceEqDiff, Nat.reduceBEq, Int.reduceLT, Int.reduceLE, Int.reduceToNat, Int.reduceAdd, Int.reduceSub, Int.reduceMul, Int.reduceNeg, Int.reduceEq, reduceCtorEq, eq_self, ne_eq, not_false_eq_true, if_true, reduceIte, ↓wq0, ↓wq1, ↓wq2, ↓wq3, ↓wq4, ↓wq5, ↓wq6, ↓wq7, ↓wq8, ↓wq9, Int.natCast_zero, Int.natCast_one, Int.cast_ofNat_Int, hsz, hck, Tryz.underlying9]) | refine abs_seq ?_ | refine abs_block ?_ | refine abs_skip ?_ | refine abs_scope ?_ | refine abs_label ?_ | refine abs_exit ?_ | refine abs_ret ?_ | ((first | refine abs_region fun K hK => ?_ | refine abs_draw Tryz.ty.mixed (by kernel_rfl) fun K hK => ?_ | refine abs_if ?_ | show retQ _ _ _ _ _); simp -implicitDefEqProofs only [go_sem, bas, basL, Nat.reduceAdd, Nat.reduceSub, Nat.reduceMul, Nat.reduceLT, Nat.reduceLeDiff, Nat.reduceEqDiff, Nat.reduceBEq, Int.reduceLT, Int.reduceLE, Int.reduceToNat, Int.reduceAdd, Int.reduceSub, Int.reduceMul, Int.reduceNeg, Int.reduceEq, reduceCtorEq, eq_self, ne_eq, not_false_eq_true, if_true, reduceIte, ↓wq0, ↓wq1, ↓wq2, ↓wq3, ↓wq4, ↓wq5, ↓wq6, ↓wq7, ↓wq8, ↓wq9, Int.natCast_zero, Int.natCast_one, Int.cast_ofNat_Int, hsz, hck, Tryz.underlying9]) | ((first | (refine hK _ ?_; clear hK K) | show thenQ _ _ _ _ | show blockQ _ _ _ _ | show noGoQ _ _ _); simp only [noGoQ, thenQ, blockQ, if_true, Nat.reduceEqDiff, reduceIte]) | (refine hK1 _ (atE_none ?_ ?_ (fun x => by simp only [thenQ, blockQ]; exact ende_panic)); clear hK1 K1) | (intro hg; first | (exfalso; omega) | (exfalso; contradiction) | skip) | apply And.intro | (with_reducible rfl) | (clear hK; omega) | omega)
      all_goals first | (show pureDsV _ _ _ = _; try simp -implicitDefEqProofs only [go_sem, bas, basL, Nat.reduceAdd, Nat.reduceSub, Nat.reduceMul, Nat.reduceLT, Nat.reduceLeDiff, Nat.reduceEqDiff, Nat.reduceBEq, Int.reduceLT, Int.reduceLE, Int.reduceToNat, Int.reduceAdd, Int.reduceSub, Int.reduceMul, Int.reduceNeg, Int.reduceEq, reduceCtorEq, eq_self, ne_eq, not_false_eq_true, if_true, reduceIte, ↓wq0, ↓wq1, ↓wq2, ↓wq3, ↓wq4, ↓wq5, ↓wq6, ↓wq7, ↓wq8, ↓wq9, Int.natCast_zero, Int.natCast_one, Int.cast_ofNat_Int, hsz, hck, Tryz.underlying9]; done) | (show dstOk _ _; rfl) | (show dstOk _ _; simp -implicitDefEqProofs only [go_sem, bas, basL, Nat.reduceAdd, Nat.reduceSub, Nat.reduceMul, Nat.reduceLT, Nat.reduceLeDiff, Nat.reduceEqDiff, Nat.reduceBEq, Int.reduceLT, Int.reduceLE, Int.reduceToNat, Int.reduceAdd, Int.reduceSub, Int.reduceMul, Int.reduceNeg, Int.reduceEq, reduceCtorEq, eq_self, ne_eq, not_false_eq_true, if_true, reduceIte, ↓wq0, ↓wq1, ↓wq2, ↓wq3, ↓wq4, ↓wq5, ↓wq6, ↓wq7, ↓wq8, ↓wq9, Int.natCast_zero, Int.natCast_one, Int.cast_ofNat_Int, hsz, hck, Tryz.underlying9]; done) | skip
    | some v =>
      have nj := some_nO hn
      rw [f4] at nj
      simp -implicitDefEqProofs only [go_sem, bas, basL, Nat.reduceAdd, Nat.reduceSub, Nat.reduceMul, Nat.reduceLT, Nat.reduceLeDiff, Nat.reduceEqDiff, Nat.reduceBEq, Int.reduceLT, Int.reduceLE, Int.reduceToNat, Int.reduceAdd, Int.reduceSub, Int.reduceMul, Int.reduceNeg, Int.reduceEq, reduceCtorEq, eq_self, ne_eq, not_false_eq_true, if_true, reduceIte, ↓wq0, ↓wq1, ↓wq2, ↓wq3, ↓wq4, ↓wq5, ↓wq6, ↓wq7, ↓wq8, ↓wq9, Int.natCast_zero, Int.natCast_one, Int.cast_ofNat_Int, hsz, hck, Tryz.underlying9]
      repeat' (first | refine abs_seq ?_ | refine abs_block ?_ | refine abs_skip ?_ | refine abs_scope ?_ | refine abs_label ?_ | refine abs_exit ?_ | refine abs_ret ?_ | ((first | refine abs_region fun K hK => ?_ | refine abs_draw Tryz.ty.mixed (by kernel_rfl) fun K hK => ?_ | refine abs_if ?_ | show retQ _ _ _ _ _ | refine callK (nj) ?_); simp -implicitDefEqProofs only [go_sem, bas, basL, Nat.reduceAdd, Nat.reduceSub, Nat.reduceMul, Nat.reduceLT, Nat.reduceLeDiff, Nat.reduceEqDiff, Nat.reduceBEq, Int.reduceLT, Int.reduceLE, Int.reduceToNat, Int.reduceAdd, Int.reduceSub, Int.reduceMul, Int.reduceNeg, Int.reduceEq, reduceCtorEq, eq_self, ne_eq, not_false_eq_true, if_true, reduceIte, ↓wq0, ↓wq1, ↓wq2, ↓wq3, ↓wq4, ↓wq5, ↓wq6, ↓wq7, ↓wq8, ↓wq9, Int.natCast_zero, Int.natCast_one, Int.cast_ofNat_Int, hsz, hck, Tryz.underlying9]) | ((first | (refine hK _ ?_; clear hK K) | show thenQ _ _ _ _ | show blockQ _ _ _ _ | show noGoQ _ _ _); simp only [noGoQ, thenQ, blockQ, if_true, Nat.reduceEqDiff, reduceIte]) | (intro hg; first | (exfalso; omega) | (exfalso; contradiction) | skip) | apply And.intro | (with_reducible rfl) | (clear hK; omega) | omega)
      exact ⟨5, isN_succ hj (by omega) (fun _ => by rw [hL]; show (numO w4).isSome = true; rw [hn]; rfl), by omega, le_of rfl (by try simp -implicitDefEqProofs only [go_sem, bas, basL, Nat.reduceAdd, Nat.reduceSub, Nat.reduceMul, Nat.reduceLT, Nat.reduceLeDiff, Nat.reduceEqDiff, Nat.reduceBEq, Int.reduceLT, Int.reduceLE, Int.reduceToNat, Int.reduceAdd, Int.reduceSub, Int.reduceMul, Int.reduceNeg, Int.reduceEq, reduceCtorEq, eq_self, ne_eq, not_false_eq_true, if_true, reduceIte, ↓wq0, ↓wq1, ↓wq2, ↓wq3, ↓wq4, ↓wq5, ↓wq6, ↓wq7, ↓wq8, ↓wq9, Int.natCast_zero, Int.natCast_one, Int.cast_ofNat_Int, hsz, hck, Tryz.underlying9]; try simp) ⟨[], by rw [e1]; rfl⟩ ⟨_, rfl⟩⟩
  | 5, _ =>
    have e : xsK r 5 = [i64 r.day, i64 r.min, i64 0, i64 r.mer, i64 r.al, i64 0, i64 0, i64 0, i64 0, i64 0] := rfl
    have e1 : xsK r 6 = [i64 r.day, i64 r.min, i64 0, i64 r.mer, i64 r.al, i64 r.ah, i64 0, i64 0, i64 0, i64 0] := rfl
    rw [e]
    cases hn : numO w5 with
    | none =>
      have hN : O.map rdD = none := by rw [hO, if_neg (by rw [hn]; simp)]; rfl
      rw [hN]
      simp -implicitDefEqProofs only [go_sem, bas, basL, Nat.reduceAdd, Nat.reduceSub, Nat.reduceMul, Nat.reduceLT, Nat.reduceLeDiff, Nat.reduceEqDiff, Nat.reduceBEq, Int.reduceLT, Int.reduceLE, Int.reduceToNat, Int.reduceAdd, Int.reduceSub, Int.reduceMul, Int.reduceNeg, Int.reduceEq, reduceCtorEq, eq_self, ne_eq, not_false_eq_true, if_true, reduceIte, ↓wq0, ↓wq1, ↓wq2, ↓wq3, ↓wq4, ↓wq5, ↓wq6, ↓wq7, ↓wq8, ↓wq9, Int.natCast_zero, Int.natCast_one, Int.cast_ofNat_Int, hsz, hck, Tryz.underlying9]
      repeat' (first | (show Abs _ (.region 8 _ _) _ _; refine abs_regionE 2 rfl (none_nO hn) (fun K1 hK1 => ?_); simp -implicitDefEqProofs only [go_sem, bas, basL, Nat.reduceAdd, Nat.reduceSub, Nat.reduceMul, Nat.reduceLT, Nat.reduceLeDiff, Nat.reduceEqDiff, Nat.reduceBEq, Int.reduceLT, Int.reduceLE, Int.reduceToNat, Int.reduceAdd, Int.reduceSub, Int.reduceMul, Int.reduceNeg, Int.reduceEq, reduceCtorEq, eq_self, ne_eq, not_false_eq_true, if_true, reduceIte, ↓wq0, ↓wq1, ↓wq2, ↓wq3, ↓wq4, ↓wq5, ↓wq6, ↓wq7, ↓wq8, ↓wq9, Int.natCast_zero, Int.natCast_one, Int.cast_ofNat_Int, hsz, hck, Tryz.underlying9]) | refine abs_seq ?_ | refine abs_block ?_ | refine abs_skip ?_ | refine abs_scope ?_ | refine abs_label ?_ | refine abs_exit ?_ | refine abs_ret ?_ | ((first | refine abs_region fun K hK => ?_ | refine abs_draw Tryz.ty.mixed (by kernel_rfl) fun K hK => ?_ | refine abs_if ?_ | show retQ _ _ _ _ _); simp -implicitDefEqProofs only [go_sem, bas, basL, Nat.reduceAdd, Nat.reduceSub, Nat.reduceMul, Nat.reduceLT, Nat.reduceLeDiff, Nat.reduceEqDiff, Nat.reduceBEq, Int.reduceLT, Int.reduceLE, Int.reduceToNat, Int.reduceAdd, Int.reduceSub, Int.reduceMul, Int.reduceNeg, Int.reduceEq, reduceCtorEq, eq_self, ne_eq, not_false_eq_true, if_true, reduceIte, ↓wq0, ↓wq1, ↓wq2, ↓wq3, ↓wq4, ↓wq5, ↓wq6, ↓wq7, ↓wq8, ↓wq9, Int.natCast_zero, Int.natCast_one, Int.cast_ofNat_Int, hsz, hck, Tryz.underlying9]) | ((first | (refine hK _ ?_; clear hK K) | show thenQ _ _ _ _ | show blockQ _ _ _ _ | show noGoQ _ _ _); simp only [noGoQ, thenQ, blockQ, if_true, Nat.reduceEqDiff, reduceIte]) | (refine hK1 _ (atE_none ?_ ?_ (fun x => by simp only [thenQ, blockQ]; exact ende_panic)); clear hK1 K1) | (intro hg; first | (exfalso; omega) | (exfalso; contradiction) | skip) | apply And.intro | (with_reducible rfl) | (clear hK; omega) | omega)
      all_goals first | (show pureDsV _ _ _ = _; try simp -implicitDefEqProofs only [go_sem, bas, basL, Nat.reduceAdd, Nat.reduceSub, Nat.reduceMul, Nat.reduceLT, Nat.reduceLeDiff, Nat.reduceEqDiff, Nat.reduceBEq, Int.reduceLT, Int.reduceLE, Int.reduceToNat, Int.reduceAdd, Int.reduceSub, Int.reduceMul, Int.reduceNeg, Int.reduceEq, reduceCtorEq, eq_self, ne_eq, not_false_eq_true, if_true, reduceIte, ↓wq0, ↓wq1, ↓wq2, ↓wq3, ↓wq4, ↓wq5, ↓wq6, ↓wq7, ↓wq8, ↓wq9, Int.natCast_zero, Int.natCast_one, Int.cast_ofNat_Int, hsz, hck, Tryz.underlying9]; done) | (show dstOk _ _; rfl) | (show dstOk _ _; simp -implicitDefEqProofs only [go_sem, bas, basL, Nat.reduceAdd, Nat.reduceSub, Nat.reduceMul, Nat.reduceLT, Nat.reduceLeDiff, Nat.reduceEqDiff, Nat.reduceBEq, Int.reduceLT, Int.reduceLE, Int.reduceToNat, Int.reduceAdd, Int.reduceSub, Int.reduceMul, Int.reduceNeg, Int.reduceEq, reduceCtorEq, eq_self, ne_eq, not_false_eq_true, if_true, reduceIte, ↓wq0, ↓wq1, ↓wq2, ↓wq3, ↓wq4, ↓wq5, ↓wq6, ↓wq7, ↓wq8, ↓wq9, Int.natCast_zero, Int.natCast_one, Int.cast_ofNat_Int, hsz, hck, Tryz.underlying9]; done) | skip
    | some v =>
      have nj := some_nO hn
      rw [f5] at nj
      simp -implicitDefEqProofs only [go_sem, bas, basL, Nat.reduceAdd, Nat.reduceSub, Nat.reduceMul, Nat.reduceLT, Nat.reduceLeDiff, Nat.reduceEqDiff, Nat.reduceBEq, Int.reduceLT, Int.reduceLE, Int.reduceToNat, Int.reduceAdd, Int.reduceSub, Int.reduceMul, Int.reduceNeg, Int.reduceEq, reduceCtorEq, eq_self, ne_eq, not_false_eq_true, if_true, reduceIte, ↓wq0, ↓wq1, ↓wq2, ↓wq3, ↓wq4, ↓wq5, ↓wq6, ↓wq7, ↓wq8, ↓wq9, Int.natCast_zero, Int.natCast_one, Int.cast_ofNat_Int, hsz, hck, Tryz.underlying9]
      repeat' (first | refine abs_seq ?_ | refine abs_block ?_ | refine abs_skip ?_ | refine abs_scope ?_ | refine abs_label ?_ | refine abs_exit ?_ | refine abs_ret ?_ | ((first | refine abs_region fun K hK => ?_ | refine abs_draw Tryz.ty.mixed (by kernel_rfl) fun K hK => ?_ | refine abs_if ?_ | show retQ _ _ _ _ _ | refine callK (nj) ?_); simp -implicitDefEqProofs only [go_sem, bas, basL, Nat.reduceAdd, Nat.reduceSub, Nat.reduceMul, Nat.reduceLT, Nat.reduceLeDiff, Nat.reduceEqDiff, Nat.reduceBEq, Int.reduceLT, Int.reduceLE, Int.reduceToNat, Int.reduceAdd, Int.reduceSub, Int.reduceMul, Int.reduceNeg, Int.reduceEq, reduceCtorEq, eq_self, ne_eq, not_false_eq_true, if_true, reduceIte, ↓wq0, ↓wq1, ↓wq2, ↓wq3, ↓wq4, ↓wq5, ↓wq6, ↓wq7, ↓wq8, ↓wq9, Int.natCast_zero, Int.natCast_one, Int.cast_ofNat_Int, hsz, hck, Tryz.underlying9]) | ((first | (refine hK _ ?_; clear hK K) | show thenQ _ _ _ _ | show blockQ _ _ _ _ | show noGoQ _ _ _); simp only [noGoQ, thenQ, blockQ, if_true, Nat.reduceEqDiff, reduceIte]) | (intro hg; first | (exfalso; omega) | (exfalso; contradiction) | skip) | apply And.intro | (with_reducible rfl) | (clear hK; omega) | omega)
      exact ⟨6, isN_succ hj (by omega) (fun _ => by rw [hL]; show (numO w5).isSome = true; rw [hn]; rfl), by omega, le_of rfl (by try simp -implicitDefEqProofs only [go_sem, bas, basL, Nat.reduceAdd, Nat.reduceSub, Nat.reduceMul, Nat.reduceLT, Nat.reduceLeDiff, Nat.reduceEqDiff, Nat.reduceBEq, Int.reduceLT, Int.reduceLE, Int.reduceToNat, Int.reduceAdd, Int.reduceSub, Int.reduceMul, Int.reduceNeg, Int.reduceEq, reduceCtorEq, eq_self, ne_eq, not_false_eq_true, if_true, reduceIte, ↓wq0, ↓wq1, ↓wq2, ↓wq3, ↓wq4, ↓wq5, ↓wq6, ↓wq7, ↓wq8, ↓wq9, Int.natCast_zero, Int.natCast_one, Int.cast_ofNat_Int, hsz, hck, Tryz.underlying9]; try simp) ⟨[], by rw [e1]; rfl⟩ ⟨_, rfl⟩⟩
  | 6, _ =>
    have e : xsK r 6 = [i64 r.day, i64 r.min, i64 0, i64 r.mer, i64 r.al, i64 r.ah, i64 0, i64 0, i64 0, i64 0] := rfl
    have e1 : xsK r 7 = [i64 r.day, i64 r.min, i64 0, i64 r.mer, i64 r.al, i64 r.ah, i64 r.dl, i64 0, i64 0, i64 0] := rfl
    rw [e]
    cases hn : numO w6 with
    | none =>
      have hN : O.map rdD = none := by rw [hO, if_neg (by rw [hn]; simp)]; rfl
      rw [hN]
      simp -implicitDefEqProofs only [go_sem, bas, basL, Nat.reduceAdd, Nat.reduceSub, Nat.reduceMul, Nat.reduceLT, Nat.reduceLeDiff, Nat.reduceEqDiff, Nat.reduceBEq, Int.reduceLT, Int.reduceLE, Int.reduceToNat, Int.reduceAdd, Int.reduceSub, Int.reduceMul, Int.reduceNeg, Int.reduceEq, reduceCtorEq, eq_self, ne_eq, not_false_eq_true, if_true, reduceIte, ↓wq0, ↓wq1, ↓wq2, ↓wq3, ↓wq4, ↓wq5, ↓wq6, ↓wq7, ↓wq8, ↓wq9, Int.natCast_zero, Int.natCast_one, Int.cast_ofNat_Int, hsz, hck, Tryz.underlying9]
      repeat' (first | (show Abs _ (.region 8 _ _) _ _; refine abs_regionE 2 rfl (none_nO hn) (fun K1 hK1 => ?_); simp -implicitDefEqProofs only [go_sem, bas, basL, Nat.reduceAdd, Nat.reduceSub, Nat.reduceMul, Nat.reduceLT, Nat.reduceLeDiff, Nat.reduceEqDiff, Nat.reduceBEq, Int.reduceLT, Int.reduceLE, Int.reduceToNat, Int.reduceAdd, Int.reduceSub, Int.reduceMul, Int.reduceNeg, Int.reduceEq, reduceCtorEq, eq_self, ne_eq, not_false_eq_true, if_true, reduceIte, ↓wq0, ↓wq1, ↓wq2, ↓wq3, ↓wq4, ↓wq5, ↓wq6, ↓wq7, ↓wq8, ↓wq9, Int.natCast_zero, Int.natCast_one, Int.cast_ofNat_Int, hsz, hck, Tryz.underlying9]) | refine abs_seq ?_ | refine abs_block ?_ | refine abs_skip ?_ | refine abs_scope ?_ | refine abs_label ?_ | refine abs_exit ?_ | refine abs_ret ?_ | ((first | refine abs_region fun K hK => ?_ | refine abs_draw Tryz.ty.mixed (by kernel_rfl) fun K hK => ?_ | refine abs_if ?_ | show retQ _ _ _ _ _); simp -implicitDefEqProofs only [go_sem, bas, basL, Nat.reduceAdd, Nat.reduceSub, Nat.reduceMul, Nat.reduceLT, Nat.reduceLeDiff, Nat.reduceEqDiff, Nat.reduceBEq, Int.reduceLT, Int.reduceLE, Int.reduceToNat, Int.reduceAdd, Int.reduceSub, Int.reduceMul, Int.reduceNeg, Int.reduceEq, reduceCtorEq, eq_self, ne_eq, not_false_eq_true, if_true, reduceIte, ↓wq0, ↓wq1, ↓wq2, ↓wq3, ↓wq4, ↓wq5, ↓wq6, ↓wq7, ↓wq8, ↓wq9, Int.natCast_zero, Int.natCast_one, Int.cast_ofNat_Int, hsz, hck, Tryz.underlying9]) | ((first | (refine hK _ ?_; clear hK K) | show thenQ _ _ _ _ | show blockQ _ _ _ _ | show noGoQ _ _ _); simp only [noGoQ, thenQ, blockQ, if_true, Nat.reduceEqDiff, reduceIte]) | (refine hK1 _ (atE_none ?_ ?_ (fun x => by simp only [thenQ, blockQ]; exact ende_panic)); clear hK1 K1) | (intro hg; first | (exfalso; omega) | (exfalso; contradiction) | skip) | apply And.intro | (with_reducible rfl) | (clear hK; omega) | omega)
      all_goals first | (show pureDsV _ _ _ = _; try simp -implicitDefEqProofs only [go_sem, bas, basL, Nat.reduceAdd, Nat.reduceSub, Nat.reduceMul, Nat.reduceLT, Nat.reduceLeDiff, Nat.reduceEqDiff, Nat.reduceBEq, Int.reduceLT, Int.reduceLE, Int.reduceToNat, Int.reduceAdd, Int.reduceSub, Int.reduceMul, Int.reduceNeg, Int.reduceEq, reduceCtorEq, eq_self, ne_eq, not_false_eq_true, if_true, reduceIte, ↓wq0, ↓wq1, ↓wq2, ↓wq3, ↓wq4, ↓wq5, ↓wq6, ↓wq7, ↓wq8, ↓wq9, Int.natCast_zero, Int.natCast_one, Int.cast_ofNat_Int, hsz, hck, Tryz.underlying9]; done) | (show dstOk _ _; rfl) | (show dstOk _ _; simp -implicitDefEqProofs only [go_sem, bas, basL, Nat.reduceAdd, Nat.reduceSub, Nat.reduceMul, Nat.reduceLT, Nat.reduceLeDiff, Nat.reduceEqDiff, Nat.reduceBEq, Int.reduceLT, Int.reduceLE, Int.reduceToNat, Int.reduceAdd, Int.reduceSub, Int.reduceMul, Int.reduceNeg, Int.reduceEq, reduceCtorEq, eq_self, ne_eq, not_false_eq_true, if_true, reduceIte, ↓wq0, ↓wq1, ↓wq2, ↓wq3, ↓wq4, ↓wq5, ↓wq6, ↓wq7, ↓wq8, ↓wq9, Int.natCast_zero, Int.natCast_one, Int.cast_ofNat_Int, hsz, hck, Tryz.underlying9]; done) | skip
    | some v =>
      have nj := some_nO hn
      rw [f6] at nj
      simp -implicitDefEqProofs only [go_sem, bas, basL, Nat.reduceAdd, Nat.reduceSub, Nat.reduceMul, Nat.reduceLT, Nat.reduceLeDiff, Nat.reduceEqDiff, Nat.reduceBEq, Int.reduceLT, Int.reduceLE, Int.reduceToNat, Int.reduceAdd, Int.reduceSub, Int.reduceMul, Int.reduceNeg, Int.reduceEq, reduceCtorEq, eq_self, ne_eq, not_false_eq_true, if_true, reduceIte, ↓wq0, ↓wq1, ↓wq2, ↓wq3, ↓wq4, ↓wq5, ↓wq6, ↓wq7, ↓wq8, ↓wq9, Int.natCast_zero, Int.natCast_one, Int.cast_ofNat_Int, hsz, hck, Tryz.underlying9]
      repeat' (first | refine abs_seq ?_ | refine abs_block ?_ | refine abs_skip ?_ | refine abs_scope ?_ | refine abs_label ?_ | refine abs_exit ?_ | refine abs_ret ?_ | ((first | refine abs_region fun K hK => ?_ | refine abs_draw Tryz.ty.mixed (by kernel_rfl) fun K hK => ?_ | refine abs_if ?_ | show retQ _ _ _ _ _ | refine callK (nj) ?_); simp -implicitDefEqProofs only [go_sem, bas, basL, Nat.reduceAdd, Nat.reduceSub, Nat.reduceMul, Nat.reduceLT, Nat.reduceLeDiff, Nat.reduceEqDiff, Nat.reduceBEq, Int.reduceLT, Int.reduceLE, Int.reduceToNat, Int.reduceAdd, Int.reduceSub, Int.reduceMul, Int.reduceNeg, Int.reduceEq, reduceCtorEq, eq_self, ne_eq, not_false_eq_true, if_true, reduceIte, ↓wq0, ↓wq1, ↓wq2, ↓wq3, ↓wq4, ↓wq5, ↓wq6, ↓wq7, ↓wq8, ↓wq9, Int.natCast_zero, Int.natCast_one, Int.cast_ofNat_Int, hsz, hck, Tryz.underlying9]) | ((first | (refine hK _ ?_; clear hK K) | show thenQ _ _ _ _ | show blockQ _ _ _ _ | show noGoQ _ _ _); simp only [noGoQ, thenQ, blockQ, if_true, Nat.reduceEqDiff, reduceIte]) | (intro hg; first | (exfalso; omega) | (exfalso; contradiction) | skip) | apply And.intro | (with_reducible rfl) | (clear hK; omega) | omega)
      exact ⟨7, isN_succ hj (by omega) (fun _ => by rw [hL]; show (numO w6).isSome = true; rw [hn]; rfl), by omega, le_of rfl (by try simp -implicitDefEqProofs only [go_sem, bas, basL, Nat.reduceAdd, Nat.reduceSub, Nat.reduceMul, Nat.reduceLT, Nat.reduceLeDiff, Nat.reduceEqDiff, Nat.reduceBEq, Int.reduceLT, Int.reduceLE, Int.reduceToNat, Int.reduceAdd, Int.reduceSub, Int.reduceMul, Int.reduceNeg, Int.reduceEq, reduceCtorEq, eq_self, ne_eq, not_false_eq_true, if_true, reduceIte, ↓wq0, ↓wq1, ↓wq2, ↓wq3, ↓wq4, ↓wq5, ↓wq6, ↓wq7, ↓wq8, ↓wq9, Int.natCast_zero, Int.natCast_one, Int.cast_ofNat_Int, hsz, hck, Tryz.underlying9]; try simp) ⟨[], by rw [e1]; rfl⟩ ⟨_, rfl⟩⟩
  | 7, _ =>
    have e : xsK r 7 = [i64 r.day, i64 r.min, i64 0, i64 r.mer, i64 r.al, i64 r.ah, i64 r.dl, i64 0, i64 0, i64 0] := rfl
    have e1 : xsK r 8 = [i64 r.day, i64 r.min, i64 0, i64 r.mer, i64 r.al, i64 r.ah, i64 r.dl, i64 r.dh, i64 0, i64 0] := rfl
    rw [e]
    cases hn : numO w7 with
    | none =>
      have hN : O.map rdD = none := by rw [hO, if_neg (by rw [hn]; simp)]; rfl
      rw [hN]
      simp -implicitDefEqProofs only [go_sem, bas, basL, Nat.reduceAdd, Nat.reduceSub, Nat.reduceMul, Nat.reduceLT, Nat.reduceLeDiff, Nat.reduceEqDiff, Nat.reduceBEq, Int.reduceLT, Int.reduceLE, Int.reduceToNat, Int.reduceAdd, Int.reduceSub, Int.reduceMul, Int.reduceNeg, Int.reduceEq, reduceCtorEq, eq_self, ne_eq, not_false_eq_true, if_true, reduceIte, ↓wq0, ↓wq1, ↓wq2, ↓wq3, ↓wq4, ↓wq5, ↓wq6, ↓wq7, ↓wq8, ↓wq9, Int.natCast_zero, Int.natCast_one, Int.cast_ofNat_Int, hsz, hck, Tryz.underlying9]
      repeat' (first | (show Abs _ (.region 8 _ _) _ _; refine abs_regionE 2 rfl (none_nO hn) (fun K1 hK1 => ?_); simp -implicitDefEqProofs only [go_sem, bas, basL, Nat.reduceAdd, Nat.reduceSub, Nat.reduceMul, Nat.reduceLT, Nat.reduceLeDiff, Nat.reduceEqDiff, Nat.reduceBEq, Int.reduceLT, Int.reduceLE, Int.reduceToNat, Int.reduceAdd, Int.reduceSub, Int.reduceMul, Int.reduceNeg, Int.reduceEq, reduceCtorEq, eq_self, ne_eq, not_false_eq_true, if_true, reduceIte, ↓wq0, ↓wq1, ↓wq2, ↓wq3, ↓wq4, ↓wq5, ↓wq6, ↓wq7, ↓wq8, ↓wq9, Int.natCast_zero, Int.natCast_one, Int.cast_ofNat_Int, hsz, hck, Tryz.underlying9]) | refine abs_seq ?_ | refine abs_block ?_ | refine abs_skip ?_ | refine abs_scope ?_ | refine abs_label ?_ | refine abs_exit ?_ | refine abs_ret ?_ | ((first | refine abs_region fun K hK => ?_ | refine abs_draw Tryz.ty.mixed (by kernel_rfl) fun K hK => ?_ | refine abs_if ?_ | show retQ _ _ _ _ _); simp -implicitDefEqProofs only [go_sem, bas, basL, Nat.reduceAdd, Nat.reduceSub, Nat.reduceMul, Nat.reduceLT, Nat.reduceLeDiff, Nat.reduceEqDiff, Nat.reduceBEq, Int.reduceLT, Int.reduceLE, Int.reduceToNat, Int.reduceAdd, Int.reduceSub, Int.reduceMul, Int.reduceNeg, Int.reduceEq, reduceCtorEq, eq_self, ne_eq, not_false_eq_true, if_true, reduceIte, ↓wq0, ↓wq1, ↓wq2, ↓wq3, ↓wq4, ↓wq5, ↓wq6, ↓wq7, ↓wq8, ↓wq9, Int.natCast_zero, Int.natCast_one, Int.cast_ofNat_Int, hsz, hck, Tryz.underlying9]) | ((first | (refine hK _ ?_; clear hK K) | show thenQ _ _ _ _ | show blockQ _ _ _ _ | show noGoQ _ _ _); simp only [noGoQ, thenQ, blockQ, if_true, Nat.reduceEqDiff, reduceIte]) | (refine hK1 _ (atE_none ?_ ?_ (fun x => by simp only [thenQ, blockQ]; exact ende_panic)); clear hK1 K1) | (intro hg; first | (exfalso; omega) | (exfalso; contradiction) | skip) | apply And.intro | (with_reducible rfl) | (clear hK; omega) | omega)
      all_goals first | (show pureDsV _ _ _ = _; try simp -implicitDefEqProofs only [go_sem, bas, basL, Nat.reduceAdd, Nat.reduceSub, Nat.reduceMul, Nat.reduceLT, Nat.reduceLeDiff, Nat.reduceEqDiff, Nat.reduceBEq, Int.reduceLT, Int.reduceLE, Int.reduceToNat, Int.reduceAdd, Int.reduceSub, Int.reduceMul, Int.reduceNeg, Int.reduceEq, reduceCtorEq, eq_self, ne_eq, not_false_eq_true, if_true, reduceIte, ↓wq0, ↓wq1, ↓wq2, ↓wq3, ↓wq4, ↓wq5, ↓wq6, ↓wq7, ↓wq8, ↓wq9, Int.natCast_zero, Int.natCast_one, Int.cast_ofNat_Int, hsz, hck, Tryz.underlying9]; done) | (show dstOk _ _; rfl) | (show dstOk _ _; simp -implicitDefEqProofs only [go_sem, bas, basL, Nat.reduceAdd, Nat.reduceSub, Nat.reduceMul, Nat.reduceLT, Nat.reduceLeDiff, Nat.reduceEqDiff, Nat.reduceBEq, Int.reduceLT, Int.reduceLE, Int.reduceToNat, Int.reduceAdd, Int.reduceSub, Int.reduceMul, Int.reduceNeg, Int.reduceEq, reduceCtorEq, eq_self, ne_eq, not_false_eq_true, if_true, reduceIte, ↓wq0, ↓wq1, ↓wq2, ↓wq3, ↓wq4, ↓wq5, ↓wq6, ↓wq7, ↓wq8, ↓wq9, Int.natCast_zero, Int.natCast_one, Int.cast_ofNat_Int, hsz, hck, Tryz.underlying9]; done) | skip
    | some v =>
      have nj := some_nO hn
      rw [f7] at nj
      simp -implicitDefEqProofs only [go_sem, bas, basL, Nat.reduceAdd, Nat.reduceSub, Nat.reduceMul, Nat.reduceLT, Nat.reduceLeDiff, Nat.reduceEqDiff, Nat.reduceBEq, Int.reduceLT, Int.reduceLE, Int.reduceToNat, Int.reduceAdd, Int.reduceSub, Int.reduceMul, Int.reduceNeg, Int.reduceEq, reduceCtorEq, eq_self, ne_eq, not_false_eq_true, if_true, reduceIte, ↓wq0, ↓wq1, ↓wq2, ↓wq3, ↓wq4, ↓wq5, ↓wq6, ↓wq7, ↓wq8, ↓wq9, Int.natCast_zero, Int.natCast_one, Int.cast_ofNat_Int, hsz, hck, Tryz.underlying9]
      repeat' (first | refine abs_seq ?_ | refine abs_block ?_ | refine abs_skip ?_ | refine abs_scope ?_ | refine abs_label ?_ | refine abs_exit ?_ | refine abs_ret ?_ | ((first | refine abs_region fun K hK => ?_ | refine abs_draw Tryz.ty.mixed (by kernel_rfl) fun K hK => ?_ | refine abs_if ?_ | show retQ _ _ _ _ _ | refine callK (nj) ?_); simp -implicitDefEqProofs only [go_sem, bas, basL, Nat.reduceAdd, Nat.reduceSub, Nat.reduceMul, Nat.reduceLT, Nat.reduceLeDiff, Nat.reduceEqDiff, Nat.reduceBEq, Int.reduceLT, Int.reduceLE, Int.reduceToNat, Int.reduceAdd, Int.reduceSub, Int.reduceMul, Int.reduceNeg, Int.reduceEq, reduceCtorEq, eq_self, ne_eq, not_false_eq_true, if_true, reduceIte, ↓wq0, ↓wq1, ↓wq2, ↓wq3, ↓wq4, ↓wq5, ↓wq6, ↓wq7, ↓wq8, ↓wq9, Int.natCast_zero, Int.natCast_one, Int.cast_ofNat_Int, hsz, hck, Tryz.underlying9]) | ((first | (refine hK _ ?_; clear hK K) | show thenQ _ _ _ _ | show blockQ _ _ _ _ | show noGoQ _ _ _); simp only [noGoQ, thenQ, blockQ, if_true, Nat.reduceEqDiff, reduceIte]) | (intro hg; first | (exfalso; omega) | (exfalso; contradiction) | skip) | apply And.intro | (with_reducible rfl) | (clear hK; omega) | omega)
      exact ⟨8, isN_succ hj (by omega) (fun _ => by rw [hL]; show (numO w7).isSome = true; rw [hn]; rfl), by omega, le_of rfl (by try simp -implicitDefEqProofs only [go_sem, bas, basL, Nat.reduceAdd, Nat.reduceSub, Nat.reduceMul, Nat.reduceLT, Nat.reduceLeDiff, Nat.reduceEqDiff, Nat.reduceBEq, Int.reduceLT, Int.reduceLE, Int.reduceToNat, Int.reduceAdd, Int.reduceSub, Int.reduceMul, Int.reduceNeg, Int.reduceEq, reduceCtorEq, eq_self, ne_eq, not_false_eq_true, if_true, reduceIte, ↓wq0, ↓wq1, ↓wq2, ↓wq3, ↓wq4, ↓wq5, ↓wq6, ↓wq7, ↓wq8, ↓wq9, Int.natCast_zero, Int.natCast_one, Int.cast_ofNat_Int, hsz, hck, Tryz.underlying9]; try simp) ⟨[], by rw [e1]; rfl⟩ ⟨_, rfl⟩⟩
  | 8, _ =>
    have e : xsK r 8 = [i64 r.day, i64 r.min, i64 0, i64 r.mer, i64 r.al, i64 r.ah, i64 r.dl, i64 r.dh, i64 0, i64 0] := rfl
    have e1 : xsK r 9 = [i64 r.day, i64 r.min, i64 0, i64 r.mer, i64 r.al, i64 r.ah, i64 r.dl, i64 r.dh, i64 r.wl, i64 0] := rfl
    rw [e]
    cases hn : numO w8 with
    | none =>
      have hN : O.map rdD = none := by rw [hO, if_neg (by rw [hn]; simp)]; rfl
      rw [hN]
      simp -implicitDefEqProofs only [go_sem, bas, basL, Nat.reduceAdd, Nat.reduceSub, Nat.reduceMul, Nat.reduceLT, Nat.reduceLeDiff, Nat.reduceEqDiff, Nat.reduceBEq, Int.reduceLT, Int.reduceLE, Int.reduceToNat, Int.reduceAdd, Int.reduceSub, Int.reduceMul, Int.reduceNeg, Int.reduceEq, reduceCtorEq, eq_self, ne_eq, not_false_eq_true, if_true, reduceIte, ↓wq0, ↓wq1, ↓wq2, ↓wq3, ↓wq4, ↓wq5, ↓wq6, ↓wq7, ↓wq8, ↓wq9, Int.natCast_zero, Int.natCast_one, Int.cast_ofNat_Int, hsz, hck, Tryz.underlying9]
      repeat' (first | (show Abs _ (.region 8 _ _) _ _; refine abs_regionE 2 rfl (none_nO hn) (fun K1 hK1 => ?_); simp -implicitDefEqProofs only [go_sem, bas, basL, Nat.reduceAdd, Nat.reduceSub, Nat.reduceMul, Nat.reduceLT, Nat.reduceLeDiff, Nat.reduceEqDiff, Nat.reduceBEq, Int.reduceLT, Int.reduceLE, Int.reduceToNat, Int.reduceAdd, Int.reduceSub, Int.reduceMul, Int.reduceNeg, Int.reduceEq, reduceCtorEq, eq_self, ne_eq, not_false_eq_true, if_true, reduceIte, ↓wq0, ↓wq1, ↓wq2, ↓wq3, ↓wq4, ↓wq5, ↓wq6, ↓wq7, ↓wq8, ↓wq9, Int.natCast_zero, Int.natCast_one, Int.cast_ofNat_Int, hsz, hck, Tryz.underlying9]) | refine abs_seq ?_ | refine abs_block ?_ | refine abs_skip ?_ | refine abs_scope ?_ | refine abs_label ?_ | refine abs_exit ?_ | refine abs_ret ?_ | ((first | refine abs_region fun K hK => ?_ | refine abs_draw Tryz.ty.mixed (by kernel_rfl) fun K hK => ?_ | refine abs_if ?_ | show retQ _ _ _ _ _); simp -implicitDefEqProofs only [go_sem, bas, basL, Nat.reduceAdd, Nat.reduceSub, Nat.reduceMul, Nat.reduceLT, Nat.reduceLeDiff, Nat.reduceEqDiff, Nat.reduceBEq, Int.reduceLT, Int.reduceLE, Int.reduceToNat, Int.reduceAdd, Int.reduceSub, Int.reduceMul, Int.reduceNeg, Int.reduceEq, reduceCtorEq, eq_self, ne_eq, not_false_eq_true, if_true, reduceIte, ↓wq0, ↓wq1, ↓wq2, ↓wq3, ↓wq4, ↓wq5, ↓wq6, ↓wq7, ↓wq8, ↓wq9, Int.natCast_zero, Int.natCast_one, Int.cast_ofNat_Int, hsz, hck, Tryz.underlying9]) | ((first | (refine hK _ ?_; clear hK K) | show thenQ _ _ _ _ | show blockQ _ _ _ _ | show noGoQ _ _ _); simp only [noGoQ, thenQ, blockQ, if_true, Nat.reduceEqDiff, reduceIte]) | (refine hK1 _ (atE_none ?_ ?_ (fun x => by simp only [thenQ, blockQ]; exact ende_panic)); clear hK1 K1) | (intro hg; first | (exfalso; omega) | (exfalso; contradiction) | skip) | apply And.intro | (with_reducible rfl) | (clear hK; omega) | omega)
      all_goals first | (show pureDsV _ _ _ = _; try simp -implicitDefEqProofs only [go_sem, bas, basL, Nat.reduceAdd, Nat.reduceSub, Nat.reduceMul, Nat.reduceLT, Nat.reduceLeDiff, Nat.reduceEqDiff, Nat.reduceBEq, Int.reduceLT, Int.reduceLE, Int.reduceToNat, Int.reduceAdd, Int.reduceSub, Int.reduceMul, Int.reduceNeg, Int.reduceEq, reduceCtorEq, eq_self, ne_eq, not_false_eq_true, if_true, reduceIte, ↓wq0, ↓wq1, ↓wq2, ↓wq3, ↓wq4, ↓wq5, ↓wq6, ↓wq7, ↓wq8, ↓wq9, Int.natCast_zero, Int.natCast_one, Int.cast_ofNat_Int, hsz, hck, Tryz.underlying9]; done) | (show dstOk _ _; rfl) | (show dstOk _ _; simp -implicitDefEqProofs only [go_sem, bas, basL, Nat.reduceAdd, Nat.reduceSub, Nat.reduceMul, Nat.reduceLT, Nat.reduceLeDiff, Nat.reduceEqDiff, Nat.reduceBEq, Int.reduceLT, Int.reduceLE, Int.reduceToNat, Int.reduceAdd, Int.reduceSub, Int.reduceMul, Int.reduceNeg, Int.reduceEq, reduceCtorEq, eq_self, ne_eq, not_false_eq_true, if_true, reduceIte, ↓wq0, ↓wq1, ↓wq2, ↓wq3, ↓wq4, ↓wq5, ↓wq6, ↓wq7, ↓wq8, ↓wq9, Int.natCast_zero, Int.natCast_one, Int.cast_ofNat_Int, hsz, hck, Tryz.underlying9]; done) | skip
    | some v =>
      have nj := some_nO hn
      rw [f8] at nj
      simp -implicitDefEqProofs only [go_sem, bas, basL, Nat.reduceAdd, Nat.reduceSub, Nat.reduceMul, Nat.reduceLT, Nat.reduceLeDiff, Nat.reduceEqDiff, Nat.reduceBEq, Int.reduceLT, Int.reduceLE, Int.reduceToNat, Int.reduceAdd, Int.reduceSub, Int.reduceMul, Int.reduceNeg, Int.reduceEq, reduceCtorEq, eq_self, ne_eq, not_false_eq_true, if_true, reduceIte, ↓wq0, ↓wq1, ↓wq2, ↓wq3, ↓wq4, ↓wq5, ↓wq6, ↓wq7, ↓wq8, ↓wq9, Int.natCast_zero, Int.natCast_one, Int.cast_ofNat_Int, hsz, hck, Tryz.underlying9]
      repeat' (first | refine abs_seq ?_ | refine abs_block ?_ | refine abs_skip ?_ | refine abs_scope ?_ | refine abs_label ?_ | refine abs_exit ?_ | refine abs_ret ?_ | ((first | refine abs_region fun K hK => ?_ | refine abs_draw Tryz.ty.mixed (by kernel_rfl) fun K hK => ?_ | refine abs_if ?_ | show retQ _ _ _ _ _ | refine callK (nj) ?_); simp -implicitDefEqProofs only [go_sem, bas, basL, Nat.reduceAdd, Nat.reduceSub, Nat.reduceMul, Nat.reduceLT, Nat.reduceLeDiff, Nat.reduceEqDiff, Nat.reduceBEq, Int.reduceLT, Int.reduceLE, Int.reduceToNat, Int.reduceAdd, Int.reduceSub, Int.reduceMul, Int.reduceNeg, Int.reduceEq, reduceCtorEq, eq_self, ne_eq, not_false_eq_true, if_true, reduceIte, ↓wq0, ↓wq1, ↓wq2, ↓wq3, ↓wq4, ↓wq5, ↓wq6, ↓wq7, ↓wq8, ↓wq9, Int.natCast_zero, Int.natCast_one, Int.cast_ofNat_Int, hsz, hck, Tryz.underlying9]) | ((first | (refine hK _ ?_; clear hK K) | show thenQ _ _ _ _ | show blockQ _ _ _ _ | show noGoQ _ _ _); simp only [noGoQ, thenQ, blockQ, if_true, Nat.reduceEqDiff, reduceIte]) | (intro hg; first | (exfalso; omega) | (exfalso; contradiction) | skip) | apply And.intro | (with_reducible rfl) | (clear hK; omega) | omega)
      exact ⟨9, isN_succ hj (by omega) (fun _ => by rw [hL]; show (numO w8).isSome = true; rw [hn]; rfl), by omega, le_of rfl (by try simp -implicitDefEqProofs only [go_sem, bas, basL, Nat.reduceAdd, Nat.reduceSub, Nat.reduceMul, Nat.reduceLT, Nat.reduceLeDiff, Nat.reduceEqDiff, Nat.reduceBEq, Int.reduceLT, Int.reduceLE, Int.reduceToNat, Int.reduceAdd, Int.reduceSub, Int.reduceMul, Int.reduceNeg, Int.reduceEq, reduceCtorEq, eq_self, ne_eq, not_false_eq_true, if_true, reduceIte, ↓wq0, ↓wq1, ↓wq2, ↓wq3, ↓wq4, ↓wq5, ↓wq6, ↓wq7, ↓wq8, ↓wq9, Int.natCast_zero, Int.natCast_one, Int.cast_ofNat_Int, hsz, hck, Tryz.underlying9]; try simp) ⟨[], by rw [e1]; rfl⟩ ⟨_, rfl⟩⟩
  | 9, _ =>
    have e : xsK r 9 = [i64 r.day, i64 r.min, i64 0, i64 r.mer, i64 r.al, i64 r.ah, i64 r.dl, i64 r.dh, i64 r.wl, i64 0] := rfl
    have e1 : xsK r 10 = [i64 r.day, i64 r.min, i64 0, i64 r.mer, i64 r.al, i64 r.ah, i64 r.dl, i64 r.dh, i64 r.wl, i64 r.wh] := rfl
    rw [e]
    cases hn : numO w9 with
    | none =>
      have hN : O.map rdD = none := by rw [hO, if_neg (by rw [hn]; simp)]; rfl
      rw [hN]
      simp -implicitDefEqProofs only [go_sem, bas, basL, Nat.reduceAdd, Nat.reduceSub, Nat.reduceMul, Nat.reduceLT, Nat.reduceLeDiff, Nat.reduceEqDiff, Nat.reduceBEq, Int.reduceLT, Int.reduceLE, Int.reduceToNat, Int.reduceAdd, Int.reduceSub, Int.reduceMul, Int.reduceNeg, Int.reduceEq, reduceCtorEq, eq_self, ne_eq, not_false_eq_true, if_true, reduceIte, ↓wq0, ↓wq1, ↓wq2, ↓wq3, ↓wq4, ↓wq5, ↓wq6, ↓wq7, ↓wq8, ↓wq9, Int.natCast_zero, Int.natCast_one, Int.cast_ofNat_Int, hsz, hck, Tryz.underlying9]
      repeat' (first | (show Abs _ (.region 8 _ _) _ _; refine abs_regionE 2 rfl (none_nO hn) (fun K1 hK1 => ?_); simp -implicitDefEqProofs only [go_sem, bas, basL, Nat.reduceAdd, Nat.reduceSub, Nat.reduceMul, Nat.reduceLT, Nat.reduceLeDiff, Nat.reduceEqDiff, Nat.reduceBEq, Int.reduceLT, Int.reduceLE, Int.reduceToNat, Int.reduceAdd, Int.reduceSub, Int.reduceMul, Int.reduceNeg, Int.reduceEq, reduceCtorEq, eq_self, ne_eq, not_false_eq_true, if_true, reduceIte, ↓wq0, ↓wq1, ↓wq2, ↓wq3, ↓wq4, ↓wq5, ↓wq6, ↓wq7, ↓wq8, ↓wq9, Int.natCast_zero, Int.natCast_one, Int.cast_ofNat_Int, hsz, hck, Tryz.underlying9]) | refine abs_seq ?_ | refine abs_block ?_ | refine abs_skip ?_ | refine abs_scope ?_ | refine abs_label ?_ | refine abs_exit ?_ | refine abs_ret ?_ | ((first | refine abs_region fun K hK => ?_ | refine abs_draw Tryz.ty.mixed (by kernel_rfl) fun K hK => ?_ | refine abs_if ?_ | show retQ _ _ _ _ _); simp -implicitDefEqProofs only [go_sem, bas, basL, Nat.reduceAdd, Nat.reduceSub, Nat.reduceMul, Nat.reduceLT, Nat.reduceLeDiff, Nat.reduceEqDiff, Nat.reduceBEq, Int.reduceLT, Int.reduceLE, Int.reduceToNat, Int.reduceAdd, Int.reduceSub, Int.reduceMul, Int.reduceNeg, Int.reduceEq, reduceCtorEq, eq_self, ne_eq, not_false_eq_true, if_true, reduceIte, ↓wq0, ↓wq1, ↓wq2, ↓wq3, ↓wq4, ↓wq5, ↓wq6, ↓wq7, ↓wq8, ↓wq9, Int.natCast_zero, Int.natCast_one, Int.cast_ofNat_Int, hsz, hck, Tryz.underlying9]) | ((first | (refine hK _ ?_; clear hK K) | show thenQ _ _ _ _ | show blockQ _ _ _ _ | show noGoQ _ _ _); simp only [noGoQ, thenQ, blockQ, if_true, Nat.reduceEqDiff, reduceIte]) | (refine hK1 _ (atE_none ?_ ?_ (fun x => by simp only [thenQ, blockQ]; exact ende_panic)); clear hK1 K1) | (intro hg; first | (exfalso; omega) | (exfalso; contradiction) | skip) | apply And.intro | (with_reducible rfl) | (clear hK; omega) | omega)
      all_goals first | (show pureDsV _ _ _ = _; try simp -implicitDefEqProofs only [go_sem, bas, basL, Nat.reduceAdd, Nat.reduceSub, Nat.reduceMul, Nat.reduceLT, Nat.reduceLeDiff, Nat.reduceEqDiff, Nat.reduceBEq, Int.reduceLT, Int.reduceLE, Int.reduceToNat, Int.reduceAdd, Int.reduceSub, Int.reduceMul, Int.reduceNeg, Int.reduceEq, reduceCtorEq, eq_self, ne_eq, not_false_eq_true, if_true, reduceIte, ↓wq0, ↓wq1, ↓wq2, ↓wq3, ↓wq4, ↓wq5, ↓wq6, ↓wq7, ↓wq8, ↓wq9, Int.natCast_zero, Int.natCast_one, Int.cast_ofNat_Int, hsz, hck, Tryz.underlying9]; done) | (show dstOk _ _; rfl) | (show dstOk _ _; simp -implicitDefEqProofs only [go_sem, bas, basL, Nat.reduceAdd, Nat.reduceSub, Nat.reduceMul, Nat.reduceLT, Nat.reduceLeDiff, Nat.reduceEqDiff, Nat.reduceBEq, Int.reduceLT, Int.reduceLE, Int.reduceToNat, Int.reduceAdd, Int.reduceSub, Int.reduceMul, Int.reduceNeg, Int.reduceEq, reduceCtorEq, eq_self, ne_eq, not_false_eq_true, if_true, reduceIte, ↓wq0, ↓wq1, ↓wq2, ↓wq3, ↓wq4, ↓wq5, ↓wq6, ↓wq7, ↓wq8, ↓wq9, Int.natCast_zero, Int.natCast_one, Int.cast_ofNat_Int, hsz, hck, Tryz.underlying9]; done) | skip
    | some v =>
      have nj := some_nO hn
      rw [f9] at nj
      simp -implicitDefEqProofs only [go_sem, bas, basL, Nat.reduceAdd, Nat.reduceSub, Nat.reduceMul, Nat.reduceLT, Nat.reduceLeDiff, Nat.reduceEqDiff, Nat.reduceBEq, Int.reduceLT, Int.reduceLE, Int.reduceToNat, Int.reduceAdd, Int.reduceSub, Int.reduceMul, Int.reduceNeg, Int.reduceEq, reduceCtorEq, eq_self, ne_eq, not_false_eq_true, if_true, reduceIte, ↓wq0, ↓wq1, ↓wq2, ↓wq3, ↓wq4, ↓wq5, ↓wq6, ↓wq7, ↓wq8, ↓wq9, Int.natCast_zero, Int.natCast_one, Int.cast_ofNat_Int, hsz, hck, Tryz.underlying9]
      repeat' (first | refine abs_seq ?_ | refine abs_block ?_ | refine abs_skip ?_ | refine abs_scope ?_ | refine abs_label ?_ | refine abs_exit ?_ | refine abs_ret ?_ | ((first | refine abs_region fun K hK => ?_ | refine abs_draw Tryz.ty.mixed (by kernel_rfl) fun K hK => ?_ | refine abs_if ?_ | show retQ _ _ _ _ _ | refine callK (nj) ?_); simp -implicitDefEqProofs only [go_sem, bas, basL, Nat.reduceAdd, Nat.reduceSub, Nat.reduceMul, Nat.reduceLT, Nat.reduceLeDiff, Nat.reduceEqDiff, Nat.reduceBEq, Int.reduceLT, Int.reduceLE, Int.reduceToNat, Int.reduceAdd, Int.reduceSub, Int.reduceMul, Int.reduceNeg, Int.reduceEq, reduceCtorEq, eq_self, ne_eq, not_false_eq_true, if_true, reduceIte, ↓wq0, ↓wq1, ↓wq2, ↓wq3, ↓wq4, ↓wq5, ↓wq6, ↓wq7, ↓wq8, ↓wq9, Int.natCast_zero, Int.natCast_one, Int.cast_ofNat_Int, hsz, hck, Tryz.underlying9]) | ((first | (refine hK _ ?_; clear hK K) | show thenQ _ _ _ _ | show blockQ _ _ _ _ | show noGoQ _ _ _); simp only [noGoQ, thenQ, blockQ, if_true, Nat.reduceEqDiff, reduceIte]) | (intro hg; first | (exfalso; omega) | (exfalso; contradiction) | skip) | apply And.intro | (with_reducible rfl) | (clear hK; omega) | omega)
      exact ⟨10, isN_succ hj (by omega) (fun _ => by rw [hL]; show (numO w9).isSome = true; rw [hn]; rfl), by omega, le_of rfl (by try simp -implicitDefEqProofs only [go_sem, bas, basL, Nat.reduceAdd, Nat.reduceSub, Nat.reduceMul, Nat.reduceLT, Nat.reduceLeDiff, Nat.reduceEqDiff, Nat.reduceBEq, Int.reduceLT, Int.reduceLE, Int.reduceToNat, Int.reduceAdd, Int.reduceSub, Int.reduceMul, Int.reduceNeg, Int.reduceEq, reduceCtorEq, eq_self, ne_eq, not_false_eq_true, if_true, reduceIte, ↓wq0, ↓wq1, ↓wq2, ↓wq3, ↓wq4, ↓wq5, ↓wq6, ↓wq7, ↓wq8, ↓wq9, Int.natCast_zero, Int.natCast_one, Int.cast_ofNat_Int, hsz, hck, Tryz.underlying9]; try simp) ⟨[], by rw [e1]; rfl⟩ ⟨_, rfl⟩⟩
  | 10, _ =>
    have e : xsK r 10 = [i64 r.day, i64 r.min, i64 0, i64 r.mer, i64 r.al, i64 r.ah, i64 r.dl, i64 r.dh, i64 r.wl, i64 r.wh] := rfl
    rw [e]
    have hN : O.map rdD = some (rdD r) := by
      have g := hj.2
      rw [hL] at g
      rw [hO, if_pos ⟨g 0 (by omega) (by omega), g 1 (by omega) (by omega), g 3 (by omega) (by omega), g 4 (by omega) (by omega), g 5 (by omega) (by omega), g 6 (by omega) (by omega), g 7 (by omega) (by omega), g 8 (by omega) (by omega), g 9 (by omega) (by omega)⟩]; rfl
    rw [hN]
    simp -implicitDefEqProofs only [go_sem, bas, basL, Nat.reduceAdd, Nat.reduceSub, Nat.reduceMul, Nat.reduceLT, Nat.reduceLeDiff, Nat.reduceEqDiff, Nat.reduceBEq, Int.reduceLT, Int.reduceLE, Int.reduceToNat, Int.reduceAdd, Int.reduceSub, Int.reduceMul, Int.reduceNeg, Int.reduceEq, reduceCtorEq, eq_self, ne_eq, not_false_eq_true, if_true, reduceIte, ↓wq0, ↓wq1, ↓wq2, ↓wq3, ↓wq4, ↓wq5, ↓wq6, ↓wq7, ↓wq8, ↓wq9, Int.natCast_zero, Int.natCast_one, Int.cast_ofNat_Int, hsz, hck, Tryz.underlying9]
    repeat' (first | refine abs_seq ?_ | refine abs_block ?_ | refine abs_skip ?_ | refine abs_scope ?_ | refine abs_label ?_ | refine abs_exit ?_ | refine abs_ret ?_ | ((first | refine abs_region fun K hK => ?_ | refine abs_draw Tryz.ty.mixed (by kernel_rfl) fun K hK => ?_ | refine abs_if ?_ | show retQ _ _ _ _ _ | refine callK (hidx) ?_); simp -implicitDefEqProofs only [go_sem, bas, basL, Nat.reduceAdd, Nat.reduceSub, Nat.reduceMul, Nat.reduceLT, Nat.reduceLeDiff, Nat.reduceEqDiff, Nat.reduceBEq, Int.reduceLT, Int.reduceLE, Int.reduceToNat, Int.reduceAdd, Int.reduceSub, Int.reduceMul, Int.reduceNeg, Int.reduceEq, reduceCtorEq, eq_self, ne_eq, not_false_eq_true, if_true, reduceIte, ↓wq0, ↓wq1, ↓wq2, ↓wq3, ↓wq4, ↓wq5, ↓wq6, ↓wq7, ↓wq8, ↓wq9, Int.natCast_zero, Int.natCast_one, Int.cast_ofNat_Int, hsz, hck, Tryz.underlying9]) | ((first | (refine hK _ ?_; clear hK K) | show thenQ _ _ _ _ | show blockQ _ _ _ _ | show noGoQ _ _ _); simp only [noGoQ, thenQ, blockQ, if_true, Nat.reduceEqDiff, reduceIte]) | (refine ende_ret ?_) | (refine ende_normal ?_) | (intro hg; first | (exfalso; omega) | (exfalso; contradiction) | skip) | apply And.intro | (with_reducible rfl) | (clear hK; omega) | omega)
    all_goals skip
end Go.Proofs.YtdbiiegohemahaaGreatDoor
set_option linter.unusedVariables false
set_option linter.unusedSimpArgs false
namespace Go.Proofs.YtdbiiegohemahaaGreatDoor
open Go.Ab Go.Sheet
theorem line_any (s : ByteArray) (hs : s.size ≤ 100000) : CallsTo Tryz.prog 53 [.list [.str s]] (.str (s ++ nl)) := by
  have h := line_ok [s] (by simp) (by simp) (by rw [List.map_cons, List.map_nil, Go.Lib.join_one, ← d_size]; omega)
  rw [join_self] at h
  exact h
theorem last_any (s : ByteArray) (hs : s.size ≤ 100000) (ha : AsciiL s.data.toList) : CallsTo Tryz.prog 26 [.str s] (.str (lastB s)) := by
  have h2 := seal_bd s
  have h3 := endL_size s
  unfold endL at h3
  rw [d_size, d_join] at h3
  exact last_ok _ (by omega) (ascii_of ha) (by omega) (by rw [itoa_one h2.1, itoa_one h2.2]; decide)
theorem numT_data (w : ByteArray) : w.data.toList = numT w ∨ w.data.toList = 45 :: numT w := by
  unfold numT Go.Lib.trimPrefix
  split
  · rename_i h
    obtain ⟨t, ht⟩ := List.isPrefixOf_iff_prefix.1 h
    right
    rw [← ht]; rfl
  · exact .inl rfl
theorem numB_digits {w : ByteArray} (h : numB w = true) : ∀ b ∈ numT w, isDig b := fun b hb => by
  unfold numB at h
  simp only [Bool.and_eq_true] at h
  simpa using List.all_eq_true.1 h.1.1.1.2 b hb
theorem some_numB {w : ByteArray} (h : (numO w).isSome = true) : numB w = true := by
  unfold numO at h
  split at h
  · assumption
  · cases h
theorem numO_ascii {w : ByteArray} (h : (numO w).isSome = true) : AsciiL w.data.toList := by
  have hd := numB_digits (some_numB h)
  have key : AsciiL (numT w) := fun b hb => by have := hd b hb; unfold isDig at this; omega
  rcases numT_data w with e | e
  · rw [e]; exact key
  · rw [e]; intro b hb
    rcases List.mem_cons.1 hb with rfl | hb
    · decide
    · exact key b hb
theorem rse_index {c : UInt8} (h : 0 ≤ Go.Lib.indexByte rse.data.toList c) : c = 114 ∨ c = 115 ∨ c = 101 := by
  have e : rse.data.toList = [114, 115, 101] := rfl
  rw [e] at h
  by_cases h1 : c = 114
  · exact .inl h1
  by_cases h2 : c = 115
  · exact .inr (.inl h2)
  by_cases h3 : c = 101
  · exact .inr (.inr h3)
  exfalso
  have g1 : ((114 : UInt8) == c) = false := beq_eq_false_iff_ne.2 (Ne.symm h1)
  have g2 : ((115 : UInt8) == c) = false := beq_eq_false_iff_ne.2 (Ne.symm h2)
  have g3 : ((101 : UInt8) == c) = false := beq_eq_false_iff_ne.2 (Ne.symm h3)
  simp [Go.Lib.indexByte, g1, g2, g3] at h
theorem index_le (c : UInt8) : Go.Lib.indexByte rse.data.toList c ≤ 100 := by
  by_cases h : 0 ≤ Go.Lib.indexByte rse.data.toList c
  · rcases rse_index h with rfl | rfl | rfl <;> decide
  · omega
theorem parts_data (c : UInt8) (s : ByteArray) : (partsB c s).map (·.data.toList) = parts c s.data.toList := by
  unfold partsB
  rw [List.map_map]
  conv => rhs; rw [← List.map_id (parts c s.data.toList)]
  refine List.map_congr_left fun x _ => ?_
  show (ByteArray.mk x.toArray).data.toList = x
  exact mk_list x
theorem data_parts (c : UInt8) (s : ByteArray) : s.data.toList = Go.Lib.join ((partsB c s).map (·.data.toList)) [c] := by rw [parts_data, join_parts]
theorem lineO_some {s : ByteArray} (h : (lineO s).isSome = true) : ∃ w0 w1 c w3 w4 w5 w6 w7 w8 w9, partsB 32 s = [w0, w1, ⟨#[c]⟩, w3, w4, w5, w6, w7, w8, w9] ∧ 0 ≤ Go.Lib.indexByte rse.data.toList c ∧
    (numO w0).isSome = true ∧ (numO w1).isSome = true ∧ (numO w3).isSome = true ∧ (numO w4).isSome = true ∧ (numO w5).isSome = true ∧ (numO w6).isSome = true ∧ (numO w7).isSome = true ∧ (numO w8).isSome = true ∧ (numO w9).isSome = true := by
  unfold lineO rdgO at h
  split at h
  · rename_i w0 w1 w2 w3 w4 w5 w6 w7 w8 w9 e
    split at h
    · rename_i g
      obtain ⟨c, rfl⟩ := one_byte g.1
      exact ⟨w0, w1, c, w3, w4, w5, w6, w7, w8, w9, e, g.2.1, g.2.2⟩
    · cases h
  · cases h
theorem lineO_ascii {s : ByteArray} (h : (lineO s).isSome = true) : AsciiL s.data.toList := by
  obtain ⟨w0, w1, c, w3, w4, w5, w6, w7, w8, w9, e, hc, n0, n1, n3, n4, n5, n6, n7, n8, n9⟩ := lineO_some h
  rw [data_parts 32 s, e]
  refine asciiL_join (fun b hb => by simp at hb; subst hb; decide) _ fun w hw => ?_
  simp only [List.map_cons, List.map_nil, List.mem_cons, List.not_mem_nil, or_false] at hw
  rcases hw with rfl | rfl | rfl | rfl | rfl | rfl | rfl | rfl | rfl | rfl
  · exact numO_ascii n0
  · exact numO_ascii n1
  · intro b hb
    have hb : b ∈ [c] := hb
    simp at hb; subst hb
    rcases rse_index hc with rfl | rfl | rfl <;> decide
  · exact numO_ascii n3
  · exact numO_ascii n4
  · exact numO_ascii n5
  · exact numO_ascii n6
  · exact numO_ascii n7
  · exact numO_ascii n8
  · exact numO_ascii n9
/-- The first lines of a text. -/
def befB (ls : List ByteArray) : Nat → ByteArray
  | 0 => ⟨#[]⟩
  | j + 1 => befB ls j ++ (nth ls j ++ nl)
theorem bef_data (ls : List ByteArray) : ∀ j, j ≤ ls.length → (befB ls j).data.toList = (((ls.take j).map (·.data.toList)).map (· ++ [10])).flatten
  | 0, _ => rfl
  | j + 1, h => by
    have hj : j < ls.length := by omega
    have e : ls.take (j + 1) = ls.take j ++ [nth ls j] := by rw [List.take_succ_eq_append_getElem hj, nth_eq ls j hj]
    rw [befB, d_app, bef_data ls j (by omega), d_app, e]
    simp [show nl.data.toList = [10] from rfl]
theorem bef_all {ls : List ByteArray} {n : Nat} (h : ls.length = n + 1) : (befB ls n).data.toList ++ (nth ls n).data.toList = Go.Lib.join (ls.map (·.data.toList)) [10] := by
  have hn : n < ls.length := by omega
  have e : ls = ls.take n ++ [nth ls n] := by
    rw [nth_eq ls n hn, ← List.take_succ_eq_append_getElem hn, ← h, List.take_length]
  rw [bef_data ls n (by omega), join_snoc]
  conv => rhs; rw [e, List.map_append]
  rfl
theorem bef_mono (ls : List ByteArray) {i j : Nat} (h : i ≤ j) : (befB ls i).size ≤ (befB ls j).size := by
  induction j with
  | zero => obtain rfl : i = 0 := by omega
            exact Nat.le_refl _
  | succ j ih =>
    by_cases e : i = j + 1
    · subst e; exact Nat.le_refl _
    · refine Nat.le_trans (ih (by omega)) ?_
      rw [befB, d_size, d_size (befB ls j ++ _), d_app, List.length_append]; omega
theorem bef_size {ls : List ByteArray} {n : Nat} {body : ByteArray} (h : ls.length = n + 1) (hb : body.data.toList = Go.Lib.join (ls.map (·.data.toList)) [10]) :
    (∀ j, j ≤ n → (befB ls j).size ≤ body.size) ∧ (nth ls n).size ≤ body.size ∧ ∀ j, j < n → (nth ls j).size ≤ body.size := by
  have e := bef_all h
  rw [← hb] at e
  have e2 := congrArg List.length e
  rw [List.length_append, ← d_size, ← d_size, ← d_size] at e2
  refine ⟨fun j hj => Nat.le_trans (bef_mono ls hj) (by omega), by omega, fun j hj => ?_⟩
  have h1 := bef_mono ls (show j + 1 ≤ n by omega)
  have h2 : (nth ls j).size ≤ (befB ls (j + 1)).size := by
    rw [befB, d_size, d_size, d_app, d_app, List.length_append, List.length_append]; omega
  omega
theorem bef_ascii {ls : List ByteArray} : ∀ n, (∀ j, j < n → AsciiL (nth ls j).data.toList) → AsciiL (befB ls n).data.toList
  | 0, _ => fun b hb => by cases hb
  | n + 1, h => by
    rw [befB, d_app, d_app]
    exact asciiL_app (bef_ascii n fun j hj => h j (by omega)) (asciiL_app (h n (by omega)) (fun b hb => by simp [nl] at hb; subst hb; decide))
/-- The reading of a line that is one. -/
def lnO (s : ByteArray) : Rdg := (lineO s).getD default
/-- The body of a text, and its lines. -/
def bodyO (t : ByteArray) : ByteArray := ⟨(Go.Lib.trimSuffix t.data.toList [10]).toArray⟩
def lsO (t : ByteArray) : List ByteArray := partsB 10 (bodyO t)
def nO' (t : ByteArray) : Nat := (lsO t).length - 1
/-- The readings that a text is, if it is a sheet. -/
def okO (t : ByteArray) : Prop := Go.Lib.hasSuffix t.data.toList [10] = true ∧ (∀ i, i < nO' t → (lineO (nth (lsO t) i)).isSome = true) ∧ nth (lsO t) (nO' t) ++ nl = lastB (befB (lsO t) (nO' t))
theorem ls_len (t : ByteArray) : (lsO t).length = nO' t + 1 := by
  unfold nO'
  have : lsO t ≠ [] := by
    unfold lsO partsB
    intro h
    exact parts_ne 10 _ (List.map_eq_nil_iff.1 h)
  have : 0 < (lsO t).length := List.length_pos_iff.2 this
  omega
theorem ls_body (t : ByteArray) : (bodyO t).data.toList = Go.Lib.join ((lsO t).map (·.data.toList)) [10] := data_parts 10 _
/-- A text that is a sheet: its lines, and their seal. -/
theorem okO_text {t : ByteArray} (h : okO t) : t = befB (lsO t) (nO' t) ++ lastB (befB (lsO t) (nO' t)) := by
  obtain ⟨h1, _, h3⟩ := h
  apply d_ext
  rw [← h3, d_app, d_app, ← List.append_assoc, bef_all (ls_len t), ← ls_body]
  obtain ⟨z, hz⟩ := List.isSuffixOf_iff_suffix.1 h1
  have : (bodyO t).data.toList = z := by
    unfold bodyO
    rw [mk_list, ← hz, trim_one]
  rw [this, ← hz]
end Go.Proofs.YtdbiiegohemahaaGreatDoor
set_option linter.unusedVariables false
set_option linter.unusedSimpArgs false
namespace Go.Proofs.YtdbiiegohemahaaGreatDoor
open Go.Ab Go.Sheet
attribute [local irreducible] Abs CallK CallR CallsTo CallsE IA
theorem reading_E (s : ByteArray) (hs : s.size < 1000000) : CallsE Tryz.prog 60 [.str s] 72 ((lineO s).map rdD) := by
  by_cases hl : (partsB 32 s).length = 10
  · obtain ⟨w0, w1, w2, w3, w4, w5, w6, w7, w8, w9, h⟩ := ten hl
    by_cases h2 : w2.size = 1
    · obtain ⟨c, rfl⟩ := one_byte h2
      by_cases hc : 0 ≤ Go.Lib.indexByte rse.data.toList c
      · refine reading_yes s hs w0 w1 c w3 w4 w5 w6 w7 w8 w9 h hc _ rfl _ ?_ (index_le c)
        unfold lineO rdgO
        rw [h]
        have e : idxO ⟨#[c]⟩ = Go.Lib.indexByte rse.data.toList c := rfl
        simp only [e, h2, hc, true_and]
      · have e : lineO s = none := by
          unfold lineO rdgO
          rw [h]
          have e : idxO ⟨#[c]⟩ = Go.Lib.indexByte rse.data.toList c := rfl
          simp only [e, hc, false_and, and_false, if_false]
        rw [e]
        exact reading_not2 s hs w0 w1 c w3 w4 w5 w6 w7 w8 w9 h hc
    · have e : lineO s = none := by
        unfold lineO rdgO
        rw [h]
        simp only [h2, false_and, if_false]
      rw [e]
      exact reading_not1 s hs w0 w1 w2 w3 w4 w5 w6 w7 w8 w9 h h2
  · have e : lineO s = none := rdgO_ten hl
    rw [e]
    exact reading_not s hs hl
theorem line_yes {s : ByteArray} (hs : s.size < 1000000) (h : (lineO s).isSome = true) : CallsTo Tryz.prog 60 [.str s] (rdD (lnO s)) := by
  have := reading_E s hs
  unfold lnO
  cases e : lineO s with
  | none => rw [e] at h; cases h
  | some r => rw [e] at this; exact this.calls
theorem line_no {s : ByteArray} (hs : s.size < 1000000) (h : ¬ (lineO s).isSome = true) : CallsE Tryz.prog 60 [.str s] 72 none := by
  have := reading_E s hs
  cases e : lineO s with
  | none => rw [e] at this; exact this
  | some r => rw [e] at h; exact absurd rfl h
/-- The readings of a text that is a sheet. -/
def rdsO (t : ByteArray) : List Rdg := ((lsO t).take (nO' t)).map lnO
theorem bef_ge (ls : List ByteArray) : ∀ j, j ≤ (befB ls j).size
  | 0 => Nat.zero_le _
  | j + 1 => by
    have := bef_ge ls j
    rw [befB, d_size, d_app, d_app, List.length_append, List.length_append, ← d_size]
    have e : nl.data.toList.length = 1 := rfl
    omega
set_option maxRecDepth 100000 in
set_option maxHeartbeats 4000000 in
theorem read_E (t : ByteArray) (ht : t.size ≤ 50000) (res : Option D) (hy : okO t → res = some (.list ((rdsO t).map rdD))) (hn : ¬ okO t → res = none) : CallsE Tryz.prog 29 [.str t] 72 res := by
  have hcut := cut_ok t ⟨#[10]⟩ (by omega)
  have hbs : (bodyO t).size ≤ t.size := by
    rw [d_size, d_size t]; unfold bodyO Go.Lib.trimSuffix; rw [mk_list]
    split
    · rw [List.length_take]; omega
    · exact Nat.le_refl _
  have hsp := split_ok (bodyO t) 10 (by omega)
  have e10 : (ByteArray.mk #[10]).data.toList = [10] := rfl
  rw [e10, show (⟨(Go.Lib.trimSuffix t.data.toList [10]).toArray⟩ : ByteArray) = bodyO t from rfl] at hcut
  have hlen := ls_len t
  have hbz := bef_size hlen (ls_body t)
  have hn5 : nO' t ≤ 50000 := by have := hbz.1 _ (Nat.le_refl _); have := bef_ge (lsO t) (nO' t); omega
  unfold okO at hy hn
  unfold rdsO at hy
  rw [show partsB 10 (bodyO t) = lsO t from rfl] at hsp
  generalize lsO t = ls at *
  generalize nO' t = n at *
  generalize bodyO t = body at *
  cases hsuf : Go.Lib.hasSuffix t.data.toList [10] with
  | false =>
    obtain rfl := hn (fun h => by rw [hsuf] at h; cases h.1)
    rw [hsuf] at hcut
    refine callsE_abs Tryz.func29 Tryz.ntmps29 Tryz.results29 Tryz.call29 rfl (by simp) fun W0 S0 M0 => ?_
    repeat' (first | (show Abs _ (.region 2 _ _) _ _; refine abs_regionE 2 rfl (sure_f t) (fun K1 hK1 => ?_); simp -implicitDefEqProofs only [go_sem, bas, basL, Nat.reduceAdd, Nat.reduceSub, Nat.reduceMul, Nat.reduceLT, Nat.reduceLeDiff, Nat.reduceEqDiff, Nat.reduceBEq, Int.reduceLT, Int.reduceLE, Int.reduceToNat, Int.reduceAdd, Int.reduceSub, Int.reduceMul, Int.reduceNeg, Int.reduceEq, reduceCtorEq, eq_self, ne_eq, not_false_eq_true, if_true, reduceIte]) | refine abs_seq ?_ | refine abs_block ?_ | refine abs_skip ?_ | refine abs_scope ?_ | refine abs_label ?_ | refine abs_exit ?_ | refine abs_ret ?_ | ((first | refine abs_region fun K hK => ?_ | refine abs_draw Tryz.ty.mixed (by kernel_rfl) fun K hK => ?_ | refine abs_if ?_ | show retQ _ _ _ _ _ | refine callK (hcut) ?_); simp -implicitDefEqProofs only [go_sem, bas, basL, Nat.reduceAdd, Nat.reduceSub, Nat.reduceMul, Nat.reduceLT, Nat.reduceLeDiff, Nat.reduceEqDiff, Nat.reduceBEq, Int.reduceLT, Int.reduceLE, Int.reduceToNat, Int.reduceAdd, Int.reduceSub, Int.reduceMul, Int.reduceNeg, Int.reduceEq, reduceCtorEq, eq_self, ne_eq, not_false_eq_true, if_true, reduceIte]) | ((first | (refine hK _ ?_; clear hK K) | show thenQ _ _ _ _ | show blockQ _ _ _ _ | show noGoQ _ _ _); simp only [noGoQ, thenQ, blockQ, if_true, Nat.reduceEqDiff, reduceIte]) | (refine hK1 _ (atE_none ?_ ?_ (fun x => by simp only [thenQ, blockQ]; exact ende_panic)); clear hK1 K1) | (intro hg; first | (exfalso; omega) | (exfalso; contradiction) | skip) | apply And.intro | (with_reducible rfl) | (clear hK; omega) | omega)
    all_goals first | (show pureDsV _ _ _ = _; try simp -implicitDefEqProofs only [go_sem, bas, basL, Nat.reduceAdd, Nat.reduceSub, Nat.reduceMul, Nat.reduceLT, Nat.reduceLeDiff, Nat.reduceEqDiff, Nat.reduceBEq, Int.reduceLT, Int.reduceLE, Int.reduceToNat, Int.reduceAdd, Int.reduceSub, Int.reduceMul, Int.reduceNeg, Int.reduceEq, reduceCtorEq, eq_self, ne_eq, not_false_eq_true, if_true, reduceIte]; done) | (show dstOk _ _; rfl) | (show dstOk _ _; simp -implicitDefEqProofs only [go_sem, bas, basL, Nat.reduceAdd, Nat.reduceSub, Nat.reduceMul, Nat.reduceLT, Nat.reduceLeDiff, Nat.reduceEqDiff, Nat.reduceBEq, Int.reduceLT, Int.reduceLE, Int.reduceToNat, Int.reduceAdd, Int.reduceSub, Int.reduceMul, Int.reduceNeg, Int.reduceEq, reduceCtorEq, eq_self, ne_eq, not_false_eq_true, if_true, reduceIte]; done) | skip
  | true =>
    rw [hsuf] at hcut
    have h10 : (#[10] : Array UInt8).size = 1 := rfl
    have hnn : ((n : Int) + 1 - 1) = n := by omega
    have hT : List.take n (ls.map D.str) = (ls.take n).map D.str := by rw [List.map_take]
    have hTl : (ls.take n).length = n := by rw [List.length_take]; omega
    refine callsE_abs Tryz.func29 Tryz.ntmps29 Tryz.results29 Tryz.call29 rfl (by simp) fun W0 S0 M0 => ?_
    repeat' (first | refine abs_seq ?_ | refine abs_block ?_ | refine abs_skip ?_ | refine abs_scope ?_ | refine abs_label ?_ | refine abs_exit ?_ | refine abs_ret ?_ | ((first | refine abs_region fun K hK => ?_ | refine abs_draw Tryz.ty.mixed (by kernel_rfl) fun K hK => ?_ | refine abs_if ?_ | show retQ _ _ _ _ _ | refine callK (hcut) ?_ | refine callK (hsp) ?_ | refine callK (sure_ok _ (by simp <;> omega) _) ?_); simp -implicitDefEqProofs only [go_sem, bas, basL, Nat.reduceAdd, Nat.reduceSub, Nat.reduceMul, Nat.reduceLT, Nat.reduceLeDiff, Nat.reduceEqDiff, Nat.reduceBEq, Int.reduceLT, Int.reduceLE, Int.reduceToNat, Int.reduceAdd, Int.reduceSub, Int.reduceMul, Int.reduceNeg, Int.reduceEq, reduceCtorEq, eq_self, ne_eq, not_false_eq_true, if_true, reduceIte, h10, hnn, hlen, hT, hTl, List.length_map, Int.toNat_natCast, Nat.sub_zero, List.drop_zero, Int.natCast_add, Int.natCast_one]) | ((first | (refine hK _ ?_; clear hK K) | show thenQ _ _ _ _ | show blockQ _ _ _ _ | show noGoQ _ _ _); simp only [noGoQ, thenQ, blockQ, if_true, Nat.reduceEqDiff, reduceIte]) | ((intro y hy; obtain ⟨c, _, rfl⟩ := List.mem_map.1 hy; rfl)) | (intro hg; first | (exfalso; omega) | (exfalso; contradiction) | skip) | apply And.intro | (with_reducible rfl) | (clear hK; omega) | omega)
    refine abs_adopt 8 53 10 rfl ?_
    refine abs_loopN (ι := Nat) (fun j => [(5, .list (ls.map D.str)), (6, i64 n), (7, .str (befB ls j)), (8, .own 0), (26, .list ((ls.take n).map D.str)), (27, i64 n), (28, i64 j)]) (fun _ => []) (fun j => [⟨true, 53, 10, ((ls.take j).map lnO).map rdD⟩])
      (fun j => j ≤ n ∧ ∀ i, i < j → (lineO (nth ls i)).isSome = true) (fun j => n - j) (fun _ _ => ⟨rfl, rfl⟩) 0 ⟨Nat.zero_le _, fun i hi => absurd hi (Nat.not_lt_zero _)⟩ (le_of rfl (by try simp -implicitDefEqProofs only [go_sem, bas, basL, Nat.reduceAdd, Nat.reduceSub, Nat.reduceMul, Nat.reduceLT, Nat.reduceLeDiff, Nat.reduceEqDiff, Nat.reduceBEq, Int.reduceLT, Int.reduceLE, Int.reduceToNat, Int.reduceAdd, Int.reduceSub, Int.reduceMul, Int.reduceNeg, Int.reduceEq, reduceCtorEq, eq_self, ne_eq, not_false_eq_true, if_true, reduceIte, h10, hnn, hlen, hT, hTl, List.length_map, Int.toNat_natCast, Nat.sub_zero, List.drop_zero, Int.natCast_add, Int.natCast_one]; try simp [befB]) ⟨_, rfl⟩ ⟨_, rfl⟩) (fun j hj => ?_)
    obtain ⟨hj, hjs⟩ := hj
    have htk' : (ls.take j).length = j := by simp; omega
    have htk : (((ls.take j).map lnO).map rdD).length = j := by simp; omega
    have hobj := hbz.1 j hj
    by_cases hlt : j < n
    · have hnt : nth (ls.take n) j = nth ls j := by unfold nth; simp [List.getD_eq_getElem?_getD, List.getElem?_take, hlt]
      have k3 := hbz.2.2 j hlt
      have hos : befB ls (j + 1) = befB ls j ++ (nth ls j ++ nl) := rfl
      by_cases hsm : (lineO (nth ls j)).isSome = true
      · have k1 := line_yes (s := nth ls j) (by omega) hsm
        have k2 := line_any (nth ls j) (by omega)
        have k4 : ls.take (j + 1) = ls.take j ++ [nth ls j] := by rw [List.take_succ_eq_append_getElem (by omega), nth_eq ls j (by omega)]
        simp -implicitDefEqProofs only [go_sem, bas, basL, Nat.reduceAdd, Nat.reduceSub, Nat.reduceMul, Nat.reduceLT, Nat.reduceLeDiff, Nat.reduceEqDiff, Nat.reduceBEq, Int.reduceLT, Int.reduceLE, Int.reduceToNat, Int.reduceAdd, Int.reduceSub, Int.reduceMul, Int.reduceNeg, Int.reduceEq, reduceCtorEq, eq_self, ne_eq, not_false_eq_true, if_true, reduceIte, h10, hnn, hlen, hT, hTl, hnt, List.length_map, Int.toNat_natCast, Nat.sub_zero, List.drop_zero, Int.natCast_add, Int.natCast_one]
        repeat' (first | refine abs_seq ?_ | refine abs_block ?_ | refine abs_skip ?_ | refine abs_scope ?_ | refine abs_label ?_ | refine abs_exit ?_ | refine abs_ret ?_ | ((first | refine abs_region fun K hK => ?_ | refine abs_draw Tryz.ty.mixed (by kernel_rfl) fun K hK => ?_ | refine abs_if ?_ | show retQ _ _ _ _ _ | refine callK (k1) ?_ | refine callK (k2) ?_); simp -implicitDefEqProofs only [go_sem, bas, basL, Nat.reduceAdd, Nat.reduceSub, Nat.reduceMul, Nat.reduceLT, Nat.reduceLeDiff, Nat.reduceEqDiff, Nat.reduceBEq, Int.reduceLT, Int.reduceLE, Int.reduceToNat, Int.reduceAdd, Int.reduceSub, Int.reduceMul, Int.reduceNeg, Int.reduceEq, reduceCtorEq, eq_self, ne_eq, not_false_eq_true, if_true, reduceIte, h10, hnn, hlen, hT, hTl, hnt, List.length_map, Int.toNat_natCast, Nat.sub_zero, List.drop_zero, Int.natCast_add, Int.natCast_one]) | ((first | (refine hK _ ?_; clear hK K) | show thenQ _ _ _ _ | show blockQ _ _ _ _ | show noGoQ _ _ _); simp only [noGoQ, thenQ, blockQ, if_true, Nat.reduceEqDiff, reduceIte]) | ((intro y hy; obtain ⟨c, _, rfl⟩ := List.mem_map.1 hy; rfl)) | (intro hg; first | (exfalso; omega) | (exfalso; contradiction) | skip) | apply And.intro | (with_reducible rfl) | (clear hK; omega) | omega)
        exact ⟨j + 1, ⟨by omega, fun i hi => by by_cases e : i = j; (subst e; exact hsm); exact hjs i (by omega)⟩, by omega, le_of rfl (by try simp -implicitDefEqProofs only [go_sem, bas, basL, Nat.reduceAdd, Nat.reduceSub, Nat.reduceMul, Nat.reduceLT, Nat.reduceLeDiff, Nat.reduceEqDiff, Nat.reduceBEq, Int.reduceLT, Int.reduceLE, Int.reduceToNat, Int.reduceAdd, Int.reduceSub, Int.reduceMul, Int.reduceNeg, Int.reduceEq, reduceCtorEq, eq_self, ne_eq, not_false_eq_true, if_true, reduceIte, h10, hnn, hlen, hT, hTl, hnt, List.length_map, Int.toNat_natCast, Nat.sub_zero, List.drop_zero, Int.natCast_add, Int.natCast_one]; try simp [hos]) ⟨_, rfl⟩ ⟨[], by simp [k4]⟩⟩
      · obtain rfl := hn (fun h => hsm (h.2.1 j hlt))
        have k1 := line_no (s := nth ls j) (by omega) hsm
        simp -implicitDefEqProofs only [go_sem, bas, basL, Nat.reduceAdd, Nat.reduceSub, Nat.reduceMul, Nat.reduceLT, Nat.reduceLeDiff, Nat.reduceEqDiff, Nat.reduceBEq, Int.reduceLT, Int.reduceLE, Int.reduceToNat, Int.reduceAdd, Int.reduceSub, Int.reduceMul, Int.reduceNeg, Int.reduceEq, reduceCtorEq, eq_self, ne_eq, not_false_eq_true, if_true, reduceIte, h10, hnn, hlen, hT, hTl, hnt, List.length_map, Int.toNat_natCast, Nat.sub_zero, List.drop_zero, Int.natCast_add, Int.natCast_one]
        repeat' (first | (show Abs _ (.region 10 _ _) _ _; refine abs_regionE 2 rfl k1 (fun K1 hK1 => ?_); simp -implicitDefEqProofs only [go_sem, bas, basL, Nat.reduceAdd, Nat.reduceSub, Nat.reduceMul, Nat.reduceLT, Nat.reduceLeDiff, Nat.reduceEqDiff, Nat.reduceBEq, Int.reduceLT, Int.reduceLE, Int.reduceToNat, Int.reduceAdd, Int.reduceSub, Int.reduceMul, Int.reduceNeg, Int.reduceEq, reduceCtorEq, eq_self, ne_eq, not_false_eq_true, if_true, reduceIte, h10, hnn, hlen, hT, hTl, hnt, List.length_map, Int.toNat_natCast, Nat.sub_zero, List.drop_zero, Int.natCast_add, Int.natCast_one]) | refine abs_seq ?_ | refine abs_block ?_ | refine abs_skip ?_ | refine abs_scope ?_ | refine abs_label ?_ | refine abs_exit ?_ | refine abs_ret ?_ | ((first | refine abs_region fun K hK => ?_ | refine abs_draw Tryz.ty.mixed (by kernel_rfl) fun K hK => ?_ | refine abs_if ?_ | show retQ _ _ _ _ _); simp -implicitDefEqProofs only [go_sem, bas, basL, Nat.reduceAdd, Nat.reduceSub, Nat.reduceMul, Nat.reduceLT, Nat.reduceLeDiff, Nat.reduceEqDiff, Nat.reduceBEq, Int.reduceLT, Int.reduceLE, Int.reduceToNat, Int.reduceAdd, Int.reduceSub, Int.reduceMul, Int.reduceNeg, Int.reduceEq, reduceCtorEq, eq_self, ne_eq, not_false_eq_true, if_true, reduceIte, h10, hnn, hlen, hT, hTl, hnt, List.length_map, Int.toNat_natCast, Nat.sub_zero, List.drop_zero, Int.natCast_add, Int.natCast_one]) | ((first | (refine hK _ ?_; clear hK K) | show thenQ _ _ _ _ | show blockQ _ _ _ _ | show noGoQ _ _ _); simp only [noGoQ, thenQ, blockQ, if_true, Nat.reduceEqDiff, reduceIte]) | (refine hK1 _ (atE_none ?_ ?_ (fun x => by simp only [thenQ, blockQ]; exact ende_panic)); clear hK1 K1) | (intro hg; first | (exfalso; omega) | (exfalso; contradiction) | skip) | apply And.intro | (with_reducible rfl) | (clear hK; omega) | omega)
        all_goals first | (show pureDsV _ _ _ = _; try simp -implicitDefEqProofs only [go_sem, bas, basL, Nat.reduceAdd, Nat.reduceSub, Nat.reduceMul, Nat.reduceLT, Nat.reduceLeDiff, Nat.reduceEqDiff, Nat.reduceBEq, Int.reduceLT, Int.reduceLE, Int.reduceToNat, Int.reduceAdd, Int.reduceSub, Int.reduceMul, Int.reduceNeg, Int.reduceEq, reduceCtorEq, eq_self, ne_eq, not_false_eq_true, if_true, reduceIte, h10, hnn, hlen, hT, hTl, hnt, List.length_map, Int.toNat_natCast, Nat.sub_zero, List.drop_zero, Int.natCast_add, Int.natCast_one]; done) | (show dstOk _ _; rfl) | (show dstOk _ _; simp -implicitDefEqProofs only [go_sem, bas, basL, Nat.reduceAdd, Nat.reduceSub, Nat.reduceMul, Nat.reduceLT, Nat.reduceLeDiff, Nat.reduceEqDiff, Nat.reduceBEq, Int.reduceLT, Int.reduceLE, Int.reduceToNat, Int.reduceAdd, Int.reduceSub, Int.reduceMul, Int.reduceNeg, Int.reduceEq, reduceCtorEq, eq_self, ne_eq, not_false_eq_true, if_true, reduceIte, h10, hnn, hlen, hT, hTl, hnt, List.length_map, Int.toNat_natCast, Nat.sub_zero, List.drop_zero, Int.natCast_add, Int.natCast_one]; done) | skip
    · obtain rfl : j = n := by omega
      have hasc : AsciiL (befB ls j).data.toList := bef_ascii j fun i hi => lineO_ascii (hjs i hi)
      have hlast := last_any (befB ls j) (by omega) hasc
      have hline := line_any (nth ls j) (by omega)
      have hls := lastB_size (befB ls j)
      by_cases hE : nth ls j ++ nl = lastB (befB ls j)
      · have hres := hy ⟨hsuf, hjs, hE⟩
        have hne : ((nth ls j ++ nl).toList == (lastB (befB ls j)).toList) = true := by rw [hE, beq_self_eq_true]
        rw [hres]
        simp -implicitDefEqProofs only [go_sem, bas, basL, Nat.reduceAdd, Nat.reduceSub, Nat.reduceMul, Nat.reduceLT, Nat.reduceLeDiff, Nat.reduceEqDiff, Nat.reduceBEq, Int.reduceLT, Int.reduceLE, Int.reduceToNat, Int.reduceAdd, Int.reduceSub, Int.reduceMul, Int.reduceNeg, Int.reduceEq, reduceCtorEq, eq_self, ne_eq, not_false_eq_true, if_true, reduceIte, h10, hnn, hlen, hT, hTl, hne, List.length_map, Int.toNat_natCast, Nat.sub_zero, List.drop_zero, Int.natCast_add, Int.natCast_one]
        repeat' (first | refine abs_seq ?_ | refine abs_block ?_ | refine abs_skip ?_ | refine abs_scope ?_ | refine abs_label ?_ | refine abs_exit ?_ | refine abs_ret ?_ | ((first | refine abs_region fun K hK => ?_ | refine abs_draw Tryz.ty.mixed (by kernel_rfl) fun K hK => ?_ | refine abs_if ?_ | show retQ _ _ _ _ _ | refine callK (hline) ?_ | refine callK (hlast) ?_ | refine callK (sure_ok _ (by simp <;> omega) _) ?_); simp -implicitDefEqProofs only [go_sem, bas, basL, Nat.reduceAdd, Nat.reduceSub, Nat.reduceMul, Nat.reduceLT, Nat.reduceLeDiff, Nat.reduceEqDiff, Nat.reduceBEq, Int.reduceLT, Int.reduceLE, Int.reduceToNat, Int.reduceAdd, Int.reduceSub, Int.reduceMul, Int.reduceNeg, Int.reduceEq, reduceCtorEq, eq_self, ne_eq, not_false_eq_true, if_true, reduceIte, h10, hnn, hlen, hT, hTl, hne, List.length_map, Int.toNat_natCast, Nat.sub_zero, List.drop_zero, Int.natCast_add, Int.natCast_one]) | ((first | (refine hK _ ?_; clear hK K) | show thenQ _ _ _ _ | show blockQ _ _ _ _ | show noGoQ _ _ _); simp only [noGoQ, thenQ, blockQ, if_true, Nat.reduceEqDiff, reduceIte]) | (refine ende_ret ?_) | (refine ende_normal ?_) | (intro hg; first | (exfalso; omega) | (exfalso; contradiction) | skip) | apply And.intro | (with_reducible rfl) | (clear hK; omega) | omega)
        all_goals skip
      · obtain rfl := hn (fun h => hE h.2.2)
        have hne : ((nth ls j ++ nl).toList == (lastB (befB ls j)).toList) = false := by
          rw [Go.Lib.toList_data, Go.Lib.toList_data, beq_eq_false_iff_ne]
          exact fun h => hE (d_ext h)
        simp -implicitDefEqProofs only [go_sem, bas, basL, Nat.reduceAdd, Nat.reduceSub, Nat.reduceMul, Nat.reduceLT, Nat.reduceLeDiff, Nat.reduceEqDiff, Nat.reduceBEq, Int.reduceLT, Int.reduceLE, Int.reduceToNat, Int.reduceAdd, Int.reduceSub, Int.reduceMul, Int.reduceNeg, Int.reduceEq, reduceCtorEq, eq_self, ne_eq, not_false_eq_true, if_true, reduceIte, h10, hnn, hlen, hT, hTl, hne, List.length_map, Int.toNat_natCast, Nat.sub_zero, List.drop_zero, Int.natCast_add, Int.natCast_one]
        repeat' (first | (show Abs _ (.region 13 _ _) _ _; refine abs_drawE 13 Tryz.ty.mixed rfl (by kernel_rfl) (sure_f (nth ls j)) (fun K1 hK1 => ?_); simp -implicitDefEqProofs only [go_sem, bas, basL, Nat.reduceAdd, Nat.reduceSub, Nat.reduceMul, Nat.reduceLT, Nat.reduceLeDiff, Nat.reduceEqDiff, Nat.reduceBEq, Int.reduceLT, Int.reduceLE, Int.reduceToNat, Int.reduceAdd, Int.reduceSub, Int.reduceMul, Int.reduceNeg, Int.reduceEq, reduceCtorEq, eq_self, ne_eq, not_false_eq_true, if_true, reduceIte, h10, hnn, hlen, hT, hTl, hne, List.length_map, Int.toNat_natCast, Nat.sub_zero, List.drop_zero, Int.natCast_add, Int.natCast_one]) | refine abs_seq ?_ | refine abs_block ?_ | refine abs_skip ?_ | refine abs_scope ?_ | refine abs_label ?_ | refine abs_exit ?_ | refine abs_ret ?_ | ((first | refine abs_region fun K hK => ?_ | refine abs_draw Tryz.ty.mixed (by kernel_rfl) fun K hK => ?_ | refine abs_if ?_ | show retQ _ _ _ _ _ | refine callK (hline) ?_ | refine callK (hlast) ?_); simp -implicitDefEqProofs only [go_sem, bas, basL, Nat.reduceAdd, Nat.reduceSub, Nat.reduceMul, Nat.reduceLT, Nat.reduceLeDiff, Nat.reduceEqDiff, Nat.reduceBEq, Int.reduceLT, Int.reduceLE, Int.reduceToNat, Int.reduceAdd, Int.reduceSub, Int.reduceMul, Int.reduceNeg, Int.reduceEq, reduceCtorEq, eq_self, ne_eq, not_false_eq_true, if_true, reduceIte, h10, hnn, hlen, hT, hTl, hne, List.length_map, Int.toNat_natCast, Nat.sub_zero, List.drop_zero, Int.natCast_add, Int.natCast_one]) | ((first | (refine hK _ ?_; clear hK K) | show thenQ _ _ _ _ | show blockQ _ _ _ _ | show noGoQ _ _ _); simp only [noGoQ, thenQ, blockQ, if_true, Nat.reduceEqDiff, reduceIte]) | (refine hK1 _ (atE_none ?_ ?_ (fun x => by simp only [thenQ, blockQ]; exact ende_panic)); clear hK1 K1) | (intro hg; first | (exfalso; omega) | (exfalso; contradiction) | skip) | apply And.intro | (with_reducible rfl) | (clear hK; omega) | omega)
        all_goals first | (show pureDsV _ _ _ = _; try simp -implicitDefEqProofs only [go_sem, bas, basL, Nat.reduceAdd, Nat.reduceSub, Nat.reduceMul, Nat.reduceLT, Nat.reduceLeDiff, Nat.reduceEqDiff, Nat.reduceBEq, Int.reduceLT, Int.reduceLE, Int.reduceToNat, Int.reduceAdd, Int.reduceSub, Int.reduceMul, Int.reduceNeg, Int.reduceEq, reduceCtorEq, eq_self, ne_eq, not_false_eq_true, if_true, reduceIte, h10, hnn, hlen, hT, hTl, hne, List.length_map, Int.toNat_natCast, Nat.sub_zero, List.drop_zero, Int.natCast_add, Int.natCast_one]; done) | (show dstOk _ _; rfl) | (show dstOk _ _; simp -implicitDefEqProofs only [go_sem, bas, basL, Nat.reduceAdd, Nat.reduceSub, Nat.reduceMul, Nat.reduceLT, Nat.reduceLeDiff, Nat.reduceEqDiff, Nat.reduceBEq, Int.reduceLT, Int.reduceLE, Int.reduceToNat, Int.reduceAdd, Int.reduceSub, Int.reduceMul, Int.reduceNeg, Int.reduceEq, reduceCtorEq, eq_self, ne_eq, not_false_eq_true, if_true, reduceIte, h10, hnn, hlen, hT, hTl, hne, List.length_map, Int.toNat_natCast, Nat.sub_zero, List.drop_zero, Int.natCast_add, Int.natCast_one]; done) | skip
end Go.Proofs.YtdbiiegohemahaaGreatDoor
