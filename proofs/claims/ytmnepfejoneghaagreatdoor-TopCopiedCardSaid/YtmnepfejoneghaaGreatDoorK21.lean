import Derived.Test.YtmnepfejoneghaaGreatDoorK20
set_option linter.unusedVariables false
set_option linter.unusedSimpArgs false
namespace Go.Proofs.YtmnepfejoneghaaGreatDoor
open Go.Ab Go.Sheet
attribute [local irreducible] Abs CallK CallR CallsTo IA
/-- Readings that can be read. -/
structure Fit (r : Rdg) : Prop where
  d : r.day.natAbs ≤ 99999
  m : r.min.natAbs ≤ 99999
  c : 1 ≤ r.clk ∧ r.clk ≤ 3
  n : ∀ n ∈ numsR r, n.natAbs ≤ 99999
theorem RdOk.fit {r : Rdg} (h : RdOk r) : Fit r := by
  have h1 := h.d; have h2 := h.m; have h3 := h.c; have h4 := h.q; have h5 := h.a; have h6 := h.y; have h7 := h.w
  unfold Spn at h5 h6 h7
  refine ⟨by omega, by omega, h3, fun n hn => ?_⟩
  simp only [numsR, List.mem_cons, List.not_mem_nil, or_false] at hn
  omega
theorem partsB_join (c : UInt8) (ws : List ByteArray) (hne : ws ≠ []) (h : ∀ w ∈ ws, c ∉ w.data.toList) : partsB c (joinB ws ⟨#[c]⟩) = ws := by
  unfold partsB joinB
  rw [mk_list, show (ByteArray.mk #[c]).data.toList = [c] from rfl, parts_join c _ (by simpa using hne) (fun w hw => by obtain ⟨y, hy, rfl⟩ := List.mem_map.1 hw; exact h y hy), List.map_map]
  conv => rhs; rw [← List.map_id ws]
  refine List.map_congr_left fun x _ => ?_
  show (ByteArray.mk x.data.toList.toArray) = x
  exact Go.Lib.mk_data x
theorem itoa_free (n : Int) (c : UInt8) (h : c ≠ 45) (hd : ¬ isDig c) : c ∉ (itoa n).data.toList := by
  unfold itoa
  rw [mk_list]
  intro hc
  rcases itoa_bytes n c hc with h' | h'
  · exact h h'
  · exact hd h'
/-- The letter of a clock. -/
def letterC (k : Int) : UInt8 := if k = 1 then 114 else if k = 2 then 115 else 101
theorem letter_eq {k : Int} (h : 1 ≤ k ∧ k ≤ 3) : rse.extract (k - 1).toNat (k - 1 + 1).toNat = ⟨#[letterC k]⟩ := by
  have : k = 1 ∨ k = 2 ∨ k = 3 := by omega
  rcases this with rfl | rfl | rfl <;> rfl
theorem letter_index {k : Int} (h : 1 ≤ k ∧ k ≤ 3) : Go.Lib.indexByte rse.data.toList (letterC k) = k - 1 := by
  have : k = 1 ∨ k = 2 ∨ k = 3 := by omega
  rcases this with rfl | rfl | rfl <;> decide
theorem words_eq {r : Rdg} (h : Fit r) : wordsK r 7 = [itoa r.day, itoa r.min, ⟨#[letterC r.clk]⟩, itoa r.mer, itoa r.al, itoa r.ah, itoa r.dl, itoa r.dh, itoa r.wl, itoa r.wh] := by
  unfold wordsK
  rw [letter_eq h.c]; rfl
theorem words_free {r : Rdg} (h : Fit r) (c : UInt8) (hc : c = 32 ∨ c = 10) : ∀ w ∈ wordsK r 7, c ∉ w.data.toList := by
  rw [words_eq h]
  have k1 : c ≠ 45 := by rcases hc with rfl | rfl <;> decide
  have k2 : ¬ isDig c := by rcases hc with rfl | rfl <;> decide
  have k3 : c ∉ (ByteArray.mk #[letterC r.clk]).data.toList := by
    have hk := h.c
    have : r.clk = 1 ∨ r.clk = 2 ∨ r.clk = 3 := by omega
    rcases this with e | e | e <;> rw [e] <;> rcases hc with rfl | rfl <;> decide
  intro w hw
  simp only [List.mem_cons, List.not_mem_nil, or_false] at hw
  rcases hw with rfl | rfl | rfl | rfl | rfl | rfl | rfl | rfl | rfl | rfl
  all_goals first | exact k3 | exact itoa_free _ c k1 k2
theorem itoa_len {n : Int} (h : n.natAbs ≤ 99999) : (Go.Lib.itoa n).length ≤ 6 := by
  unfold Go.Lib.itoa
  have := dec_len h
  split
  · simp; omega
  · have e : n.toNat = n.natAbs := by omega
    rw [e]; omega
theorem line_len {r : Rdg} (h : Fit r) : (Go.Lib.join ((wordsK r 7).map (·.data.toList)) sp.data.toList).length ≤ 64 := by
  have g : ∀ n ∈ numsR r, (Go.Lib.itoa n).length ≤ 6 := fun n hn => itoa_len (h.n n hn)
  have h1 := itoa_len h.d; have h2 := itoa_len h.m
  have e : ∀ n, (itoa n).data.toList = Go.Lib.itoa n := fun n => mk_list _
  rw [words_eq h, List.map_cons, Go.Lib.join_length]
  simp only [List.map_cons, List.map_nil, Go.Lib.lens, List.length_cons, List.length_nil, List.sum_cons, List.sum_nil, e]
  have k : ∀ n ∈ numsR r, (Go.Lib.itoa n).length ≤ 6 := g
  simp only [numsR, List.mem_cons, List.not_mem_nil, or_false, forall_eq_or_imp, forall_eq] at k
  have hsp : sp.data.toList.length = 1 := rfl
  have hl : (ByteArray.mk #[letterC r.clk]).data.toList.length = 1 := rfl
  omega
section
variable {k : D → Prop} {a b c d e f g h i j : D} {l : List D}
theorem wq0 : wNth (a :: l) 0 k = k a := by unfold wNth; simp
theorem wq1 : wNth (a :: b :: l) 1 k = k b := by unfold wNth; simp
theorem wq2 : wNth (a :: b :: c :: l) 2 k = k c := by unfold wNth; simp
theorem wq3 : wNth (a :: b :: c :: d :: l) 3 k = k d := by unfold wNth; simp
theorem wq4 : wNth (a :: b :: c :: d :: e :: l) 4 k = k e := by unfold wNth; simp
theorem wq5 : wNth (a :: b :: c :: d :: e :: f :: l) 5 k = k f := by unfold wNth; simp
theorem wq6 : wNth (a :: b :: c :: d :: e :: f :: g :: l) 6 k = k g := by unfold wNth; simp
theorem wq7 : wNth (a :: b :: c :: d :: e :: f :: g :: h :: l) 7 k = k h := by unfold wNth; simp
theorem wq8 : wNth (a :: b :: c :: d :: e :: f :: g :: h :: i :: l) 8 k = k i := by unfold wNth; simp
theorem wq9 : wNth (a :: b :: c :: d :: e :: f :: g :: h :: i :: j :: l) 9 k = k j := by unfold wNth; simp
end
/-- The numbers of the first words. -/
def xsK (r : Rdg) : Nat → List D
  | 0 => [i64 0, i64 0, i64 0, i64 0, i64 0, i64 0, i64 0, i64 0, i64 0, i64 0]
  | 1 => [i64 r.day, i64 0, i64 0, i64 0, i64 0, i64 0, i64 0, i64 0, i64 0, i64 0]
  | 2 => [i64 r.day, i64 r.min, i64 0, i64 0, i64 0, i64 0, i64 0, i64 0, i64 0, i64 0]
  | 3 => [i64 r.day, i64 r.min, i64 0, i64 0, i64 0, i64 0, i64 0, i64 0, i64 0, i64 0]
  | 4 => [i64 r.day, i64 r.min, i64 0, i64 r.mer, i64 0, i64 0, i64 0, i64 0, i64 0, i64 0]
  | 5 => [i64 r.day, i64 r.min, i64 0, i64 r.mer, i64 r.al, i64 0, i64 0, i64 0, i64 0, i64 0]
  | 6 => [i64 r.day, i64 r.min, i64 0, i64 r.mer, i64 r.al, i64 r.ah, i64 0, i64 0, i64 0, i64 0]
  | 7 => [i64 r.day, i64 r.min, i64 0, i64 r.mer, i64 r.al, i64 r.ah, i64 r.dl, i64 0, i64 0, i64 0]
  | 8 => [i64 r.day, i64 r.min, i64 0, i64 r.mer, i64 r.al, i64 r.ah, i64 r.dl, i64 r.dh, i64 0, i64 0]
  | 9 => [i64 r.day, i64 r.min, i64 0, i64 r.mer, i64 r.al, i64 r.ah, i64 r.dl, i64 r.dh, i64 r.wl, i64 0]
  | _ => [i64 r.day, i64 r.min, i64 0, i64 r.mer, i64 r.al, i64 r.ah, i64 r.dl, i64 r.dh, i64 r.wl, i64 r.wh]
set_option maxRecDepth 100000 in
set_option maxHeartbeats 4000000 in
theorem readLine_ok (r : Rdg) (hf : Fit r) : CallsTo Tryz.prog 77 [.str (joinB (wordsK r 7) sp)] (rdD r) := by
  have hs := split_ok (joinB (wordsK r 7) sp) 32 (by show (ByteArray.mk _).size < _; rw [mk_size]; have := line_len hf; omega)
  rw [partsB_join 32 (wordsK r 7) (by rw [words_eq hf]; simp) (words_free hf 32 (.inl rfl)), words_eq hf] at hs
  simp only [List.map_cons, List.map_nil] at hs
  rw [words_eq hf]
  have hcl := hf.c
  have hcon := contains_ok rse (letterC r.clk)
  rw [letter_index hf.c, show decide (0 ≤ r.clk - 1) = true from decide_eq_true (by omega)] at hcon
  have hidx := index_ok1 rse (letterC r.clk)
  rw [letter_index hf.c] at hidx
  have n0 := number_ok r.day hf.d
  have n1 := number_ok r.min hf.m
  have n3 := number_ok r.mer (hf.n _ (by simp [numsR]))
  have n4 := number_ok r.al (hf.n _ (by simp [numsR]))
  have n5 := number_ok r.ah (hf.n _ (by simp [numsR]))
  have n6 := number_ok r.dl (hf.n _ (by simp [numsR]))
  have n7 := number_ok r.dh (hf.n _ (by simp [numsR]))
  have n8 := number_ok r.wl (hf.n _ (by simp [numsR]))
  have n9 := number_ok r.wh (hf.n _ (by simp [numsR]))
  generalize letterC r.clk = c at *
  have hsz : (ByteArray.mk #[c]).size = 1 := rfl
  have hck : 1 + (r.clk - 1) = r.clk := by omega
  generalize joinB [itoa r.day, itoa r.min, ⟨#[c]⟩, itoa r.mer, itoa r.al, itoa r.ah, itoa r.dl, itoa r.dh, itoa r.wl, itoa r.wh] sp = txt at *
  refine calls_abs Tryz.func77 Tryz.ntmps77 Tryz.results77 Tryz.call77 rfl (by simp) fun w0 S0 M0 => ?_
  repeat' (first | refine st1 ?_ | ((first | refine abs_region fun K hK => ?_ | refine abs_draw Tryz.ty.mixed (by kernel_rfl) fun K hK => ?_ | refine abs_if ?_ | show retQ _ _ _ _ _ | refine callK (hs) ?_ | refine callK (hcon) ?_ | refine callK (sure_ok _ (by simp <;> omega) _) ?_); simp -implicitDefEqProofs only [go_sem, bas, basL, Nat.reduceAdd, Nat.reduceSub, Nat.reduceMul, Nat.reduceLT, Nat.reduceLeDiff, Nat.reduceEqDiff, Nat.reduceBEq, Int.reduceLT, Int.reduceLE, Int.reduceToNat, Int.reduceAdd, Int.reduceSub, Int.reduceMul, Int.reduceNeg, Int.reduceEq, reduceCtorEq, eq_self, ne_eq, not_false_eq_true, if_true, reduceIte, ↓wq0, ↓wq1, ↓wq2, ↓wq3, ↓wq4, ↓wq5, ↓wq6, ↓wq7, ↓wq8, ↓wq9, Int.natCast_zero, Int.natCast_one, Int.cast_ofNat_Int, hsz, hck, Tryz.underlying9]) | ((first | (refine hK _ ?_; clear hK K) | show thenQ _ _ _ _ | show blockQ _ _ _ _ | show noGoQ _ _ _); refine qst ?_) | (intro hg; try exact fin2) | apply And.intro | exact fin | fail)
  refine abs_loopN (ι := Nat) (fun j => [(2, .box 0 0), (3, .list [.str (itoa r.day), .str (itoa r.min), .str ⟨#[c]⟩, .str (itoa r.mer), .str (itoa r.al), .str (itoa r.ah), .str (itoa r.dl), .str (itoa r.dh), .str (itoa r.wl), .str (itoa r.wh)]), (4, .box 1 0), (28, .list [.str (itoa r.day), .str (itoa r.min), .str ⟨#[c]⟩, .str (itoa r.mer), .str (itoa r.al), .str (itoa r.ah), .str (itoa r.dl), .str (itoa r.dh), .str (itoa r.wl), .str (itoa r.wh)]), (29, i64 10), (30, i64 j)]) (fun j => [.mu [i64 0, i64 0, i64 0, i64 0, i64 0, i64 0, i64 0, i64 0, i64 0, i64 0], .mu (xsK r j)]) (fun _ => [])
    (fun j => j ≤ 10) (fun j => 10 - j) (fun j hj => ⟨rfl, by match j, hj with | 0, _ => rfl | 1, _ => rfl | 2, _ => rfl | 3, _ => rfl | 4, _ => rfl | 5, _ => rfl | 6, _ => rfl | 7, _ => rfl | 8, _ => rfl | 9, _ => rfl | 10, _ => rfl⟩) 0 (Nat.zero_le _) (le_of rfl (by try simp -implicitDefEqProofs only [go_sem, bas, basL, Nat.reduceAdd, Nat.reduceSub, Nat.reduceMul, Nat.reduceLT, Nat.reduceLeDiff, Nat.reduceEqDiff, Nat.reduceBEq, Int.reduceLT, Int.reduceLE, Int.reduceToNat, Int.reduceAdd, Int.reduceSub, Int.reduceMul, Int.reduceNeg, Int.reduceEq, reduceCtorEq, eq_self, ne_eq, not_false_eq_true, if_true, reduceIte, ↓wq0, ↓wq1, ↓wq2, ↓wq3, ↓wq4, ↓wq5, ↓wq6, ↓wq7, ↓wq8, ↓wq9, Int.natCast_zero, Int.natCast_one, Int.cast_ofNat_Int, hsz, hck, Tryz.underlying9]; try simp [xsK]) ⟨_, rfl⟩ ⟨_, rfl⟩) (fun j hj => ?_)
  match j, hj with
  | 0, _ =>
    have e : xsK r 0 = [i64 0, i64 0, i64 0, i64 0, i64 0, i64 0, i64 0, i64 0, i64 0, i64 0] := rfl
    have e1 : xsK r 1 = [i64 r.day, i64 0, i64 0, i64 0, i64 0, i64 0, i64 0, i64 0, i64 0, i64 0] := rfl
    rw [e]
    simp -implicitDefEqProofs only [go_sem, bas, basL, Nat.reduceAdd, Nat.reduceSub, Nat.reduceMul, Nat.reduceLT, Nat.reduceLeDiff, Nat.reduceEqDiff, Nat.reduceBEq, Int.reduceLT, Int.reduceLE, Int.reduceToNat, Int.reduceAdd, Int.reduceSub, Int.reduceMul, Int.reduceNeg, Int.reduceEq, reduceCtorEq, eq_self, ne_eq, not_false_eq_true, if_true, reduceIte, ↓wq0, ↓wq1, ↓wq2, ↓wq3, ↓wq4, ↓wq5, ↓wq6, ↓wq7, ↓wq8, ↓wq9, Int.natCast_zero, Int.natCast_one, Int.cast_ofNat_Int, hsz, hck, Tryz.underlying9]
    repeat' (first | refine st1 ?_ | ((first | refine abs_region fun K hK => ?_ | refine abs_draw Tryz.ty.mixed (by kernel_rfl) fun K hK => ?_ | refine abs_if ?_ | show retQ _ _ _ _ _ | refine callK (n0) ?_ | refine callK (n1) ?_ | refine callK (n3) ?_ | refine callK (n4) ?_ | refine callK (n5) ?_ | refine callK (n6) ?_ | refine callK (n7) ?_ | refine callK (n8) ?_ | refine callK (n9) ?_); simp -implicitDefEqProofs only [go_sem, bas, basL, Nat.reduceAdd, Nat.reduceSub, Nat.reduceMul, Nat.reduceLT, Nat.reduceLeDiff, Nat.reduceEqDiff, Nat.reduceBEq, Int.reduceLT, Int.reduceLE, Int.reduceToNat, Int.reduceAdd, Int.reduceSub, Int.reduceMul, Int.reduceNeg, Int.reduceEq, reduceCtorEq, eq_self, ne_eq, not_false_eq_true, if_true, reduceIte, ↓wq0, ↓wq1, ↓wq2, ↓wq3, ↓wq4, ↓wq5, ↓wq6, ↓wq7, ↓wq8, ↓wq9, Int.natCast_zero, Int.natCast_one, Int.cast_ofNat_Int, hsz, hck, Tryz.underlying9]) | ((first | (refine hK _ ?_; clear hK K) | show thenQ _ _ _ _ | show blockQ _ _ _ _ | show noGoQ _ _ _); refine qst ?_) | (intro hg; try exact fin2) | apply And.intro | exact fin | fail)
    exact ⟨1, by omega, by omega, le_of rfl (by try simp -implicitDefEqProofs only [go_sem, bas, basL, Nat.reduceAdd, Nat.reduceSub, Nat.reduceMul, Nat.reduceLT, Nat.reduceLeDiff, Nat.reduceEqDiff, Nat.reduceBEq, Int.reduceLT, Int.reduceLE, Int.reduceToNat, Int.reduceAdd, Int.reduceSub, Int.reduceMul, Int.reduceNeg, Int.reduceEq, reduceCtorEq, eq_self, ne_eq, not_false_eq_true, if_true, reduceIte, ↓wq0, ↓wq1, ↓wq2, ↓wq3, ↓wq4, ↓wq5, ↓wq6, ↓wq7, ↓wq8, ↓wq9, Int.natCast_zero, Int.natCast_one, Int.cast_ofNat_Int, hsz, hck, Tryz.underlying9]; try simp) ⟨[], by rw [e1]; rfl⟩ ⟨_, rfl⟩⟩
  | 1, _ =>
    have e : xsK r 1 = [i64 r.day, i64 0, i64 0, i64 0, i64 0, i64 0, i64 0, i64 0, i64 0, i64 0] := rfl
    have e1 : xsK r 2 = [i64 r.day, i64 r.min, i64 0, i64 0, i64 0, i64 0, i64 0, i64 0, i64 0, i64 0] := rfl
    rw [e]
    simp -implicitDefEqProofs only [go_sem, bas, basL, Nat.reduceAdd, Nat.reduceSub, Nat.reduceMul, Nat.reduceLT, Nat.reduceLeDiff, Nat.reduceEqDiff, Nat.reduceBEq, Int.reduceLT, Int.reduceLE, Int.reduceToNat, Int.reduceAdd, Int.reduceSub, Int.reduceMul, Int.reduceNeg, Int.reduceEq, reduceCtorEq, eq_self, ne_eq, not_false_eq_true, if_true, reduceIte, ↓wq0, ↓wq1, ↓wq2, ↓wq3, ↓wq4, ↓wq5, ↓wq6, ↓wq7, ↓wq8, ↓wq9, Int.natCast_zero, Int.natCast_one, Int.cast_ofNat_Int, hsz, hck, Tryz.underlying9]
    repeat' (first | refine st1 ?_ | ((first | refine abs_region fun K hK => ?_ | refine abs_draw Tryz.ty.mixed (by kernel_rfl) fun K hK => ?_ | refine abs_if ?_ | show retQ _ _ _ _ _ | refine callK (n0) ?_ | refine callK (n1) ?_ | refine callK (n3) ?_ | refine callK (n4) ?_ | refine callK (n5) ?_ | refine callK (n6) ?_ | refine callK (n7) ?_ | refine callK (n8) ?_ | refine callK (n9) ?_); simp -implicitDefEqProofs only [go_sem, bas, basL, Nat.reduceAdd, Nat.reduceSub, Nat.reduceMul, Nat.reduceLT, Nat.reduceLeDiff, Nat.reduceEqDiff, Nat.reduceBEq, Int.reduceLT, Int.reduceLE, Int.reduceToNat, Int.reduceAdd, Int.reduceSub, Int.reduceMul, Int.reduceNeg, Int.reduceEq, reduceCtorEq, eq_self, ne_eq, not_false_eq_true, if_true, reduceIte, ↓wq0, ↓wq1, ↓wq2, ↓wq3, ↓wq4, ↓wq5, ↓wq6, ↓wq7, ↓wq8, ↓wq9, Int.natCast_zero, Int.natCast_one, Int.cast_ofNat_Int, hsz, hck, Tryz.underlying9]) | ((first | (refine hK _ ?_; clear hK K) | show thenQ _ _ _ _ | show blockQ _ _ _ _ | show noGoQ _ _ _); refine qst ?_) | (intro hg; try exact fin2) | apply And.intro | exact fin | fail)
    exact ⟨2, by omega, by omega, le_of rfl (by try simp -implicitDefEqProofs only [go_sem, bas, basL, Nat.reduceAdd, Nat.reduceSub, Nat.reduceMul, Nat.reduceLT, Nat.reduceLeDiff, Nat.reduceEqDiff, Nat.reduceBEq, Int.reduceLT, Int.reduceLE, Int.reduceToNat, Int.reduceAdd, Int.reduceSub, Int.reduceMul, Int.reduceNeg, Int.reduceEq, reduceCtorEq, eq_self, ne_eq, not_false_eq_true, if_true, reduceIte, ↓wq0, ↓wq1, ↓wq2, ↓wq3, ↓wq4, ↓wq5, ↓wq6, ↓wq7, ↓wq8, ↓wq9, Int.natCast_zero, Int.natCast_one, Int.cast_ofNat_Int, hsz, hck, Tryz.underlying9]; try simp) ⟨[], by rw [e1]; rfl⟩ ⟨_, rfl⟩⟩
  | 2, _ =>
    have e : xsK r 2 = [i64 r.day, i64 r.min, i64 0, i64 0, i64 0, i64 0, i64 0, i64 0, i64 0, i64 0] := rfl
    have e1 : xsK r 3 = [i64 r.day, i64 r.min, i64 0, i64 0, i64 0, i64 0, i64 0, i64 0, i64 0, i64 0] := rfl
    rw [e]
    simp -implicitDefEqProofs only [go_sem, bas, basL, Nat.reduceAdd, Nat.reduceSub, Nat.reduceMul, Nat.reduceLT, Nat.reduceLeDiff, Nat.reduceEqDiff, Nat.reduceBEq, Int.reduceLT, Int.reduceLE, Int.reduceToNat, Int.reduceAdd, Int.reduceSub, Int.reduceMul, Int.reduceNeg, Int.reduceEq, reduceCtorEq, eq_self, ne_eq, not_false_eq_true, if_true, reduceIte, ↓wq0, ↓wq1, ↓wq2, ↓wq3, ↓wq4, ↓wq5, ↓wq6, ↓wq7, ↓wq8, ↓wq9, Int.natCast_zero, Int.natCast_one, Int.cast_ofNat_Int, hsz, hck, Tryz.underlying9]
    repeat' (first | refine st1 ?_ | ((first | refine abs_region fun K hK => ?_ | refine abs_draw Tryz.ty.mixed (by kernel_rfl) fun K hK => ?_ | refine abs_if ?_ | show retQ _ _ _ _ _ | refine callK (n0) ?_ | refine callK (n1) ?_ | refine callK (n3) ?_ | refine callK (n4) ?_ | refine callK (n5) ?_ | refine callK (n6) ?_ | refine callK (n7) ?_ | refine callK (n8) ?_ | refine callK (n9) ?_); simp -implicitDefEqProofs only [go_sem, bas, basL, Nat.reduceAdd, Nat.reduceSub, Nat.reduceMul, Nat.reduceLT, Nat.reduceLeDiff, Nat.reduceEqDiff, Nat.reduceBEq, Int.reduceLT, Int.reduceLE, Int.reduceToNat, Int.reduceAdd, Int.reduceSub, Int.reduceMul, Int.reduceNeg, Int.reduceEq, reduceCtorEq, eq_self, ne_eq, not_false_eq_true, if_true, reduceIte, ↓wq0, ↓wq1, ↓wq2, ↓wq3, ↓wq4, ↓wq5, ↓wq6, ↓wq7, ↓wq8, ↓wq9, Int.natCast_zero, Int.natCast_one, Int.cast_ofNat_Int, hsz, hck, Tryz.underlying9]) | ((first | (refine hK _ ?_; clear hK K) | show thenQ _ _ _ _ | show blockQ _ _ _ _ | show noGoQ _ _ _); refine qst ?_) | (intro hg; try exact fin2) | apply And.intro | exact fin | fail)
    exact ⟨3, by omega, by omega, le_of rfl (by try simp -implicitDefEqProofs only [go_sem, bas, basL, Nat.reduceAdd, Nat.reduceSub, Nat.reduceMul, Nat.reduceLT, Nat.reduceLeDiff, Nat.reduceEqDiff, Nat.reduceBEq, Int.reduceLT, Int.reduceLE, Int.reduceToNat, Int.reduceAdd, Int.reduceSub, Int.reduceMul, Int.reduceNeg, Int.reduceEq, reduceCtorEq, eq_self, ne_eq, not_false_eq_true, if_true, reduceIte, ↓wq0, ↓wq1, ↓wq2, ↓wq3, ↓wq4, ↓wq5, ↓wq6, ↓wq7, ↓wq8, ↓wq9, Int.natCast_zero, Int.natCast_one, Int.cast_ofNat_Int, hsz, hck, Tryz.underlying9]; try simp) ⟨[], by rw [e1]; rfl⟩ ⟨_, rfl⟩⟩
  | 3, _ =>
    have e : xsK r 3 = [i64 r.day, i64 r.min, i64 0, i64 0, i64 0, i64 0, i64 0, i64 0, i64 0, i64 0] := rfl
    have e1 : xsK r 4 = [i64 r.day, i64 r.min, i64 0, i64 r.mer, i64 0, i64 0, i64 0, i64 0, i64 0, i64 0] := rfl
    rw [e]
    simp -implicitDefEqProofs only [go_sem, bas, basL, Nat.reduceAdd, Nat.reduceSub, Nat.reduceMul, Nat.reduceLT, Nat.reduceLeDiff, Nat.reduceEqDiff, Nat.reduceBEq, Int.reduceLT, Int.reduceLE, Int.reduceToNat, Int.reduceAdd, Int.reduceSub, Int.reduceMul, Int.reduceNeg, Int.reduceEq, reduceCtorEq, eq_self, ne_eq, not_false_eq_true, if_true, reduceIte, ↓wq0, ↓wq1, ↓wq2, ↓wq3, ↓wq4, ↓wq5, ↓wq6, ↓wq7, ↓wq8, ↓wq9, Int.natCast_zero, Int.natCast_one, Int.cast_ofNat_Int, hsz, hck, Tryz.underlying9]
    repeat' (first | refine st1 ?_ | ((first | refine abs_region fun K hK => ?_ | refine abs_draw Tryz.ty.mixed (by kernel_rfl) fun K hK => ?_ | refine abs_if ?_ | show retQ _ _ _ _ _ | refine callK (n0) ?_ | refine callK (n1) ?_ | refine callK (n3) ?_ | refine callK (n4) ?_ | refine callK (n5) ?_ | refine callK (n6) ?_ | refine callK (n7) ?_ | refine callK (n8) ?_ | refine callK (n9) ?_); simp -implicitDefEqProofs only [go_sem, bas, basL, Nat.reduceAdd, Nat.reduceSub, Nat.reduceMul, Nat.reduceLT, Nat.reduceLeDiff, Nat.reduceEqDiff, Nat.reduceBEq, Int.reduceLT, Int.reduceLE, Int.reduceToNat, Int.reduceAdd, Int.reduceSub, Int.reduceMul, Int.reduceNeg, Int.reduceEq, reduceCtorEq, eq_self, ne_eq, not_false_eq_true, if_true, reduceIte, ↓wq0, ↓wq1, ↓wq2, ↓wq3, ↓wq4, ↓wq5, ↓wq6, ↓wq7, ↓wq8, ↓wq9, Int.natCast_zero, Int.natCast_one, Int.cast_ofNat_Int, hsz, hck, Tryz.underlying9]) | ((first | (refine hK _ ?_; clear hK K) | show thenQ _ _ _ _ | show blockQ _ _ _ _ | show noGoQ _ _ _); refine qst ?_) | (intro hg; try exact fin2) | apply And.intro | exact fin | fail)
    exact ⟨4, by omega, by omega, le_of rfl (by try simp -implicitDefEqProofs only [go_sem, bas, basL, Nat.reduceAdd, Nat.reduceSub, Nat.reduceMul, Nat.reduceLT, Nat.reduceLeDiff, Nat.reduceEqDiff, Nat.reduceBEq, Int.reduceLT, Int.reduceLE, Int.reduceToNat, Int.reduceAdd, Int.reduceSub, Int.reduceMul, Int.reduceNeg, Int.reduceEq, reduceCtorEq, eq_self, ne_eq, not_false_eq_true, if_true, reduceIte, ↓wq0, ↓wq1, ↓wq2, ↓wq3, ↓wq4, ↓wq5, ↓wq6, ↓wq7, ↓wq8, ↓wq9, Int.natCast_zero, Int.natCast_one, Int.cast_ofNat_Int, hsz, hck, Tryz.underlying9]; try simp) ⟨[], by rw [e1]; rfl⟩ ⟨_, rfl⟩⟩
  | 4, _ =>
    have e : xsK r 4 = [i64 r.day, i64 r.min, i64 0, i64 r.mer, i64 0, i64 0, i64 0, i64 0, i64 0, i64 0] := rfl
    have e1 : xsK r 5 = [i64 r.day, i64 r.min, i64 0, i64 r.mer, i64 r.al, i64 0, i64 0, i64 0, i64 0, i64 0] := rfl
    rw [e]
    simp -implicitDefEqProofs only [go_sem, bas, basL, Nat.reduceAdd, Nat.reduceSub, Nat.reduceMul, Nat.reduceLT, Nat.reduceLeDiff, Nat.reduceEqDiff, Nat.reduceBEq, Int.reduceLT, Int.reduceLE, Int.reduceToNat, Int.reduceAdd, Int.reduceSub, Int.reduceMul, Int.reduceNeg, Int.reduceEq, reduceCtorEq, eq_self, ne_eq, not_false_eq_true, if_true, reduceIte, ↓wq0, ↓wq1, ↓wq2, ↓wq3, ↓wq4, ↓wq5, ↓wq6, ↓wq7, ↓wq8, ↓wq9, Int.natCast_zero, Int.natCast_one, Int.cast_ofNat_Int, hsz, hck, Tryz.underlying9]
    repeat' (first | refine st1 ?_ | ((first | refine abs_region fun K hK => ?_ | refine abs_draw Tryz.ty.mixed (by kernel_rfl) fun K hK => ?_ | refine abs_if ?_ | show retQ _ _ _ _ _ | refine callK (n0) ?_ | refine callK (n1) ?_ | refine callK (n3) ?_ | refine callK (n4) ?_ | refine callK (n5) ?_ | refine callK (n6) ?_ | refine callK (n7) ?_ | refine callK (n8) ?_ | refine callK (n9) ?_); simp -implicitDefEqProofs only [go_sem, bas, basL, Nat.reduceAdd, Nat.reduceSub, Nat.reduceMul, Nat.reduceLT, Nat.reduceLeDiff, Nat.reduceEqDiff, Nat.reduceBEq, Int.reduceLT, Int.reduceLE, Int.reduceToNat, Int.reduceAdd, Int.reduceSub, Int.reduceMul, Int.reduceNeg, Int.reduceEq, reduceCtorEq, eq_self, ne_eq, not_false_eq_true, if_true, reduceIte, ↓wq0, ↓wq1, ↓wq2, ↓wq3, ↓wq4, ↓wq5, ↓wq6, ↓wq7, ↓wq8, ↓wq9, Int.natCast_zero, Int.natCast_one, Int.cast_ofNat_Int, hsz, hck, Tryz.underlying9]) | ((first | (refine hK _ ?_; clear hK K) | show thenQ _ _ _ _ | show blockQ _ _ _ _ | show noGoQ _ _ _); refine qst ?_) | (intro hg; try exact fin2) | apply And.intro | exact fin | fail)
    exact ⟨5, by omega, by omega, le_of rfl (by try simp -implicitDefEqProofs only [go_sem, bas, basL, Nat.reduceAdd, Nat.reduceSub, Nat.reduceMul, Nat.reduceLT, Nat.reduceLeDiff, Nat.reduceEqDiff, Nat.reduceBEq, Int.reduceLT, Int.reduceLE, Int.reduceToNat, Int.reduceAdd, Int.reduceSub, Int.reduceMul, Int.reduceNeg, Int.reduceEq, reduceCtorEq, eq_self, ne_eq, not_false_eq_true, if_true, reduceIte, ↓wq0, ↓wq1, ↓wq2, ↓wq3, ↓wq4, ↓wq5, ↓wq6, ↓wq7, ↓wq8, ↓wq9, Int.natCast_zero, Int.natCast_one, Int.cast_ofNat_Int, hsz, hck, Tryz.underlying9]; try simp) ⟨[], by rw [e1]; rfl⟩ ⟨_, rfl⟩⟩
  | 5, _ =>
    have e : xsK r 5 = [i64 r.day, i64 r.min, i64 0, i64 r.mer, i64 r.al, i64 0, i64 0, i64 0, i64 0, i64 0] := rfl
    have e1 : xsK r 6 = [i64 r.day, i64 r.min, i64 0, i64 r.mer, i64 r.al, i64 r.ah, i64 0, i64 0, i64 0, i64 0] := rfl
    rw [e]
    simp -implicitDefEqProofs only [go_sem, bas, basL, Nat.reduceAdd, Nat.reduceSub, Nat.reduceMul, Nat.reduceLT, Nat.reduceLeDiff, Nat.reduceEqDiff, Nat.reduceBEq, Int.reduceLT, Int.reduceLE, Int.reduceToNat, Int.reduceAdd, Int.reduceSub, Int.reduceMul, Int.reduceNeg, Int.reduceEq, reduceCtorEq, eq_self, ne_eq, not_false_eq_true, if_true, reduceIte, ↓wq0, ↓wq1, ↓wq2, ↓wq3, ↓wq4, ↓wq5, ↓wq6, ↓wq7, ↓wq8, ↓wq9, Int.natCast_zero, Int.natCast_one, Int.cast_ofNat_Int, hsz, hck, Tryz.underlying9]
    repeat' (first | refine st1 ?_ | ((first | refine abs_region fun K hK => ?_ | refine abs_draw Tryz.ty.mixed (by kernel_rfl) fun K hK => ?_ | refine abs_if ?_ | show retQ _ _ _ _ _ | refine callK (n0) ?_ | refine callK (n1) ?_ | refine callK (n3) ?_ | refine callK (n4) ?_ | refine callK (n5) ?_ | refine callK (n6) ?_ | refine callK (n7) ?_ | refine callK (n8) ?_ | refine callK (n9) ?_); simp -implicitDefEqProofs only [go_sem, bas, basL, Nat.reduceAdd, Nat.reduceSub, Nat.reduceMul, Nat.reduceLT, Nat.reduceLeDiff, Nat.reduceEqDiff, Nat.reduceBEq, Int.reduceLT, Int.reduceLE, Int.reduceToNat, Int.reduceAdd, Int.reduceSub, Int.reduceMul, Int.reduceNeg, Int.reduceEq, reduceCtorEq, eq_self, ne_eq, not_false_eq_true, if_true, reduceIte, ↓wq0, ↓wq1, ↓wq2, ↓wq3, ↓wq4, ↓wq5, ↓wq6, ↓wq7, ↓wq8, ↓wq9, Int.natCast_zero, Int.natCast_one, Int.cast_ofNat_Int, hsz, hck, Tryz.underlying9]) | ((first | (refine hK _ ?_; clear hK K) | show thenQ _ _ _ _ | show blockQ _ _ _ _ | show noGoQ _ _ _); refine qst ?_) | (intro hg; try exact fin2) | apply And.intro | exact fin | fail)
    exact ⟨6, by omega, by omega, le_of rfl (by try simp -implicitDefEqProofs only [go_sem, bas, basL, Nat.reduceAdd, Nat.reduceSub, Nat.reduceMul, Nat.reduceLT, Nat.reduceLeDiff, Nat.reduceEqDiff, Nat.reduceBEq, Int.reduceLT, Int.reduceLE, Int.reduceToNat, Int.reduceAdd, Int.reduceSub, Int.reduceMul, Int.reduceNeg, Int.reduceEq, reduceCtorEq, eq_self, ne_eq, not_false_eq_true, if_true, reduceIte, ↓wq0, ↓wq1, ↓wq2, ↓wq3, ↓wq4, ↓wq5, ↓wq6, ↓wq7, ↓wq8, ↓wq9, Int.natCast_zero, Int.natCast_one, Int.cast_ofNat_Int, hsz, hck, Tryz.underlying9]; try simp) ⟨[], by rw [e1]; rfl⟩ ⟨_, rfl⟩⟩
  | 6, _ =>
    have e : xsK r 6 = [i64 r.day, i64 r.min, i64 0, i64 r.mer, i64 r.al, i64 r.ah, i64 0, i64 0, i64 0, i64 0] := rfl
    have e1 : xsK r 7 = [i64 r.day, i64 r.min, i64 0, i64 r.mer, i64 r.al, i64 r.ah, i64 r.dl, i64 0, i64 0, i64 0] := rfl
    rw [e]
    simp -implicitDefEqProofs only [go_sem, bas, basL, Nat.reduceAdd, Nat.reduceSub, Nat.reduceMul, Nat.reduceLT, Nat.reduceLeDiff, Nat.reduceEqDiff, Nat.reduceBEq, Int.reduceLT, Int.reduceLE, Int.reduceToNat, Int.reduceAdd, Int.reduceSub, Int.reduceMul, Int.reduceNeg, Int.reduceEq, reduceCtorEq, eq_self, ne_eq, not_false_eq_true, if_true, reduceIte, ↓wq0, ↓wq1, ↓wq2, ↓wq3, ↓wq4, ↓wq5, ↓wq6, ↓wq7, ↓wq8, ↓wq9, Int.natCast_zero, Int.natCast_one, Int.cast_ofNat_Int, hsz, hck, Tryz.underlying9]
    repeat' (first | refine st1 ?_ | ((first | refine abs_region fun K hK => ?_ | refine abs_draw Tryz.ty.mixed (by kernel_rfl) fun K hK => ?_ | refine abs_if ?_ | show retQ _ _ _ _ _ | refine callK (n0) ?_ | refine callK (n1) ?_ | refine callK (n3) ?_ | refine callK (n4) ?_ | refine callK (n5) ?_ | refine callK (n6) ?_ | refine callK (n7) ?_ | refine callK (n8) ?_ | refine callK (n9) ?_); simp -implicitDefEqProofs only [go_sem, bas, basL, Nat.reduceAdd, Nat.reduceSub, Nat.reduceMul, Nat.reduceLT, Nat.reduceLeDiff, Nat.reduceEqDiff, Nat.reduceBEq, Int.reduceLT, Int.reduceLE, Int.reduceToNat, Int.reduceAdd, Int.reduceSub, Int.reduceMul, Int.reduceNeg, Int.reduceEq, reduceCtorEq, eq_self, ne_eq, not_false_eq_true, if_true, reduceIte, ↓wq0, ↓wq1, ↓wq2, ↓wq3, ↓wq4, ↓wq5, ↓wq6, ↓wq7, ↓wq8, ↓wq9, Int.natCast_zero, Int.natCast_one, Int.cast_ofNat_Int, hsz, hck, Tryz.underlying9]) | ((first | (refine hK _ ?_; clear hK K) | show thenQ _ _ _ _ | show blockQ _ _ _ _ | show noGoQ _ _ _); refine qst ?_) | (intro hg; try exact fin2) | apply And.intro | exact fin | fail)
    exact ⟨7, by omega, by omega, le_of rfl (by try simp -implicitDefEqProofs only [go_sem, bas, basL, Nat.reduceAdd, Nat.reduceSub, Nat.reduceMul, Nat.reduceLT, Nat.reduceLeDiff, Nat.reduceEqDiff, Nat.reduceBEq, Int.reduceLT, Int.reduceLE, Int.reduceToNat, Int.reduceAdd, Int.reduceSub, Int.reduceMul, Int.reduceNeg, Int.reduceEq, reduceCtorEq, eq_self, ne_eq, not_false_eq_true, if_true, reduceIte, ↓wq0, ↓wq1, ↓wq2, ↓wq3, ↓wq4, ↓wq5, ↓wq6, ↓wq7, ↓wq8, ↓wq9, Int.natCast_zero, Int.natCast_one, Int.cast_ofNat_Int, hsz, hck, Tryz.underlying9]; try simp) ⟨[], by rw [e1]; rfl⟩ ⟨_, rfl⟩⟩
  | 7, _ =>
    have e : xsK r 7 = [i64 r.day, i64 r.min, i64 0, i64 r.mer, i64 r.al, i64 r.ah, i64 r.dl, i64 0, i64 0, i64 0] := rfl
    have e1 : xsK r 8 = [i64 r.day, i64 r.min, i64 0, i64 r.mer, i64 r.al, i64 r.ah, i64 r.dl, i64 r.dh, i64 0, i64 0] := rfl
    rw [e]
    simp -implicitDefEqProofs only [go_sem, bas, basL, Nat.reduceAdd, Nat.reduceSub, Nat.reduceMul, Nat.reduceLT, Nat.reduceLeDiff, Nat.reduceEqDiff, Nat.reduceBEq, Int.reduceLT, Int.reduceLE, Int.reduceToNat, Int.reduceAdd, Int.reduceSub, Int.reduceMul, Int.reduceNeg, Int.reduceEq, reduceCtorEq, eq_self, ne_eq, not_false_eq_true, if_true, reduceIte, ↓wq0, ↓wq1, ↓wq2, ↓wq3, ↓wq4, ↓wq5, ↓wq6, ↓wq7, ↓wq8, ↓wq9, Int.natCast_zero, Int.natCast_one, Int.cast_ofNat_Int, hsz, hck, Tryz.underlying9]
    repeat' (first | refine st1 ?_ | ((first | refine abs_region fun K hK => ?_ | refine abs_draw Tryz.ty.mixed (by kernel_rfl) fun K hK => ?_ | refine abs_if ?_ | show retQ _ _ _ _ _ | refine callK (n0) ?_ | refine callK (n1) ?_ | refine callK (n3) ?_ | refine callK (n4) ?_ | refine callK (n5) ?_ | refine callK (n6) ?_ | refine callK (n7) ?_ | refine callK (n8) ?_ | refine callK (n9) ?_); simp -implicitDefEqProofs only [go_sem, bas, basL, Nat.reduceAdd, Nat.reduceSub, Nat.reduceMul, Nat.reduceLT, Nat.reduceLeDiff, Nat.reduceEqDiff, Nat.reduceBEq, Int.reduceLT, Int.reduceLE, Int.reduceToNat, Int.reduceAdd, Int.reduceSub, Int.reduceMul, Int.reduceNeg, Int.reduceEq, reduceCtorEq, eq_self, ne_eq, not_false_eq_true, if_true, reduceIte, ↓wq0, ↓wq1, ↓wq2, ↓wq3, ↓wq4, ↓wq5, ↓wq6, ↓wq7, ↓wq8, ↓wq9, Int.natCast_zero, Int.natCast_one, Int.cast_ofNat_Int, hsz, hck, Tryz.underlying9]) | ((first | (refine hK _ ?_; clear hK K) | show thenQ _ _ _ _ | show blockQ _ _ _ _ | show noGoQ _ _ _); refine qst ?_) | (intro hg; try exact fin2) | apply And.intro | exact fin | fail)
    exact ⟨8, by omega, by omega, le_of rfl (by try simp -implicitDefEqProofs only [go_sem, bas, basL, Nat.reduceAdd, Nat.reduceSub, Nat.reduceMul, Nat.reduceLT, Nat.reduceLeDiff, Nat.reduceEqDiff, Nat.reduceBEq, Int.reduceLT, Int.reduceLE, Int.reduceToNat, Int.reduceAdd, Int.reduceSub, Int.reduceMul, Int.reduceNeg, Int.reduceEq, reduceCtorEq, eq_self, ne_eq, not_false_eq_true, if_true, reduceIte, ↓wq0, ↓wq1, ↓wq2, ↓wq3, ↓wq4, ↓wq5, ↓wq6, ↓wq7, ↓wq8, ↓wq9, Int.natCast_zero, Int.natCast_one, Int.cast_ofNat_Int, hsz, hck, Tryz.underlying9]; try simp) ⟨[], by rw [e1]; rfl⟩ ⟨_, rfl⟩⟩
  | 8, _ =>
    have e : xsK r 8 = [i64 r.day, i64 r.min, i64 0, i64 r.mer, i64 r.al, i64 r.ah, i64 r.dl, i64 r.dh, i64 0, i64 0] := rfl
    have e1 : xsK r 9 = [i64 r.day, i64 r.min, i64 0, i64 r.mer, i64 r.al, i64 r.ah, i64 r.dl, i64 r.dh, i64 r.wl, i64 0] := rfl
    rw [e]
    simp -implicitDefEqProofs only [go_sem, bas, basL, Nat.reduceAdd, Nat.reduceSub, Nat.reduceMul, Nat.reduceLT, Nat.reduceLeDiff, Nat.reduceEqDiff, Nat.reduceBEq, Int.reduceLT, Int.reduceLE, Int.reduceToNat, Int.reduceAdd, Int.reduceSub, Int.reduceMul, Int.reduceNeg, Int.reduceEq, reduceCtorEq, eq_self, ne_eq, not_false_eq_true, if_true, reduceIte, ↓wq0, ↓wq1, ↓wq2, ↓wq3, ↓wq4, ↓wq5, ↓wq6, ↓wq7, ↓wq8, ↓wq9, Int.natCast_zero, Int.natCast_one, Int.cast_ofNat_Int, hsz, hck, Tryz.underlying9]
    repeat' (first | refine st1 ?_ | ((first | refine abs_region fun K hK => ?_ | refine abs_draw Tryz.ty.mixed (by kernel_rfl) fun K hK => ?_ | refine abs_if ?_ | show retQ _ _ _ _ _ | refine callK (n0) ?_ | refine callK (n1) ?_ | refine callK (n3) ?_ | refine callK (n4) ?_ | refine callK (n5) ?_ | refine callK (n6) ?_ | refine callK (n7) ?_ | refine callK (n8) ?_ | refine callK (n9) ?_); simp -implicitDefEqProofs only [go_sem, bas, basL, Nat.reduceAdd, Nat.reduceSub, Nat.reduceMul, Nat.reduceLT, Nat.reduceLeDiff, Nat.reduceEqDiff, Nat.reduceBEq, Int.reduceLT, Int.reduceLE, Int.reduceToNat, Int.reduceAdd, Int.reduceSub, Int.reduceMul, Int.reduceNeg, Int.reduceEq, reduceCtorEq, eq_self, ne_eq, not_false_eq_true, if_true, reduceIte, ↓wq0, ↓wq1, ↓wq2, ↓wq3, ↓wq4, ↓wq5, ↓wq6, ↓wq7, ↓wq8, ↓wq9, Int.natCast_zero, Int.natCast_one, Int.cast_ofNat_Int, hsz, hck, Tryz.underlying9]) | ((first | (refine hK _ ?_; clear hK K) | show thenQ _ _ _ _ | show blockQ _ _ _ _ | show noGoQ _ _ _); refine qst ?_) | (intro hg; try exact fin2) | apply And.intro | exact fin | fail)
    exact ⟨9, by omega, by omega, le_of rfl (by try simp -implicitDefEqProofs only [go_sem, bas, basL, Nat.reduceAdd, Nat.reduceSub, Nat.reduceMul, Nat.reduceLT, Nat.reduceLeDiff, Nat.reduceEqDiff, Nat.reduceBEq, Int.reduceLT, Int.reduceLE, Int.reduceToNat, Int.reduceAdd, Int.reduceSub, Int.reduceMul, Int.reduceNeg, Int.reduceEq, reduceCtorEq, eq_self, ne_eq, not_false_eq_true, if_true, reduceIte, ↓wq0, ↓wq1, ↓wq2, ↓wq3, ↓wq4, ↓wq5, ↓wq6, ↓wq7, ↓wq8, ↓wq9, Int.natCast_zero, Int.natCast_one, Int.cast_ofNat_Int, hsz, hck, Tryz.underlying9]; try simp) ⟨[], by rw [e1]; rfl⟩ ⟨_, rfl⟩⟩
  | 9, _ =>
    have e : xsK r 9 = [i64 r.day, i64 r.min, i64 0, i64 r.mer, i64 r.al, i64 r.ah, i64 r.dl, i64 r.dh, i64 r.wl, i64 0] := rfl
    have e1 : xsK r 10 = [i64 r.day, i64 r.min, i64 0, i64 r.mer, i64 r.al, i64 r.ah, i64 r.dl, i64 r.dh, i64 r.wl, i64 r.wh] := rfl
    rw [e]
    simp -implicitDefEqProofs only [go_sem, bas, basL, Nat.reduceAdd, Nat.reduceSub, Nat.reduceMul, Nat.reduceLT, Nat.reduceLeDiff, Nat.reduceEqDiff, Nat.reduceBEq, Int.reduceLT, Int.reduceLE, Int.reduceToNat, Int.reduceAdd, Int.reduceSub, Int.reduceMul, Int.reduceNeg, Int.reduceEq, reduceCtorEq, eq_self, ne_eq, not_false_eq_true, if_true, reduceIte, ↓wq0, ↓wq1, ↓wq2, ↓wq3, ↓wq4, ↓wq5, ↓wq6, ↓wq7, ↓wq8, ↓wq9, Int.natCast_zero, Int.natCast_one, Int.cast_ofNat_Int, hsz, hck, Tryz.underlying9]
    repeat' (first | refine st1 ?_ | ((first | refine abs_region fun K hK => ?_ | refine abs_draw Tryz.ty.mixed (by kernel_rfl) fun K hK => ?_ | refine abs_if ?_ | show retQ _ _ _ _ _ | refine callK (n0) ?_ | refine callK (n1) ?_ | refine callK (n3) ?_ | refine callK (n4) ?_ | refine callK (n5) ?_ | refine callK (n6) ?_ | refine callK (n7) ?_ | refine callK (n8) ?_ | refine callK (n9) ?_); simp -implicitDefEqProofs only [go_sem, bas, basL, Nat.reduceAdd, Nat.reduceSub, Nat.reduceMul, Nat.reduceLT, Nat.reduceLeDiff, Nat.reduceEqDiff, Nat.reduceBEq, Int.reduceLT, Int.reduceLE, Int.reduceToNat, Int.reduceAdd, Int.reduceSub, Int.reduceMul, Int.reduceNeg, Int.reduceEq, reduceCtorEq, eq_self, ne_eq, not_false_eq_true, if_true, reduceIte, ↓wq0, ↓wq1, ↓wq2, ↓wq3, ↓wq4, ↓wq5, ↓wq6, ↓wq7, ↓wq8, ↓wq9, Int.natCast_zero, Int.natCast_one, Int.cast_ofNat_Int, hsz, hck, Tryz.underlying9]) | ((first | (refine hK _ ?_; clear hK K) | show thenQ _ _ _ _ | show blockQ _ _ _ _ | show noGoQ _ _ _); refine qst ?_) | (intro hg; try exact fin2) | apply And.intro | exact fin | fail)
    exact ⟨10, by omega, by omega, le_of rfl (by try simp -implicitDefEqProofs only [go_sem, bas, basL, Nat.reduceAdd, Nat.reduceSub, Nat.reduceMul, Nat.reduceLT, Nat.reduceLeDiff, Nat.reduceEqDiff, Nat.reduceBEq, Int.reduceLT, Int.reduceLE, Int.reduceToNat, Int.reduceAdd, Int.reduceSub, Int.reduceMul, Int.reduceNeg, Int.reduceEq, reduceCtorEq, eq_self, ne_eq, not_false_eq_true, if_true, reduceIte, ↓wq0, ↓wq1, ↓wq2, ↓wq3, ↓wq4, ↓wq5, ↓wq6, ↓wq7, ↓wq8, ↓wq9, Int.natCast_zero, Int.natCast_one, Int.cast_ofNat_Int, hsz, hck, Tryz.underlying9]; try simp) ⟨[], by rw [e1]; rfl⟩ ⟨_, rfl⟩⟩
  | 10, _ =>
    have e : xsK r 10 = [i64 r.day, i64 r.min, i64 0, i64 r.mer, i64 r.al, i64 r.ah, i64 r.dl, i64 r.dh, i64 r.wl, i64 r.wh] := rfl
    rw [e]
    simp -implicitDefEqProofs only [go_sem, bas, basL, Nat.reduceAdd, Nat.reduceSub, Nat.reduceMul, Nat.reduceLT, Nat.reduceLeDiff, Nat.reduceEqDiff, Nat.reduceBEq, Int.reduceLT, Int.reduceLE, Int.reduceToNat, Int.reduceAdd, Int.reduceSub, Int.reduceMul, Int.reduceNeg, Int.reduceEq, reduceCtorEq, eq_self, ne_eq, not_false_eq_true, if_true, reduceIte, ↓wq0, ↓wq1, ↓wq2, ↓wq3, ↓wq4, ↓wq5, ↓wq6, ↓wq7, ↓wq8, ↓wq9, Int.natCast_zero, Int.natCast_one, Int.cast_ofNat_Int, hsz, hck, Tryz.underlying9]
    repeat' (first | refine st1 ?_ | ((first | refine abs_region fun K hK => ?_ | refine abs_draw Tryz.ty.mixed (by kernel_rfl) fun K hK => ?_ | refine abs_if ?_ | show retQ _ _ _ _ _ | refine callK (hidx) ?_); simp -implicitDefEqProofs only [go_sem, bas, basL, Nat.reduceAdd, Nat.reduceSub, Nat.reduceMul, Nat.reduceLT, Nat.reduceLeDiff, Nat.reduceEqDiff, Nat.reduceBEq, Int.reduceLT, Int.reduceLE, Int.reduceToNat, Int.reduceAdd, Int.reduceSub, Int.reduceMul, Int.reduceNeg, Int.reduceEq, reduceCtorEq, eq_self, ne_eq, not_false_eq_true, if_true, reduceIte, ↓wq0, ↓wq1, ↓wq2, ↓wq3, ↓wq4, ↓wq5, ↓wq6, ↓wq7, ↓wq8, ↓wq9, Int.natCast_zero, Int.natCast_one, Int.cast_ofNat_Int, hsz, hck, Tryz.underlying9]) | ((first | (refine hK _ ?_; clear hK K) | show thenQ _ _ _ _ | show blockQ _ _ _ _ | show noGoQ _ _ _); refine qst ?_) | (intro hg; try exact fin2) | apply And.intro | exact fin | fail)
    all_goals skip
end Go.Proofs.YtmnepfejoneghaaGreatDoor
