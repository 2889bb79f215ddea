import Derived.Test.YtdbiiegohemahaaGreatDoorT3
set_option linter.unusedVariables false
set_option linter.unusedSimpArgs false
namespace Go.Proofs.YtdbiiegohemahaaGreatDoor
open Go.Ab Go.Sheet
attribute [local irreducible] Abs CallK CallR CallsTo IA
theorem d_app (a b : ByteArray) : (a ++ b).data.toList = a.data.toList ++ b.data.toList := by rw [ByteArray.data_append]; simp
theorem d_ext {a b : ByteArray} (h : a.data.toList = b.data.toList) : a = b := by apply ByteArray.ext; exact Array.toList_inj.1 h
theorem d_join (xs : List ByteArray) (s : ByteArray) : (joinB xs s).data.toList = Go.Lib.join (xs.map (·.data.toList)) s.data.toList := mk_list _
theorem d_itoa (n : Int) : (itoa n).data.toList = Go.Lib.itoa n := mk_list _
theorem d_size (a : ByteArray) : a.size = a.data.toList.length := Go.Lib.size_eq a
/-- A reading's line, without its end. -/
def lineW (r : Rdg) : ByteArray := joinB (wordsK r 7) sp
theorem lineB_eq (r : Rdg) : lineB r = lineW r ++ nl := rfl
theorem join_snoc : ∀ (xs : List (List UInt8)) (y : List UInt8), (xs.map (· ++ [10])).flatten ++ y = Go.Lib.join (xs ++ [y]) [10]
  | [], y => by simp [Go.Lib.join_one]
  | [x], y => by
    rw [show ([x] ++ [y] : List (List UInt8)) = [x, y] from rfl, join_two, Go.Lib.join_one]; simp
  | x :: z :: zs, y => by
    have ih := join_snoc (z :: zs) y
    rw [show (x :: z :: zs) ++ [y] = x :: z :: (zs ++ [y]) from rfl, join_two, show z :: (zs ++ [y]) = (z :: zs) ++ [y] from rfl, ← ih]; simp
theorem outB_data (l : List Rdg) : ∀ j, j ≤ l.length → (outB l j).data.toList = ((l.take j).map fun r => (lineW r).data.toList ++ [10]).flatten
  | 0, _ => rfl
  | j + 1, h => by
    have hj : j < l.length := by omega
    have e : l.take (j + 1) = l.take j ++ [nth l j] := by rw [List.take_succ_eq_append_getElem hj, nth_eq l j hj]
    rw [outB, d_app, outB_data l j (by omega), lineB_eq, d_app, e]
    simp [show nl.data.toList = [10] from rfl]
/-- The last line, without its end. -/
def endL (s : ByteArray) : ByteArray := joinB [endW, itoa ((sealS s s.size).1 % 97 / 10) ++ itoa ((sealS s s.size).1 % 97 % 10)] sp
theorem lastB_eq (s : ByteArray) : lastB s = endL s ++ nl := rfl
/-- The text of a sheet. -/
def sheetB (l : List Rdg) : ByteArray := outB l l.length ++ lastB (outB l l.length)
/-- Its lines. -/
def linesB (l : List Rdg) : List ByteArray := l.map lineW ++ [endL (outB l l.length)]
theorem sheet_data (l : List Rdg) : (sheetB l).data.toList = Go.Lib.join ((linesB l).map (·.data.toList)) [10] ++ [10] := by
  unfold sheetB linesB
  rw [d_app, outB_data l _ (Nat.le_refl _), List.take_length, lastB_eq, d_app, List.map_append, List.map_map, List.map_cons, List.map_nil, ← join_snoc, List.map_map, ← List.append_assoc]
  rfl
theorem suffix_one (z : List UInt8) : Go.Lib.hasSuffix (z ++ [10]) [10] = true := List.isSuffixOf_iff_suffix.2 ⟨z, rfl⟩
theorem trim_one (z : List UInt8) : Go.Lib.trimSuffix (z ++ [10]) [10] = z := by
  unfold Go.Lib.trimSuffix
  rw [if_pos (suffix_one z)]; simp
theorem cut_sheet (l : List Rdg) (hs : (sheetB l).size ≤ 100000) : CallsTo Tryz.prog 57 [.str (sheetB l), .str ⟨#[10]⟩] (.tup [.str (joinB (linesB l) ⟨#[10]⟩), .bool true]) := by
  have h := cut_ok (sheetB l) ⟨#[10]⟩ (by omega)
  rw [sheet_data, show (ByteArray.mk #[10]).data.toList = [10] from rfl, suffix_one, trim_one] at h
  exact h
theorem free_join {c : UInt8} {s : List UInt8} (hs : c ∉ s) : ∀ ws : List (List UInt8), (∀ w ∈ ws, c ∉ w) → c ∉ Go.Lib.join ws s
  | [], _ => by simp [Go.Lib.join_nil]
  | [w], h => by rw [Go.Lib.join_one]; exact h w (List.mem_cons_self ..)
  | w :: x :: ws, h => by
    rw [join_two, List.mem_append, List.mem_append]
    rintro ((h1 | h1) | h1)
    · exact h w (List.mem_cons_self ..) h1
    · exact hs h1
    · exact free_join hs (x :: ws) (fun y hy => h y (List.mem_cons_of_mem _ hy)) h1
theorem lineW_free {r : Rdg} (h : Fit r) : (10 : UInt8) ∉ (lineW r).data.toList := by
  unfold lineW
  rw [d_join]
  refine free_join (by decide) _ fun w hw => ?_
  obtain ⟨y, hy, rfl⟩ := List.mem_map.1 hw
  exact words_free h 10 (.inr rfl) y hy
theorem endL_free (s : ByteArray) : (10 : UInt8) ∉ (endL s).data.toList := by
  unfold endL
  rw [d_join]
  refine free_join (by decide) _ fun w hw => ?_
  simp only [List.map_cons, List.map_nil, List.mem_cons, List.not_mem_nil, or_false] at hw
  rcases hw with rfl | rfl
  · decide
  · rw [d_app, List.mem_append]
    rintro (h1 | h1)
    · exact itoa_free _ 10 (by decide) (by decide) h1
    · exact itoa_free _ 10 (by decide) (by decide) h1
theorem split_sheet (l : List Rdg) (hf : ∀ i, i < l.length → Fit (nth l i)) (hs : (sheetB l).size ≤ 100000) : CallsTo Tryz.prog 59 [.str (joinB (linesB l) ⟨#[10]⟩), .str ⟨#[10]⟩] (.list ((linesB l).map D.str)) := by
  have hsz : (joinB (linesB l) ⟨#[10]⟩).size ≤ 100000 := by
    rw [d_size, d_join]
    rw [d_size, sheet_data] at hs
    simp only [List.length_append, List.length_singleton] at hs
    show (Go.Lib.join _ [10]).length ≤ _
    omega
  have h := split_ok (joinB (linesB l) ⟨#[10]⟩) 10 (by omega)
  rw [partsB_join 10 (linesB l) (by simp [linesB]) (fun w hw => ?_)] at h
  · exact h
  · unfold linesB at hw
    rcases List.mem_append.1 hw with hw | hw
    · obtain ⟨r, hr, rfl⟩ := List.mem_map.1 hw
      obtain ⟨i, hi, rfl⟩ := List.getElem_of_mem hr
      rw [← nth_eq l i hi]; exact lineW_free (hf i hi)
    · simp only [List.mem_singleton] at hw
      subst hw; exact endL_free _
/-! ## How long -/
theorem lineW_size {r : Rdg} (h : Fit r) : (lineW r).size ≤ 64 := by unfold lineW; rw [d_size, d_join]; exact line_len h
theorem lineB_size {r : Rdg} (h : Fit r) : (lineB r).size ≤ 65 := by
  rw [lineB_eq, d_size, d_app, List.length_append, ← d_size, ← d_size]
  have := lineW_size h
  have e : nl.size = 1 := rfl
  omega
theorem outB_size (l : List Rdg) (hf : ∀ i, i < l.length → Fit (nth l i)) : ∀ j, j ≤ l.length → (outB l j).size ≤ 65 * j
  | 0, _ => Nat.le_refl _
  | j + 1, h => by
    have ih := outB_size l hf j (by omega)
    have h2 := lineB_size (hf j (by omega))
    rw [outB, d_size, d_app, List.length_append, ← d_size, ← d_size]; omega
theorem seal_bd (s : ByteArray) : (0 ≤ (sealS s s.size).1 % 97 / 10 ∧ (sealS s s.size).1 % 97 / 10 ≤ 9) ∧ 0 ≤ (sealS s s.size).1 % 97 % 10 ∧ (sealS s s.size).1 % 97 % 10 ≤ 9 := by omega
theorem itoa_one {n : Int} (h : 0 ≤ n ∧ n ≤ 9) : (itoa n).size = 1 := by
  rw [d_size, d_itoa, itoa_head n h.1, dec_small (by omega)]; rfl
theorem endL_size (s : ByteArray) : (endL s).size = 6 := by
  have h := seal_bd s
  have h1 := itoa_one h.1; have h2 := itoa_one h.2
  unfold endL
  rw [d_size, d_join, List.map_cons, Go.Lib.join_length]
  rw [d_size] at h1 h2
  simp only [List.map_cons, List.map_nil, Go.Lib.lens, List.length_cons, List.length_nil, List.sum_cons, List.sum_nil, d_app, List.length_append, h1, h2]
  rfl
theorem lastB_size (s : ByteArray) : (lastB s).size = 7 := by
  rw [lastB_eq, d_size, d_app, List.length_append, ← d_size, ← d_size, endL_size]; rfl
theorem sheet_size {l : List Rdg} (hf : ∀ i, i < l.length → Fit (nth l i)) : (sheetB l).size ≤ 65 * l.length + 7 := by
  unfold sheetB
  have h1 := outB_size l hf l.length (Nat.le_refl _)
  rw [d_size, d_app, List.length_append, ← d_size, ← d_size, lastB_size]; omega
def AsciiL (l : List UInt8) : Prop := ∀ b ∈ l, b.toNat < 128
theorem ascii_of {s : ByteArray} (h : AsciiL s.data.toList) : Ascii s := fun k hk => h _ (by
  show s.data[k]'_ ∈ s.data.toList
  simp)
theorem asciiL_app {a b : List UInt8} (h1 : AsciiL a) (h2 : AsciiL b) : AsciiL (a ++ b) := fun x hx => (List.mem_append.1 hx).elim (h1 x) (h2 x)
theorem asciiL_join {s : List UInt8} (hs : AsciiL s) : ∀ ws : List (List UInt8), (∀ w ∈ ws, AsciiL w) → AsciiL (Go.Lib.join ws s)
  | [], _ => fun b hb => by simp [Go.Lib.join_nil] at hb
  | [w], h => by rw [Go.Lib.join_one]; exact h w (List.mem_cons_self ..)
  | w :: x :: ws, h => by
    rw [join_two]
    exact asciiL_app (asciiL_app (h w (List.mem_cons_self ..)) hs) (asciiL_join hs (x :: ws) (fun y hy => h y (List.mem_cons_of_mem _ hy)))
theorem asciiL_itoa (n : Int) : AsciiL (itoa n).data.toList := fun b hb => by
  rw [d_itoa] at hb
  rcases itoa_bytes n b hb with rfl | h
  · decide
  · unfold isDig at h; omega
theorem asciiL_line {r : Rdg} (h : Fit r) : AsciiL (lineW r).data.toList := by
  unfold lineW
  rw [d_join]
  refine asciiL_join (fun b hb => by simp [sp] at hb; subst hb; decide) _ fun w hw => ?_
  obtain ⟨y, hy, rfl⟩ := List.mem_map.1 hw
  rw [words_eq h] at hy
  have k3 : AsciiL (ByteArray.mk #[letterC r.clk]).data.toList := by
    have hk := h.c
    have : r.clk = 1 ∨ r.clk = 2 ∨ r.clk = 3 := by omega
    intro b hb
    simp only [List.mem_singleton] at hb
    subst hb
    rcases this with e | e | e <;> rw [e] <;> decide
  simp only [List.mem_cons, List.not_mem_nil, or_false] at hy
  rcases hy with rfl | rfl | rfl | rfl | rfl | rfl | rfl | rfl | rfl | rfl
  all_goals first | exact k3 | exact asciiL_itoa _
theorem outB_ascii (l : List Rdg) (hf : ∀ i, i < l.length → Fit (nth l i)) : ∀ j, j ≤ l.length → AsciiL (outB l j).data.toList
  | 0, _ => fun b hb => by cases hb
  | j + 1, h => by
    rw [outB, d_app, lineB_eq, d_app]
    exact asciiL_app (outB_ascii l hf j (by omega)) (asciiL_app (asciiL_line (hf j (by omega))) (fun b hb => by simp [nl] at hb; subst hb; decide))
theorem last_out (l : List Rdg) (hf : ∀ i, i < l.length → Fit (nth l i)) (hl : l.length ≤ 30) : CallsTo Tryz.prog 26 [.str (outB l l.length)] (.str (lastB (outB l l.length))) := by
  have h1 := outB_size l hf l.length (Nat.le_refl _)
  have h2 := seal_bd (outB l l.length)
  have h3 := endL_size (outB l l.length)
  unfold endL at h3
  rw [d_size, d_join] at h3
  exact last_ok _ (by omega) (ascii_of (outB_ascii l hf _ (Nat.le_refl _))) (by omega) (by rw [itoa_one h2.1, itoa_one h2.2]; decide)
theorem join_self (s : ByteArray) : joinB [s] sp = s := d_ext (by rw [d_join]; exact Go.Lib.join_one _ _)
theorem line_one (s : ByteArray) (hs : s.size ≤ 1000) : CallsTo Tryz.prog 53 [.list [.str s]] (.str (s ++ nl)) := by
  have h := line_ok [s] (by simp) (by simp) (by rw [List.map_cons, List.map_nil, Go.Lib.join_one, ← d_size]; omega)
  rw [join_self] at h
  exact h
end Go.Proofs.YtdbiiegohemahaaGreatDoor
set_option linter.unusedVariables false
set_option linter.unusedSimpArgs false
namespace Go.Proofs.YtdbiiegohemahaaGreatDoor
open Go.Ab Go.Sheet
attribute [local irreducible] Abs CallK CallR CallsTo IA
theorem nth_lines {l : List Rdg} {j : Nat} (h : j < l.length) : nth (linesB l) j = lineW (nth l j) := by
  unfold linesB nth
  rw [List.getD_eq_getElem?_getD, List.getElem?_append_left (by simpa using h), List.getElem?_map, List.getElem?_eq_getElem h, List.getD_eq_getElem?_getD, List.getElem?_eq_getElem h]; rfl
theorem nth_end (l : List Rdg) : nth (linesB l) l.length = endL (outB l l.length) := by
  unfold linesB nth
  rw [List.getD_eq_getElem?_getD, List.getElem?_append_right (by simp)]; simp
theorem lines_len (l : List Rdg) : (linesB l).length = l.length + 1 := by simp [linesB]
set_option maxRecDepth 100000 in
set_option maxHeartbeats 4000000 in
theorem readS_ok (l : List Rdg) (hf : ∀ i, i < l.length → Fit (nth l i)) (hl : l.length ≤ 24) : CallsTo Tryz.prog 29 [.str (sheetB l)] (.list (l.map rdD)) := by
  have hsz := sheet_size hf
  have hcut := cut_sheet l (by omega)
  have hsp := split_sheet l hf (by omega)
  have hlast := last_out l hf (by omega)
  have hrl := fun j (h : j < l.length) => readLine_ok (nth l j) (hf j h)
  have hne : ((endL (outB l l.length) ++ nl).toList == (lastB (outB l l.length)).toList) = true := by rw [lastB_eq, beq_self_eq_true]
  have hln := lines_len l
  have hE := nth_end l
  have hW := fun j (h : j < l.length) => nth_lines (l := l) h
  have hEs := endL_size (outB l l.length)
  have hline := line_one (endL (outB l l.length)) (by omega)
  have hWs := fun j (h : j < l.length) => lineW_size (hf j h)
  have hl1 := fun j (h : j < l.length) => line_one (lineW (nth l j)) (by have := hWs j h; omega)
  have hob := outB_size l hf
  have hls := lastB_size (outB l l.length)
  have hrl : ∀ j, j < l.length → CallsTo Tryz.prog 60 [.str (lineW (nth l j))] (rdD (nth l j)) := hrl
  have hos : ∀ j, outB l (j + 1) = outB l j ++ (lineW (nth l j) ++ nl) := fun j => rfl
  generalize joinB (linesB l) ⟨#[10]⟩ = body at *
  generalize sheetB l = txt at *
  have h10 : (#[10] : Array UInt8).size = 1 := rfl
  have hnn : ((l.length : Int) + 1 - 1) = l.length := by omega
  have hT : List.take l.length (List.map D.str (linesB l)) = l.map fun r => D.str (lineW r) := by unfold linesB; simp [List.map_append, List.take_left']
  refine calls_abs Tryz.func29 Tryz.ntmps29 Tryz.results29 Tryz.call29 rfl (by simp) fun w0 S0 M0 => ?_
  repeat' (first | refine abs_seq ?_ | refine abs_block ?_ | refine abs_skip ?_ | refine abs_scope ?_ | refine abs_label ?_ | refine abs_exit ?_ | refine abs_ret ?_ | ((first | refine abs_region fun K hK => ?_ | refine abs_draw Tryz.ty.mixed (by kernel_rfl) fun K hK => ?_ | refine abs_if ?_ | show retQ _ _ _ _ _ | refine callK (hcut) ?_ | refine callK (hsp) ?_ | refine callK (sure_ok _ (by simp <;> omega) _) ?_); simp -implicitDefEqProofs only [go_sem, bas, basL, Nat.reduceAdd, Nat.reduceSub, Nat.reduceMul, Nat.reduceLT, Nat.reduceLeDiff, Nat.reduceEqDiff, Nat.reduceBEq, Int.reduceLT, Int.reduceLE, Int.reduceToNat, Int.reduceAdd, Int.reduceSub, Int.reduceMul, Int.reduceNeg, Int.reduceEq, reduceCtorEq, eq_self, ne_eq, not_false_eq_true, if_true, reduceIte, h10, hnn, hne, hE, hln, hT, Int.toNat_natCast, Nat.sub_zero, List.drop_zero, Int.natCast_add, Int.natCast_one]) | ((first | (refine hK _ ?_; clear hK K) | show thenQ _ _ _ _ | show blockQ _ _ _ _ | show noGoQ _ _ _); simp only [noGoQ, thenQ, blockQ, if_true, Nat.reduceEqDiff, reduceIte]) | ((intro y hy; obtain ⟨c, _, rfl⟩ := List.mem_map.1 hy; rfl)) | (intro hg; first | (exfalso; omega) | (exfalso; contradiction) | skip) | apply And.intro | (with_reducible rfl) | (clear hK; omega) | omega)
  refine abs_adopt 8 53 10 rfl ?_
  refine abs_loopN (ι := Nat) (fun j => [(5, .list ((linesB l).map D.str)), (6, i64 l.length), (7, .str (outB l j)), (8, .own 0), (26, .list (l.map fun r => D.str (lineW r))), (27, i64 l.length), (28, i64 j)]) (fun _ => []) (fun j => [⟨true, 53, 10, (l.take j).map rdD⟩])
    (fun j => j ≤ l.length) (fun j => l.length - j) (fun _ _ => ⟨rfl, rfl⟩) 0 (Nat.zero_le _) (le_of rfl (by try simp -implicitDefEqProofs only [go_sem, bas, basL, Nat.reduceAdd, Nat.reduceSub, Nat.reduceMul, Nat.reduceLT, Nat.reduceLeDiff, Nat.reduceEqDiff, Nat.reduceBEq, Int.reduceLT, Int.reduceLE, Int.reduceToNat, Int.reduceAdd, Int.reduceSub, Int.reduceMul, Int.reduceNeg, Int.reduceEq, reduceCtorEq, eq_self, ne_eq, not_false_eq_true, if_true, reduceIte, h10, hnn, hne, hE, hln, hT, Int.toNat_natCast, Nat.sub_zero, List.drop_zero, Int.natCast_add, Int.natCast_one]; try simp [outB]) ⟨_, rfl⟩ ⟨_, rfl⟩) (fun j hj => ?_)
  have htk : (l.take j).length = j := by simp; omega
  have hobj := hob j hj
  by_cases hlt : j < l.length
  · have k1 := hrl j hlt
    have k2 := hl1 j hlt
    have k3 := hWs j hlt
    have k4 : l.take (j + 1) = l.take j ++ [nth l j] := by rw [List.take_succ_eq_append_getElem hlt, nth_eq l j hlt]
    simp -implicitDefEqProofs only [go_sem, bas, basL, Nat.reduceAdd, Nat.reduceSub, Nat.reduceMul, Nat.reduceLT, Nat.reduceLeDiff, Nat.reduceEqDiff, Nat.reduceBEq, Int.reduceLT, Int.reduceLE, Int.reduceToNat, Int.reduceAdd, Int.reduceSub, Int.reduceMul, Int.reduceNeg, Int.reduceEq, reduceCtorEq, eq_self, ne_eq, not_false_eq_true, if_true, reduceIte, h10, hnn, hne, hE, hln, hT, Int.toNat_natCast, Nat.sub_zero, List.drop_zero, Int.natCast_add, Int.natCast_one]
    repeat' (first | refine abs_seq ?_ | refine abs_block ?_ | refine abs_skip ?_ | refine abs_scope ?_ | refine abs_label ?_ | refine abs_exit ?_ | refine abs_ret ?_ | ((first | refine abs_region fun K hK => ?_ | refine abs_draw Tryz.ty.mixed (by kernel_rfl) fun K hK => ?_ | refine abs_if ?_ | show retQ _ _ _ _ _ | refine callK (k1) ?_ | refine callK (k2) ?_); simp -implicitDefEqProofs only [go_sem, bas, basL, Nat.reduceAdd, Nat.reduceSub, Nat.reduceMul, Nat.reduceLT, Nat.reduceLeDiff, Nat.reduceEqDiff, Nat.reduceBEq, Int.reduceLT, Int.reduceLE, Int.reduceToNat, Int.reduceAdd, Int.reduceSub, Int.reduceMul, Int.reduceNeg, Int.reduceEq, reduceCtorEq, eq_self, ne_eq, not_false_eq_true, if_true, reduceIte, h10, hnn, hne, hE, hln, hT, Int.toNat_natCast, Nat.sub_zero, List.drop_zero, Int.natCast_add, Int.natCast_one]) | ((first | (refine hK _ ?_; clear hK K) | show thenQ _ _ _ _ | show blockQ _ _ _ _ | show noGoQ _ _ _); simp only [noGoQ, thenQ, blockQ, if_true, Nat.reduceEqDiff, reduceIte]) | ((intro y hy; obtain ⟨c, _, rfl⟩ := List.mem_map.1 hy; rfl)) | (intro hg; first | (exfalso; omega) | (exfalso; contradiction) | skip) | apply And.intro | (with_reducible rfl) | (clear hK; omega) | omega)
    exact ⟨j + 1, by omega, by omega, le_of rfl (by try simp -implicitDefEqProofs only [go_sem, bas, basL, Nat.reduceAdd, Nat.reduceSub, Nat.reduceMul, Nat.reduceLT, Nat.reduceLeDiff, Nat.reduceEqDiff, Nat.reduceBEq, Int.reduceLT, Int.reduceLE, Int.reduceToNat, Int.reduceAdd, Int.reduceSub, Int.reduceMul, Int.reduceNeg, Int.reduceEq, reduceCtorEq, eq_self, ne_eq, not_false_eq_true, if_true, reduceIte, h10, hnn, hne, hE, hln, hT, Int.toNat_natCast, Nat.sub_zero, List.drop_zero, Int.natCast_add, Int.natCast_one]; try simp [hos]) ⟨_, rfl⟩ ⟨[], by simp [k4]⟩⟩
  · obtain rfl : j = l.length := by omega
    have k5 : List.take l.length l = l := List.take_length
    simp -implicitDefEqProofs only [go_sem, bas, basL, Nat.reduceAdd, Nat.reduceSub, Nat.reduceMul, Nat.reduceLT, Nat.reduceLeDiff, Nat.reduceEqDiff, Nat.reduceBEq, Int.reduceLT, Int.reduceLE, Int.reduceToNat, Int.reduceAdd, Int.reduceSub, Int.reduceMul, Int.reduceNeg, Int.reduceEq, reduceCtorEq, eq_self, ne_eq, not_false_eq_true, if_true, reduceIte, h10, hnn, hne, hE, hln, hT, k5, Int.toNat_natCast, Nat.sub_zero, List.drop_zero, Int.natCast_add, Int.natCast_one]
    repeat' (first | refine abs_seq ?_ | refine abs_block ?_ | refine abs_skip ?_ | refine abs_scope ?_ | refine abs_label ?_ | refine abs_exit ?_ | refine abs_ret ?_ | ((first | refine abs_region fun K hK => ?_ | refine abs_draw Tryz.ty.mixed (by kernel_rfl) fun K hK => ?_ | refine abs_if ?_ | show retQ _ _ _ _ _ | refine callK (hline) ?_ | refine callK (hlast) ?_ | refine callK (sure_ok _ (by simp <;> omega) _) ?_); simp -implicitDefEqProofs only [go_sem, bas, basL, Nat.reduceAdd, Nat.reduceSub, Nat.reduceMul, Nat.reduceLT, Nat.reduceLeDiff, Nat.reduceEqDiff, Nat.reduceBEq, Int.reduceLT, Int.reduceLE, Int.reduceToNat, Int.reduceAdd, Int.reduceSub, Int.reduceMul, Int.reduceNeg, Int.reduceEq, reduceCtorEq, eq_self, ne_eq, not_false_eq_true, if_true, reduceIte, h10, hnn, hne, hE, hln, hT, k5, Int.toNat_natCast, Nat.sub_zero, List.drop_zero, Int.natCast_add, Int.natCast_one]) | ((first | (refine hK _ ?_; clear hK K) | show thenQ _ _ _ _ | show blockQ _ _ _ _ | show noGoQ _ _ _); simp only [noGoQ, thenQ, blockQ, if_true, Nat.reduceEqDiff, reduceIte]) | (intro hg; first | (exfalso; omega) | (exfalso; contradiction) | skip) | apply And.intro | (with_reducible rfl) | (clear hK; omega) | omega)
    all_goals skip
end Go.Proofs.YtdbiiegohemahaaGreatDoor
