import Derived.Test.YtmnepfejoneghaaGreatDoorK21
import Derived.Test.YtmnepfejoneghaaGreatDoorK11
set_option linter.unusedVariables false
set_option linter.unusedSimpArgs false
namespace Go.Proofs.YtmnepfejoneghaaGreatDoor
open Go.Ab Go.Sheet
attribute [local irreducible] Abs CallK CallR CallsTo IA
theorem d_app (a b : ByteArray) : (a ++ b).data.toList = a.data.toList ++ b.data.toList := by rw [ByteArray.data_append]; simp
theorem d_ext {a b : ByteArray} (h : a.data.toList = b.data.toList) : a = b := by apply ByteArray.ext; exact Array.toList_inj.1 h
theorem d_join (xs : List ByteArray) (s : ByteArray) : (joinB xs s).data.toList = Go.Lib.join (xs.map (·.data.toList)) s.data.toList := mk_list _
theorem d_itoa (n : Int) : (itoa n).data.toList = Go.Lib.itoa n := mk_list _
theorem d_size (a : ByteArray) : a.size = a.data.toList.length := Go.Lib.size_eq a
/-- A reading's line, without its end. -/
def lineW (r : Rdg) : ByteArray := joinB (wordsK r 7) sp
theorem lineB_eq (r : Rdg) : lineB r = lineW r ++ nl := rfl
theorem join_snoc : ∀ (xs : List (List UInt8)) (y : List UInt8), (xs.map (· ++ [10])).flatten ++ y = Go.Lib.join (xs ++ [y]) [10]
  | [], y => by simp [Go.Lib.join_one]
  | [x], y => by
    rw [show ([x] ++ [y] : List (List UInt8)) = [x, y] from rfl, join_two, Go.Lib.join_one]; simp
  | x :: z :: zs, y => by
    have ih := join_snoc (z :: zs) y
    rw [show (x :: z :: zs) ++ [y] = x :: z :: (zs ++ [y]) from rfl, join_two, show z :: (zs ++ [y]) = (z :: zs) ++ [y] from rfl, ← ih]; simp
theorem outB_data (l : List Rdg) : ∀ j, j ≤ l.length → (outB l j).data.toList = ((l.take j).map fun r => (lineW r).data.toList ++ [10]).flatten
  | 0, _ => rfl
  | j + 1, h => by
    have hj : j < l.length := by omega
    have e : l.take (j + 1) = l.take j ++ [nth l j] := by rw [List.take_succ_eq_append_getElem hj, nth_eq l j hj]
    rw [outB, d_app, outB_data l j (by omega), lineB_eq, d_app, e]
    simp [show nl.data.toList = [10] from rfl]
/-- The last line, without its end. -/
def endL (s : ByteArray) : ByteArray := joinB [endW, itoa ((sealS s s.size).1 % 97 / 10) ++ itoa ((sealS s s.size).1 % 97 % 10)] sp
theorem lastB_eq (s : ByteArray) : lastB s = endL s ++ nl := rfl
/-- The text of a sheet. -/
def sheetB (l : List Rdg) : ByteArray := outB l l.length ++ lastB (outB l l.length)
/-- Its lines. -/
def linesB (l : List Rdg) : List ByteArray := l.map lineW ++ [endL (outB l l.length)]
theorem sheet_data (l : List Rdg) : (sheetB l).data.toList = Go.Lib.join ((linesB l).map (·.data.toList)) [10] ++ [10] := by
  unfold sheetB linesB
  rw [d_app, outB_data l _ (Nat.le_refl _), List.take_length, lastB_eq, d_app, List.map_append, List.map_map, List.map_cons, List.map_nil, ← join_snoc, List.map_map, ← List.append_assoc]
  rfl
theorem suffix_one (z : List UInt8) : Go.Lib.hasSuffix (z ++ [10]) [10] = true := List.isSuffixOf_iff_suffix.2 ⟨z, rfl⟩
theorem trim_one (z : List UInt8) : Go.Lib.trimSuffix (z ++ [10]) [10] = z := by
  unfold Go.Lib.trimSuffix
  rw [if_pos (suffix_one z)]; simp
theorem cut_sheet (l : List Rdg) (hs : (sheetB l).size ≤ 100000) : CallsTo Tryz.prog 74 [.str (sheetB l), .str ⟨#[10]⟩] (.tup [.str (joinB (linesB l) ⟨#[10]⟩), .bool true]) := by
  have h := cut_ok (sheetB l) ⟨#[10]⟩ (by omega)
  rw [sheet_data, show (ByteArray.mk #[10]).data.toList = [10] from rfl, suffix_one, trim_one] at h
  exact h
theorem free_join {c : UInt8} {s : List UInt8} (hs : c ∉ s) : ∀ ws : List (List UInt8), (∀ w ∈ ws, c ∉ w) → c ∉ Go.Lib.join ws s
  | [], _ => by simp [Go.Lib.join_nil]
  | [w], h => by rw [Go.Lib.join_one]; exact h w (List.mem_cons_self ..)
  | w :: x :: ws, h => by
    rw [join_two, List.mem_append, List.mem_append]
    rintro ((h1 | h1) | h1)
    · exact h w (List.mem_cons_self ..) h1
    · exact hs h1
    · exact free_join hs (x :: ws) (fun y hy => h y (List.mem_cons_of_mem _ hy)) h1
theorem lineW_free {r : Rdg} (h : Fit r) : (10 : UInt8) ∉ (lineW r).data.toList := by
  unfold lineW
  rw [d_join]
  refine free_join (by decide) _ fun w hw => ?_
  obtain ⟨y, hy, rfl⟩ := List.mem_map.1 hw
  exact words_free h 10 (.inr rfl) y hy
theorem endL_free (s : ByteArray) : (10 : UInt8) ∉ (endL s).data.toList := by
  unfold endL
  rw [d_join]
  refine free_join (by decide) _ fun w hw => ?_
  simp only [List.map_cons, List.map_nil, List.mem_cons, List.not_mem_nil, or_false] at hw
  rcases hw with rfl | rfl
  · decide
  · rw [d_app, List.mem_append]
    rintro (h1 | h1)
    · exact itoa_free _ 10 (by decide) (by decide) h1
    · exact itoa_free _ 10 (by decide) (by decide) h1
theorem split_sheet (l : List Rdg) (hf : ∀ i, i < l.length → Fit (nth l i)) (hs : (sheetB l).size ≤ 100000) : CallsTo Tryz.prog 76 [.str (joinB (linesB l) ⟨#[10]⟩), .str ⟨#[10]⟩] (.list ((linesB l).map D.str)) := by
  have hsz : (joinB (linesB l) ⟨#[10]⟩).size ≤ 100000 := by
    rw [d_size, d_join]
    rw [d_size, sheet_data] at hs
    simp only [List.length_append, List.length_singleton] at hs
    show (Go.Lib.join _ [10]).length ≤ _
    omega
  have h := split_ok (joinB (linesB l) ⟨#[10]⟩) 10 (by omega)
  rw [partsB_join 10 (linesB l) (by simp [linesB]) (fun w hw => ?_)] at h
  · exact h
  · unfold linesB at hw
    rcases List.mem_append.1 hw with hw | hw
    · obtain ⟨r, hr, rfl⟩ := List.mem_map.1 hw
      obtain ⟨i, hi, rfl⟩ := List.getElem_of_mem hr
      rw [← nth_eq l i hi]; exact lineW_free (hf i hi)
    · simp only [List.mem_singleton] at hw
      subst hw; exact endL_free _
/-! ## How long -/
theorem lineW_size {r : Rdg} (h : Fit r) : (lineW r).size ≤ 64 := by unfold lineW; rw [d_size, d_join]; exact line_len h
theorem lineB_size {r : Rdg} (h : Fit r) : (lineB r).size ≤ 65 := by
  rw [lineB_eq, d_size, d_app, List.length_append, ← d_size, ← d_size]
  have := lineW_size h
  have e : nl.size = 1 := rfl
  omega
theorem outB_size (l : List Rdg) (hf : ∀ i, i < l.length → Fit (nth l i)) : ∀ j, j ≤ l.length → (outB l j).size ≤ 65 * j
  | 0, _ => Nat.le_refl _
  | j + 1, h => by
    have ih := outB_size l hf j (by omega)
    have h2 := lineB_size (hf j (by omega))
    rw [outB, d_size, d_app, List.length_append, ← d_size, ← d_size]; omega
theorem seal_bd (s : ByteArray) : (0 ≤ (sealS s s.size).1 % 97 / 10 ∧ (sealS s s.size).1 % 97 / 10 ≤ 9) ∧ 0 ≤ (sealS s s.size).1 % 97 % 10 ∧ (sealS s s.size).1 % 97 % 10 ≤ 9 := by omega
theorem itoa_one {n : Int} (h : 0 ≤ n ∧ n ≤ 9) : (itoa n).size = 1 := by
  rw [d_size, d_itoa, itoa_head n h.1, dec_small (by omega)]; rfl
theorem endL_size (s : ByteArray) : (endL s).size = 6 := by
  have h := seal_bd s
  have h1 := itoa_one h.1; have h2 := itoa_one h.2
  unfold endL
  rw [d_size, d_join, List.map_cons, Go.Lib.join_length]
  rw [d_size] at h1 h2
  simp only [List.map_cons, List.map_nil, Go.Lib.lens, List.length_cons, List.length_nil, List.sum_cons, List.sum_nil, d_app, List.length_append, h1, h2]
  rfl
theorem lastB_size (s : ByteArray) : (lastB s).size = 7 := by
  rw [lastB_eq, d_size, d_app, List.length_append, ← d_size, ← d_size, endL_size]; rfl
theorem sheet_size {l : List Rdg} (hf : ∀ i, i < l.length → Fit (nth l i)) : (sheetB l).size ≤ 65 * l.length + 7 := by
  unfold sheetB
  have h1 := outB_size l hf l.length (Nat.le_refl _)
  rw [d_size, d_app, List.length_append, ← d_size, ← d_size, lastB_size]; omega
def AsciiL (l : List UInt8) : Prop := ∀ b ∈ l, b.toNat < 128
theorem ascii_of {s : ByteArray} (h : AsciiL s.data.toList) : Ascii s := fun k hk => h _ (by
  show s.data[k]'_ ∈ s.data.toList
  simp)
theorem asciiL_app {a b : List UInt8} (h1 : AsciiL a) (h2 : AsciiL b) : AsciiL (a ++ b) := fun x hx => (List.mem_append.1 hx).elim (h1 x) (h2 x)
theorem asciiL_join {s : List UInt8} (hs : AsciiL s) : ∀ ws : List (List UInt8), (∀ w ∈ ws, AsciiL w) → AsciiL (Go.Lib.join ws s)
  | [], _ => fun b hb => by simp [Go.Lib.join_nil] at hb
  | [w], h => by rw [Go.Lib.join_one]; exact h w (List.mem_cons_self ..)
  | w :: x :: ws, h => by
    rw [join_two]
    exact asciiL_app (asciiL_app (h w (List.mem_cons_self ..)) hs) (asciiL_join hs (x :: ws) (fun y hy => h y (List.mem_cons_of_mem _ hy)))
theorem asciiL_itoa (n : Int) : AsciiL (itoa n).data.toList := fun b hb => by
  rw [d_itoa] at hb
  rcases itoa_bytes n b hb with rfl | h
  · decide
  · unfold isDig at h; omega
theorem asciiL_line {r : Rdg} (h : Fit r) : AsciiL (lineW r).data.toList := by
  unfold lineW
  rw [d_join]
  refine asciiL_join (fun b hb => by simp [sp] at hb; subst hb; decide) _ fun w hw => ?_
  obtain ⟨y, hy, rfl⟩ := List.mem_map.1 hw
  rw [words_eq h] at hy
  have k3 : AsciiL (ByteArray.mk #[letterC r.clk]).data.toList := by
    have hk := h.c
    have : r.clk = 1 ∨ r.clk = 2 ∨ r.clk = 3 := by omega
    intro b hb
    simp only [List.mem_singleton] at hb
    subst hb
    rcases this with e | e | e <;> rw [e] <;> decide
  simp only [List.mem_cons, List.not_mem_nil, or_false] at hy
  rcases hy with rfl | rfl | rfl | rfl | rfl | rfl | rfl | rfl | rfl | rfl
  all_goals first | exact k3 | exact asciiL_itoa _
theorem outB_ascii (l : List Rdg) (hf : ∀ i, i < l.length → Fit (nth l i)) : ∀ j, j ≤ l.length → AsciiL (outB l j).data.toList
  | 0, _ => fun b hb => by cases hb
  | j + 1, h => by
    rw [outB, d_app, lineB_eq, d_app]
    exact asciiL_app (outB_ascii l hf j (by omega)) (asciiL_app (asciiL_line (hf j (by omega))) (fun b hb => by simp [nl] at hb; subst hb; decide))
theorem last_out (l : List Rdg) (hf : ∀ i, i < l.length → Fit (nth l i)) (hl : l.length ≤ 30) : CallsTo Tryz.prog 29 [.str (outB l l.length)] (.str (lastB (outB l l.length))) := by
  have h1 := outB_size l hf l.length (Nat.le_refl _)
  have h2 := seal_bd (outB l l.length)
  have h3 := endL_size (outB l l.length)
  unfold endL at h3
  rw [d_size, d_join] at h3
  exact last_ok _ (by omega) (ascii_of (outB_ascii l hf _ (Nat.le_refl _))) (by omega) (by rw [itoa_one h2.1, itoa_one h2.2]; decide)
theorem join_self (s : ByteArray) : joinB [s] sp = s := d_ext (by rw [d_join]; exact Go.Lib.join_one _ _)
theorem line_one (s : ByteArray) (hs : s.size ≤ 1000) : CallsTo Tryz.prog 73 [.list [.str s]] (.str (s ++ nl)) := by
  have h := line_ok [s] (by simp) (by simp) (by rw [List.map_cons, List.map_nil, Go.Lib.join_one, ← d_size]; omega)
  rw [join_self] at h
  exact h
end Go.Proofs.YtmnepfejoneghaaGreatDoor
namespace Go.Proofs.YtmnepfejoneghaaGreatDoor
open Go.Ab Go.Sheet
attribute [local irreducible] Abs CallK CallR CallsTo IA
theorem nth_lines {l : List Rdg} {j : Nat} (h : j < l.length) : nth (linesB l) j = lineW (nth l j) := by
  unfold linesB nth
  rw [List.getD_eq_getElem?_getD, List.getElem?_append_left (by simpa using h), List.getElem?_map, List.getElem?_eq_getElem h, List.getD_eq_getElem?_getD, List.getElem?_eq_getElem h]; rfl
theorem nth_end (l : List Rdg) : nth (linesB l) l.length = endL (outB l l.length) := by
  unfold linesB nth
  rw [List.getD_eq_getElem?_getD, List.getElem?_append_right (by simp)]; simp
theorem lines_len (l : List Rdg) : (linesB l).length = l.length + 1 := by simp [linesB]
set_option maxRecDepth 100000 in
set_option maxHeartbeats 4000000 in
theorem readS_ok (l : List Rdg) (hf : ∀ i, i < l.length → Fit (nth l i)) (hl : l.length ≤ 24) : CallsTo Tryz.prog 31 [.str (sheetB l)] (.list (l.map rdD)) := by
  have hsz := sheet_size hf
  have hcut := cut_sheet l (by omega)
  have hsp := split_sheet l hf (by omega)
  have hlast := last_out l hf (by omega)
  have hrl := fun j (h : j < l.length) => readLine_ok (nth l j) (hf j h)
  have hne : ((endL (outB l l.length) ++ nl).toList == (lastB (outB l l.length)).toList) = true := by rw [lastB_eq, beq_self_eq_true]
  have hln := lines_len l
  have hE := nth_end l
  have hW := fun j (h : j < l.length) => nth_lines (l := l) h
  have hEs := endL_size (outB l l.length)
  have hline := line_one (endL (outB l l.length)) (by omega)
  have hWs := fun j (h : j < l.length) => lineW_size (hf j h)
  have hl1 := fun j (h : j < l.length) => line_one (lineW (nth l j)) (by have := hWs j h; omega)
  have hob := outB_size l hf
  have hls := lastB_size (outB l l.length)
  have hrl : ∀ j, j < l.length → CallsTo Tryz.prog 77 [.str (lineW (nth l j))] (rdD (nth l j)) := hrl
  have hos : ∀ j, outB l (j + 1) = outB l j ++ (lineW (nth l j) ++ nl) := fun j => rfl
  generalize joinB (linesB l) ⟨#[10]⟩ = body at *
  generalize sheetB l = txt at *
  have h10 : (#[10] : Array UInt8).size = 1 := rfl
  have hnn : ((l.length : Int) + 1 - 1) = l.length := by omega
  have hT : List.take l.length (List.map D.str (linesB l)) = l.map fun r => D.str (lineW r) := by unfold linesB; simp [List.map_append, List.take_left']
  refine calls_abs Tryz.func31 Tryz.ntmps31 Tryz.results31 Tryz.call31 rfl (by simp) fun w0 S0 M0 => ?_
  repeat' (first | refine st1 ?_ | ((first | refine abs_region fun K hK => ?_ | refine abs_draw Tryz.ty.mixed (by kernel_rfl) fun K hK => ?_ | refine abs_if ?_ | show retQ _ _ _ _ _ | refine callK (hcut) ?_ | refine callK (hsp) ?_ | refine callK (sure_ok _ (by simp <;> omega) _) ?_); simp -implicitDefEqProofs only [go_sem, bas, basL, Nat.reduceAdd, Nat.reduceSub, Nat.reduceMul, Nat.reduceLT, Nat.reduceLeDiff, Nat.reduceEqDiff, Nat.reduceBEq, Int.reduceLT, Int.reduceLE, Int.reduceToNat, Int.reduceAdd, Int.reduceSub, Int.reduceMul, Int.reduceNeg, Int.reduceEq, reduceCtorEq, eq_self, ne_eq, not_false_eq_true, if_true, reduceIte, h10, hnn, hne, hE, hln, hT, Int.toNat_natCast, Nat.sub_zero, List.drop_zero, Int.natCast_add, Int.natCast_one]) | ((first | (refine hK _ ?_; clear hK K) | show thenQ _ _ _ _ | show blockQ _ _ _ _ | show noGoQ _ _ _); refine qst ?_) | ((intro y hy; obtain ⟨c, _, rfl⟩ := List.mem_map.1 hy; rfl)) | (intro hg; try exact fin2) | apply And.intro | exact fin | fail)
  refine abs_adopt 8 37 10 rfl ?_
  refine abs_loopN (ι := Nat) (fun j => [(5, .list ((linesB l).map D.str)), (6, i64 l.length), (7, .str (outB l j)), (8, .own 0), (26, .list (l.map fun r => D.str (lineW r))), (27, i64 l.length), (28, i64 j)]) (fun _ => []) (fun j => [⟨true, 37, 10, (l.take j).map rdD⟩])
    (fun j => j ≤ l.length) (fun j => l.length - j) (fun _ _ => ⟨rfl, rfl⟩) 0 (Nat.zero_le _) (le_of rfl (by try simp -implicitDefEqProofs only [go_sem, bas, basL, Nat.reduceAdd, Nat.reduceSub, Nat.reduceMul, Nat.reduceLT, Nat.reduceLeDiff, Nat.reduceEqDiff, Nat.reduceBEq, Int.reduceLT, Int.reduceLE, Int.reduceToNat, Int.reduceAdd, Int.reduceSub, Int.reduceMul, Int.reduceNeg, Int.reduceEq, reduceCtorEq, eq_self, ne_eq, not_false_eq_true, if_true, reduceIte, h10, hnn, hne, hE, hln, hT, Int.toNat_natCast, Nat.sub_zero, List.drop_zero, Int.natCast_add, Int.natCast_one]; try simp [outB]) ⟨_, rfl⟩ ⟨_, rfl⟩) (fun j hj => ?_)
  have htk : (l.take j).length = j := by simp; omega
  have hobj := hob j hj
  by_cases hlt : j < l.length
  · have k1 := hrl j hlt
    have k2 := hl1 j hlt
    have k3 := hWs j hlt
    have k4 : l.take (j + 1) = l.take j ++ [nth l j] := by rw [List.take_succ_eq_append_getElem hlt, nth_eq l j hlt]
    simp -implicitDefEqProofs only [go_sem, bas, basL, Nat.reduceAdd, Nat.reduceSub, Nat.reduceMul, Nat.reduceLT, Nat.reduceLeDiff, Nat.reduceEqDiff, Nat.reduceBEq, Int.reduceLT, Int.reduceLE, Int.reduceToNat, Int.reduceAdd, Int.reduceSub, Int.reduceMul, Int.reduceNeg, Int.reduceEq, reduceCtorEq, eq_self, ne_eq, not_false_eq_true, if_true, reduceIte, h10, hnn, hne, hE, hln, hT, Int.toNat_natCast, Nat.sub_zero, List.drop_zero, Int.natCast_add, Int.natCast_one]
    repeat' (first | refine st1 ?_ | ((first | refine abs_region fun K hK => ?_ | refine abs_draw Tryz.ty.mixed (by kernel_rfl) fun K hK => ?_ | refine abs_if ?_ | show retQ _ _ _ _ _ | refine callK (k1) ?_ | refine callK (k2) ?_); simp -implicitDefEqProofs only [go_sem, bas, basL, Nat.reduceAdd, Nat.reduceSub, Nat.reduceMul, Nat.reduceLT, Nat.reduceLeDiff, Nat.reduceEqDiff, Nat.reduceBEq, Int.reduceLT, Int.reduceLE, Int.reduceToNat, Int.reduceAdd, Int.reduceSub, Int.reduceMul, Int.reduceNeg, Int.reduceEq, reduceCtorEq, eq_self, ne_eq, not_false_eq_true, if_true, reduceIte, h10, hnn, hne, hE, hln, hT, Int.toNat_natCast, Nat.sub_zero, List.drop_zero, Int.natCast_add, Int.natCast_one]) | ((first | (refine hK _ ?_; clear hK K) | show thenQ _ _ _ _ | show blockQ _ _ _ _ | show noGoQ _ _ _); refine qst ?_) | ((intro y hy; obtain ⟨c, _, rfl⟩ := List.mem_map.1 hy; rfl)) | (intro hg; try exact fin2) | apply And.intro | exact fin | fail)
    exact ⟨j + 1, by omega, by omega, le_of rfl (by try simp -implicitDefEqProofs only [go_sem, bas, basL, Nat.reduceAdd, Nat.reduceSub, Nat.reduceMul, Nat.reduceLT, Nat.reduceLeDiff, Nat.reduceEqDiff, Nat.reduceBEq, Int.reduceLT, Int.reduceLE, Int.reduceToNat, Int.reduceAdd, Int.reduceSub, Int.reduceMul, Int.reduceNeg, Int.reduceEq, reduceCtorEq, eq_self, ne_eq, not_false_eq_true, if_true, reduceIte, h10, hnn, hne, hE, hln, hT, Int.toNat_natCast, Nat.sub_zero, List.drop_zero, Int.natCast_add, Int.natCast_one]; try simp [hos]) ⟨_, rfl⟩ ⟨[], by simp [k4]⟩⟩
  · obtain rfl : j = l.length := by omega
    have k5 : List.take l.length l = l := List.take_length
    simp -implicitDefEqProofs only [go_sem, bas, basL, Nat.reduceAdd, Nat.reduceSub, Nat.reduceMul, Nat.reduceLT, Nat.reduceLeDiff, Nat.reduceEqDiff, Nat.reduceBEq, Int.reduceLT, Int.reduceLE, Int.reduceToNat, Int.reduceAdd, Int.reduceSub, Int.reduceMul, Int.reduceNeg, Int.reduceEq, reduceCtorEq, eq_self, ne_eq, not_false_eq_true, if_true, reduceIte, h10, hnn, hne, hE, hln, hT, k5, Int.toNat_natCast, Nat.sub_zero, List.drop_zero, Int.natCast_add, Int.natCast_one]
    repeat' (first | refine st1 ?_ | ((first | refine abs_region fun K hK => ?_ | refine abs_draw Tryz.ty.mixed (by kernel_rfl) fun K hK => ?_ | refine abs_if ?_ | show retQ _ _ _ _ _ | refine callK (hline) ?_ | refine callK (hlast) ?_ | refine callK (sure_ok _ (by simp <;> omega) _) ?_); simp -implicitDefEqProofs only [go_sem, bas, basL, Nat.reduceAdd, Nat.reduceSub, Nat.reduceMul, Nat.reduceLT, Nat.reduceLeDiff, Nat.reduceEqDiff, Nat.reduceBEq, Int.reduceLT, Int.reduceLE, Int.reduceToNat, Int.reduceAdd, Int.reduceSub, Int.reduceMul, Int.reduceNeg, Int.reduceEq, reduceCtorEq, eq_self, ne_eq, not_false_eq_true, if_true, reduceIte, h10, hnn, hne, hE, hln, hT, k5, Int.toNat_natCast, Nat.sub_zero, List.drop_zero, Int.natCast_add, Int.natCast_one]) | ((first | (refine hK _ ?_; clear hK K) | show thenQ _ _ _ _ | show blockQ _ _ _ _ | show noGoQ _ _ _); refine qst ?_) | (intro hg; try exact fin2) | apply And.intro | exact fin | fail)
    all_goals skip
end Go.Proofs.YtmnepfejoneghaaGreatDoor
namespace Go.Proofs.YtmnepfejoneghaaGreatDoor
open Go.Ab Go.Sheet Go.RowKit Go
theorem abs_wp {c : Ctx} {code : Code} {Q : Exit → St → Prop} {s : St} {a : Act} {w : World} {Q' : Exit → Act → World → Prop} (hr : R c s a w) (h : Abs c code Q s) (hp : ∀ e a' w' s', R c s' a' w' → Q e s' → Q' e a' w') : code.wpIn c.F 0 c.P Q' a w :=
  wpIn_mono (h a w hr) fun e a' w' ⟨s', r, q⟩ => hp e a' w' s' r q
theorem absx_wp {l1 l2 : List Deferred} {c : Ctx} {code : Code} {Q : Exit → St → Prop} {s : St} {a : Act} {w : World} {Q' : Exit → Act → World → Prop} (hr : RX l1 l2 c s a w) (h : AbsX l1 l2 c code Q s) (hp : ∀ e a' w' s', RX l1 l2 c s' a' w' → Q e s' → Q' e a' w') : code.wpIn c.F 0 c.P Q' a w :=
  wpIn_mono (h a w hr) fun e a' w' ⟨s', r, q⟩ => hp e a' w' s' r q
attribute [local irreducible] Abs CallK CallR CallsTo AbsX
theorem swapAct {c : Ctx} {s : St} {a a' : Act} {w : World} {g : Gh} {n : Nat} {sl : Nat → D} (h : RG c s a w g) (hs : a'.tmps.size = n) (hsl : ∀ m, Rel w g (a'.tmps.getD m undef) (sl m)) (hd : a'.defers = a.defers) : RG c ⟨n, sl, s.bx, s.rw⟩ a' w g :=
  ⟨⟨hd ▸ h.df.dok, h.df.mok, h.df.m0, h.df.mfrom, h.df.anc, h.df.kp0, h.df.tab⟩, hs, h.below, h.own0, h.good, h.from0, h.S0, h.good0, h.lβ, h.lρ, hsl, h.bx, h.fz, h.rw, h.ap⟩
theorem R_init {P : Program} {S : Addr → Prop} {M : MM} {w : World} {args : List Value} {ds : List D} {n : Nat} (hT : Tab w) (hS : Go.Ab.Good w S) (hM : MOk w M) (hl : args.length = ds.length) (hn : ds.length ≤ n) (hrel : ∀ q x, ds[q]? = some x → Rel w ⟨S, [], [], M⟩ (args.getD q Go.undef) x) :
    R ⟨P, w, S, M, none, fun b => w.heap.size ≤ b, []⟩ ⟨n, ofL 0 ds, [], []⟩ { tmps := args.toArray ++ Array.replicate (n - args.toArray.size) undef, defers := [] } w := by
  refine ⟨⟨S, [], [], M⟩, ⟨⟨List.nodup_nil, fun d hd => by cases hd⟩, hM, fun _ _ h => h, fun _ _ h => .inl h, fun i b h => by simp at h, fun _ _ => rfl, hT.fresh hM⟩, by simp; omega, .of (Below.refl _ _), fun _ h => h, hS, fun _ h => .inl h, fun _ h => h, hS, rfl, rfl, ?_, ?_, ?_, ?_, ?_⟩
  · intro m
    simp only
    rw [ofL_at]
    simp only [Nat.not_lt_zero, if_false, Nat.sub_zero]
    cases hd : ds[m]? with
    | none => exact .undef _ _
    | some x =>
      have hm := (List.getElem?_eq_some_iff.1 hd).1
      have := hrel m x hd
      have e : (args.toArray ++ Array.replicate (n - args.toArray.size) undef).getD m undef = args.getD m undef := by
        have : m < args.length := by omega
        simp [Array.getElem?_append, this]
      rw [e]; exact this
  · intro i cs hi; simp at hi
  · intro i cs hi; simp at hi
  · intro i cs hi; simp at hi
  · exact ⟨fun _ => .inl 0, fun i x b hi => by simp at hi, fun r row v gb hr => by simp at hr⟩
theorem list_cons {P : Program} {ops : Array Oper} {Q : Exit → Act → World → Prop} {o : Oper} {rest : List Oper} {a : Act} {w : World} (hg : o.guard = none) (h : o.wpIn Fence.wide 0 P a w (wpListIn Fence.wide 0 P ops Q rest) Q) :
    wpListIn Fence.wide 0 P ops Q (o :: rest) a w := by
  unfold wpListIn
  rw [if_pos (by simp [Region.wanted, hg])]
  exact h
/-! ## The deferred closure, where nothing panicked -/
theorem if20 : Tryz.prog.underlying 20 = some (.interface (Tryz.prog.methodsAt 20)) := by kernel_rfl
theorem recover_op {F : Fence} {n : Nat} {P : Program} {Q : Exit → Act → List Frame → World → Prop} {a : Act} {cs : List Frame} {w : World} {dst : Option Tmp} {ty : TypeId} {pos : String} {aft : Array Edge} (hF : ∀ f, F.fn f)
    (h : match recoverD cs with | some (v, cs') => Q .normal (a.put dst v) cs' w | none => Q .normal (a.put dst .nilIface) cs w) :
    wpOpsSIn F n P #[⟨dst, .call ⟨.builtin .recover, #[], #[]⟩, ty, pos, aft, none⟩] Q (List.range #[(⟨dst, .call ⟨.builtin .recover, #[], #[]⟩, ty, pos, aft, none⟩ : Oper)].size) a cs w := by
  show wpOpsSIn F n P _ Q [0] a cs w
  have hrun : (execOp a.eval ⟨dst, .call ⟨.builtin .recover, #[], #[]⟩, ty, pos, aft, none⟩).run P w = .ok .recover w := by
    simp [execOp, resolve, invoke, builtin]
  simp only [wpOpsSIn, List.getElem?_toArray, List.getElem?_cons_zero]
  refine ⟨fun f _ => hF f, ?_⟩
  · rw [if_pos (by simp [Region.wanted]), hrun]
    simp only
    cases hr : recoverD cs with
    | none => rw [hr] at h; exact h
    | some p => obtain ⟨v, cs'⟩ := p; rw [hr] at h; exact h
theorem res28 (tmps : Array Value) (w : World) : (results Tryz.f30 tmps).run Tryz.prog w = .ok (.tuple #[]) w := by
  rw [results_eq, show Tryz.f30.results = #[] from rfl]
  simp
theorem eq_nil {a : Act} {w : World} {x : Operand} {dst : Option Tmp} {ty : TypeId} {pos : String} {aft : Array Edge} (ha : a.eval x = .nilIface) : (execOp a.eval ⟨dst, .binOp .eql 20 x (.const .nilIface) 20, ty, pos, aft, none⟩).run Tryz.prog w = .ok (.value (.bool true)) w := by
  have h1 : a.eval (.const Value.nilIface) = .nilIface := rfl
  simp [execOp, ha, h1, eqGuard, run_eql_nil_nil (P := Tryz.prog) w 20 if20]
set_option maxRecDepth 100000 in
theorem rec_ret (args : Array Value) (w : World) (hn : args.size ≤ 2) : CallsDIn Fence.wide 0 Tryz.prog 30 args .returning w (fun e u' w' => (∃ v, e = .returned v) ∧ u' = .returning ∧ w' = w) := by
  refine callsDIn_of_wpSIn Tryz.func30 rfl trivial fun c0 cs hu => ?_
  refine wpSIn_seq (wpSIn_region (recover_op (fun _ => trivial) ?_))
  have hrec : recoverD (c0 :: cs) = none := by simp [recoverD, hu]
  rw [hrec]
  show Code.wpSIn _ _ _ _ _ _ _ _
  refine wpSIn_of_wpIn rfl ?_
  have hnt : Tryz.f30.ntmps = 11 := rfl
  generalize ha : (Act.put { tmps := args ++ Array.replicate (Tryz.f30.ntmps - args.size) undef, defers := [] } (some 5) .nilIface : Act) = a
  have hsz : a.tmps.size = 11 := by rw [← ha]; simp [Act.put, hnt]; omega
  have h7 : a.eval (.tmp 5) = .nilIface := by rw [← ha]; simp [Act.put, Act.eval, hnt]; omega
  have hd : a.defers = [] := by rw [← ha]; rfl
  refine wpIn_block (wpIn_seq (wpIn_region_lit (list_cons rfl ⟨fun _ _ => trivial, ?_⟩)))
  rw [Oper.semAt_eq _ _ _ (by intro cl h; cases h), eq_nil h7, Oper.uponIn_value]
  show Code.wpIn _ _ _ _ _ _ _
  have h9 : (a.put (some 7) (.bool true)).eval (.tmp 7) = .bool true := by simp [Act.put, Act.eval, hsz]
  refine wpIn_cond_split h9 (fun _ => ?_) (fun h => by cases h)
  refine wpIn_region_lit (list_cons rfl ⟨fun _ _ => trivial, ?_⟩)
  have h4 : (execOp (a.put (some 7) (.bool true)).eval ⟨some 2, .assign (.tmp 5), 20, "sheet.go:124", #[], none⟩).run Tryz.prog w = .ok (.value ((a.put (some 7) (.bool true)).eval (.tmp 5))) w := by simp [execOp]
  rw [Oper.semAt_eq _ _ _ (by intro cl h; cases h), h4, Oper.uponIn_value]
  unfold wpListIn
  simp only [Exit.inBlock, bodyPostS]
  refine ⟨hd, c0.mode, rfl, .tuple #[], res28 _ _, ⟨_, rfl⟩, hu, trivial⟩
/-! ## Read, of a text that Print wrote -/
def rS (t : ByteArray) : St := mkSt 17 [(0, .str t), (2, .box 0 0), (3, .box 1 0)] [.mu [.val (.slice none 0 0)], .mu [i64 0]] []
theorem rS_named (t : ByteArray) : (rS t).named := named_of rfl rfl
set_option maxRecDepth 100000 in
set_option maxHeartbeats 4000000 in
theorem gRead_ok (t : ByteArray) (ht : t.size ≤ 3000) (out : List D) (e0 : Int) (he : e0 = 0) (hR : CallsTo Tryz.prog 31 [.str t] (.list out)) (hF : CallsTo Tryz.prog 27 [.list out] (i64 0)) : CallsTo Tryz.prog 8 [.str t] (.tup [.list out, i64 e0]) := by
  subst he
  have hcalls := Tryz.call8
  unfold CallsTo
  refine ⟨hcalls, fun S M w args hT hS hM hl hrel => ?_⟩
  refine (callsIn_wide (n := 0)).1 (callsIn_of_wp_marks Tryz.func8 rfl trivial ?_)
  have hr := R_init (P := Tryz.prog) (n := 17) hT hS hM hl (by simp) hrel
  have hnt : Tryz.f8.ntmps = 17 := rfl
  rw [hnt]
  generalize ({ tmps := args.toArray ++ Array.replicate (17 - args.toArray.size) undef, defers := [] } : Act) = a0 at hr ⊢
  refine wpIn_seq (abs_wp (c := ⟨Tryz.prog, w, S, M, none, fun b => w.heap.size ≤ b, []⟩) (Q := fun e s => e = .normal ∧ Le s (rS t)) hr (abs_region fun K hK => ?_) ?_)
  · (refine withX (@Tryz.underlying9) fun hX => ?_; refine simh ?_; clear hX; try exact trivial)
    exact hK _ ⟨rfl, le_of rfl (by try (refine withX (@Tryz.underlying9) fun hX => ?_; refine simh ?_; clear hX; try exact trivial); try simp) ⟨_, rfl⟩ ⟨_, rfl⟩⟩
  rintro e a1 w1 s1 hr1 ⟨rfl, hle1⟩
  replace hr1 := hr1.le hle1 (rS_named t) (Nat.zero_le _)
  clear hle1 s1 hr
  show Code.wpIn _ _ _ _ _ _ _
  refine wpIn_seq (abs_wp (c := ⟨Tryz.prog, w, S, M, none, fun b => w.heap.size ≤ b, []⟩) (Q := fun e s => e = .normal ∧ Le s (rS t)) hr1 ?_ ?_)
  · simp only [rS, mkSt, List.foldr]
    repeat' (first | refine st1 ?_ | ((first | refine abs_region fun K hK => ?_ | refine abs_draw Tryz.ty.mixed (by kernel_rfl) fun K hK => ?_ | refine abs_if ?_ | show retQ _ _ _ _ _); (refine withX (@Tryz.underlying9) fun hX => ?_; refine simh ?_; clear hX; try exact trivial)) | ((first | (refine hK _ ?_; clear hK K) | show thenQ _ _ _ _ | show blockQ _ _ _ _ | show noGoQ _ _ _); refine qst ?_) | (intro hg; try exact fin2) | apply And.intro | exact fin | fail)
    exact le_of (l := [(0, .str t), (2, .box 0 0), (3, .box 1 0)]) rfl (by try (refine withX (@Tryz.underlying9) fun hX => ?_; refine simh ?_; clear hX; try exact trivial); try simp) ⟨_, rfl⟩ ⟨_, rfl⟩
  rintro e a2 w2 s2 hr2 ⟨rfl, hle2⟩
  replace hr2 := hr2.le hle2 (rS_named t) (Nat.zero_le _)
  clear hle2 s2 hr1
  show Code.wpIn _ _ _ _ _ _ _
  obtain ⟨l, hl2⟩ : ∃ l, a2.defers = l := ⟨_, rfl⟩
  have hx2 : RX l l ⟨Tryz.prog, w, S, M, none, fun b => w.heap.size ≤ b, []⟩ (rS t) a2 w2 := ⟨hl2, by
    have : ({ a2 with defers := l } : Act) = a2 := by rw [← hl2]
    rw [this]; exact hr2⟩
  clear hr2
  -- the closure, the deferred call
  refine wpIn_seq (wpIn_region_lit ?_)
  refine rx_list (rest := [_]) (K := fun s' => s' = _) (fun s3 a3 w3 hx3 e3 => ?_) [_] _ a2 w2 rfl hx2 (by
    simp only [rS, mkSt, List.foldr]
    (refine withX (@Tryz.underlying9) fun hX => ?_; refine simh ?_; clear hX; try exact trivial)
    exact rfl)
  subst e3
  refine list_cons rfl ⟨fun _ _ => trivial, ?_⟩
  obtain ⟨hd3, g3, hg3⟩ := hx3
  have h9 := hg3.ev (.tmp 8)
  change Rel w3 g3 (a3.eval (.tmp 8)) (.clo 30 [.box 0 0, .box 1 0]) at h9
  generalize hv9 : a3.eval (.tmp 8) = v9 at h9
  cases h9 with
  | clo _ _ vs _ hvl hvr =>
  obtain ⟨vs⟩ := vs
  obtain ⟨p1, p2, rfl⟩ : ∃ p1 p2, vs = [p1, p2] := by
    match vs, hvl with
    | [a, b], _ => exact ⟨a, b, rfl⟩
  clear hvr hvl
  obtain ⟨dd, hdd⟩ : ∃ dd : Deferred, dd = { target := .fn (.func 30) #[p1, p2], args := #[] } := ⟨_, rfl⟩
  have hsd : (Oper.semAt Fence.wide.round a3.eval ⟨none, .defer ⟨.value (.tmp 8), #[], #[]⟩, 0, "sheet.go:123", #[{ on := 0, ground := Go.Ground.data }], none⟩).run Tryz.prog w3 = .ok (.defer dd) w3 := by
    rw [show Fence.wide.round = none from rfl, Oper.semAt_none, hdd]
    simp [execOp, resolve, hv9, Deferred.ofValue]
  rw [hsd, Oper.uponIn_defer]
  unfold wpListIn
  show Code.wpIn _ _ _ _ _ _ _
  have hen := hg3.enterN (a' := { a3 with defers := [] }) rfl hg3.sz hg3.sl
  have hx4 : RX (dd :: l) [] ⟨Tryz.prog, w3, g3.S, g3.M, none, fun b => w3.heap.size ≤ b ∨ (w.heap.size ≤ b ∧ ∃ cs t fz, w3.heap[b]? = some (.cells cs t fz)), g3.β⟩ _ { a3 with defers := dd :: a3.defers } w3 := ⟨by rw [hd3], g3, hen⟩
  generalize ({ a3 with defers := dd :: a3.defers } : Act) = a4 at hx4
  have hinv : ∀ w : World, (invoke dd.target dd.args).run Tryz.prog w = .ok (.enter 30 #[p1, p2]) w := fun w => by
    rw [hdd]; simp [invoke, Tryz.call30]
  have hnm3 : ∀ m, Names 2 0 (put (put (put (put none' 3 (D.box 1 0)) 2 (D.box 0 0)) 0 (D.str t)) 8 (D.clo 30 [D.box 0 0, D.box 1 0]) m) :=
    slots_names (l := [(8, D.clo 30 [D.box 0 0, D.box 1 0]), (0, D.str t), (2, D.box 0 0), (3, D.box 1 0)]) rfl
  have fin : ∀ (s8 : St) (a8 : Act) (w8 : World) (g8 : Gh), RG ⟨Tryz.prog, w3, g3.S, g3.M, none, fun b => w3.heap.size ≤ b ∨ (w.heap.size ≤ b ∧ ∃ cs t fz, w3.heap[b]? = some (.cells cs t fz)), g3.β⟩ s8 { a8 with defers := [] } w8 g8 →
      (resL Tryz.prog s8 Tryz.f8.results.toList fun ds => ds = [.list out, i64 0]) →
      LeavesInM Fence.wide 0 Tryz.prog Tryz.f8 a8.tmps (fun e' w' => ∃ v S' M', e' = .returned v ∧ Grow w S M w' S' M' ∧ Go.Ab.Good w' S' ∧ Rel w' ⟨S', [], [], M'⟩ v (.tup [.list out, i64 0])) l .returning w8 := fun s8 a8 w8 g8 h8 hres => by
    have hb := swapAct (a' := { a8 with defers := l }) (hg3.leaveN h8 hnm3) h8.sz h8.sl rfl
    exact marks_leave (c := ⟨Tryz.prog, w, S, M, none, fun b => w.heap.size ≤ b, []⟩) (fn := Tryz.f8) (ds := [.list out, i64 0]) l { a8 with defers := l } w8 hb rfl hres (fun v w9 h9 hv => ⟨v, g8.S, g8.M, rfl,
      ⟨⟨h9.below.os, h9.below.tape, h9.below.output, h9.below.size, fun k hk hn => h9.below.block k hk (fun h => h.elim (fun h => absurd (show w.heap.size ≤ k from h) (Nat.not_le_of_lt hk)) hn)⟩, h9.S0, h9.from0, h9.df.m0, h9.df.mfrom, h9.df.mok⟩, h9.good, hv⟩)
  -- what is read
  refine absx_wp (c := ⟨Tryz.prog, w3, g3.S, g3.M, none, fun b => w3.heap.size ≤ b ∨ (w.heap.size ≤ b ∧ ∃ cs t fz, w3.heap[b]? = some (.cells cs t fz)), g3.β⟩) (Q := fun e s8 => e = .ret ∧ resL Tryz.prog s8 Tryz.f8.results.toList fun ds => ds = [.list out, i64 0]) hx4 ?_ ?_
  · refine absx_seq (absx_region rfl fun K hK => ?_)
    (refine withX (@Tryz.underlying9) fun hX => ?_; refine simh ?_; clear hX; try exact trivial)
    refine callK hR ?_
    (refine withX (@Tryz.underlying9) fun hX => ?_; refine simh ?_; clear hX; try exact trivial)
    refine hK _ ?_; clear hK K; simp only [thenQ]
    refine absx_seq ?_
    refine absx_seq (absx_region rfl fun K hK => ?_)
    (refine withX (@Tryz.underlying9) fun hX => ?_; refine simh ?_; clear hX; try exact trivial)
    refine callK hF ?_
    (refine withX (@Tryz.underlying9) fun hX => ?_; refine simh ?_; clear hX; try exact trivial)
    refine hK _ ?_; clear hK K; simp only [thenQ]
    refine absx_seq (absx_region rfl fun K hK => ?_)
    (refine withX (@Tryz.underlying9) fun hX => ?_; refine simh ?_; clear hX; try exact trivial)
    refine hK _ ?_; clear hK K; simp only [thenQ]
    refine absx_if ?_
    (refine withX (@Tryz.underlying9) fun hX => ?_; refine simh ?_; clear hX; try exact trivial)
    refine absx_skip ?_
    simp only [thenQ]
    refine absx_seq (absx_region rfl fun K hK => ?_)
    (refine withX (@Tryz.underlying9) fun hX => ?_; refine simh ?_; clear hX; try exact trivial)
    refine hK _ ?_; clear hK K; simp only [thenQ]
    refine absx_ret ?_
    refine ⟨rfl, ?_⟩
    show resL Tryz.prog _ [ResultVar.cell 2 22, ResultVar.cell 3 27] _
    (refine withX (@Tryz.underlying9) fun hX => ?_; refine simh ?_; clear hX; try exact trivial)
  · rintro e a8 w8 s8 ⟨hd8, g8, hg8⟩ ⟨rfl, hres⟩
    show LeavesInM _ _ _ _ _ _ _ _ _
    rw [hd8]
    refine ⟨by simp, .inr ⟨fun h => (by cases h), .func 30, #[p1, p2], 30, #[p1, p2], by rw [hdd], hinv _, fun _ _ => trivial, ?_⟩⟩
    refine (rec_ret #[p1, p2] w8 (by simp)).mono ?_
    rintro e u' w9 ⟨⟨v, rfl⟩, rfl, rfl⟩
    exact fin s8 a8 _ g8 hg8 hres
end Go.Proofs.YtmnepfejoneghaaGreatDoor
namespace Go.Proofs.YtmnepfejoneghaaGreatDoor
open Go.Ab Go.Sheet
attribute [local irreducible] Abs CallK CallR CallsTo IA
/-- All readings are as defined. -/
def ShOk (l : List Rdg) : Prop := ∀ i, i < l.length → RdOk (nth l i)
instance (l : List Rdg) : Decidable (ShOk l) := by unfold ShOk; infer_instance
theorem ShOk.fit {l : List Rdg} (h : ShOk l) : ∀ i, i < l.length → Fit (nth l i) := fun i hi => (h i hi).fit
set_option maxRecDepth 100000 in
set_option maxHeartbeats 4000000 in
theorem sheet_ok (l : List Rdg) (hl : l.length ≤ 9223372036854775807) : CallsTo Tryz.prog 4 [.list (l.map rdD)] (.bool (decide (ShOk l))) := by
  refine calls_abs Tryz.func4 Tryz.ntmps4 Tryz.results4 Tryz.call4 rfl (by simp) fun w0 S0 M0 => ?_
  repeat' (first | refine st1 ?_ | ((first | refine abs_region fun K hK => ?_ | refine abs_draw Tryz.ty.mixed (by kernel_rfl) fun K hK => ?_ | refine abs_if ?_ | show retQ _ _ _ _ _); (refine withX (@Tryz.underlying9) fun hX => ?_; refine simh ?_; clear hX; try exact trivial)) | ((first | (refine hK _ ?_; clear hK K) | show thenQ _ _ _ _ | show blockQ _ _ _ _ | show noGoQ _ _ _); refine qst ?_) | (intro hg; try exact fin2) | apply And.intro | exact fin | fail)
  refine abs_loopN (ι := Nat) (fun j => [(0, .list (l.map rdD)), (3, i64 j)]) (fun _ => []) (fun _ => []) (fun j => j ≤ l.length ∧ ∀ i, i < j → RdOk (nth l i)) (fun j => l.length - j) (fun _ _ => ⟨rfl, rfl⟩) 0 ⟨Nat.zero_le _, fun i h => absurd h (Nat.not_lt_zero i)⟩ (le_of rfl (by try (refine withX (@Tryz.underlying9) fun hX => ?_; refine simh ?_; clear hX; try exact trivial); try simp) ⟨_, rfl⟩ ⟨_, rfl⟩) (fun j ⟨hj, hi⟩ => ?_)
  by_cases hlt : j < l.length
  · by_cases hr : RdOk (nth l j)
    · have d1 : CallsTo Tryz.prog 13 [rdD (nth l j)] (.bool true) := decide_eq_true hr ▸ reading_ok (nth l j)
      (refine withX (@Tryz.underlying9) fun hX => ?_; refine simh ?_; clear hX; try exact trivial)
      repeat' (first | refine st1 ?_ | ((first | refine abs_region fun K hK => ?_ | refine abs_draw Tryz.ty.mixed (by kernel_rfl) fun K hK => ?_ | refine abs_if ?_ | show retQ _ _ _ _ _ | refine callK (d1) ?_); (refine withX (@Tryz.underlying9) fun hX => ?_; refine simh ?_; clear hX; try exact trivial)) | ((first | (refine hK _ ?_; clear hK K) | show thenQ _ _ _ _ | show blockQ _ _ _ _ | show noGoQ _ _ _); refine qst ?_) | (intro hg; try exact fin2) | apply And.intro | exact fin | fail)
      refine ⟨j + 1, ⟨by omega, fun i h1 => ?_⟩, by omega, le_of rfl (by try (refine withX (@Tryz.underlying9) fun hX => ?_; refine simh ?_; clear hX; try exact trivial); try simp) ⟨_, rfl⟩ ⟨_, rfl⟩⟩
      rcases Nat.lt_or_eq_of_le (Nat.le_of_lt_succ h1) with h | h
      · exact hi i h
      · rw [h]; exact hr
    · have d1 : CallsTo Tryz.prog 13 [rdD (nth l j)] (.bool false) := decide_eq_false hr ▸ reading_ok (nth l j)
      rw [decide_eq_false (fun h : ShOk l => hr (h j hlt))]
      (refine withX (@Tryz.underlying9) fun hX => ?_; refine simh ?_; clear hX; try exact trivial)
      repeat' (first | refine st1 ?_ | ((first | refine abs_region fun K hK => ?_ | refine abs_draw Tryz.ty.mixed (by kernel_rfl) fun K hK => ?_ | refine abs_if ?_ | show retQ _ _ _ _ _ | refine callK (d1) ?_); (refine withX (@Tryz.underlying9) fun hX => ?_; refine simh ?_; clear hX; try exact trivial)) | ((first | (refine hK _ ?_; clear hK K) | show thenQ _ _ _ _ | show blockQ _ _ _ _ | show noGoQ _ _ _); refine qst ?_) | (intro hg; try exact fin2) | apply And.intro | exact fin | fail)
  · obtain rfl : j = l.length := by omega
    rw [decide_eq_true (show ShOk l from hi)]
    (refine withX (@Tryz.underlying9) fun hX => ?_; refine simh ?_; clear hX; try exact trivial)
    repeat' (first | refine st1 ?_ | ((first | refine abs_region fun K hK => ?_ | refine abs_draw Tryz.ty.mixed (by kernel_rfl) fun K hK => ?_ | refine abs_if ?_ | show retQ _ _ _ _ _); (refine withX (@Tryz.underlying9) fun hX => ?_; refine simh ?_; clear hX; try exact trivial)) | ((first | (refine hK _ ?_; clear hK K) | show thenQ _ _ _ _ | show blockQ _ _ _ _ | show noGoQ _ _ _); refine qst ?_) | (intro hg; try exact fin2) | apply And.intro | exact fin | fail)
set_option maxRecDepth 100000 in
set_option maxHeartbeats 4000000 in
theorem eq53 : EqInts Tryz.prog 37 10 := eq_struct2 (by kernel_rfl) (fsB_ok _ _ (by kernel_rfl)) (by kernel_rfl) (by kernel_rfl)
set_option maxRecDepth 100000 in
set_option maxHeartbeats 4000000 in
theorem sameR_ok (l : List Rdg) (hl : l.length ≤ 1000) : CallsTo Tryz.prog 9 [.list (l.map rdD), .list (l.map rdD)] (.bool true) := by
  refine calls_abs Tryz.func9 Tryz.ntmps9 Tryz.results9 Tryz.call9 rfl (by simp) fun w0 S0 M0 => ?_
  repeat' (first | refine st1 ?_ | ((first | refine abs_region fun K hK => ?_ | refine abs_draw Tryz.ty.mixed (by kernel_rfl) fun K hK => ?_ | refine abs_if ?_ | show retQ _ _ _ _ _); simp -implicitDefEqProofs only [go_sem, bas, basL, Nat.reduceAdd, Nat.reduceSub, Nat.reduceMul, Nat.reduceLT, Nat.reduceLeDiff, Nat.reduceEqDiff, Nat.reduceBEq, Int.reduceLT, Int.reduceLE, Int.reduceToNat, Int.reduceAdd, Int.reduceSub, Int.reduceMul, Int.reduceNeg, Int.reduceEq, reduceCtorEq, eq_self, ne_eq, not_false_eq_true, if_true, reduceIte, Tryz.underlying9, eq53, beq_self_eq_true]) | ((first | (refine hK _ ?_; clear hK K) | show thenQ _ _ _ _ | show blockQ _ _ _ _ | show noGoQ _ _ _); refine qst ?_) | (intro hg; try exact fin2) | apply And.intro | exact fin | fail)
  refine abs_loopN (ι := Nat) (fun j => [(0, .list (l.map rdD)), (1, .list (l.map rdD)), (5, i64 j)]) (fun _ => []) (fun _ => []) (fun j => j ≤ l.length) (fun j => l.length - j) (fun _ _ => ⟨rfl, rfl⟩) 0 (Nat.zero_le _) (le_of rfl (by try simp -implicitDefEqProofs only [go_sem, bas, basL, Nat.reduceAdd, Nat.reduceSub, Nat.reduceMul, Nat.reduceLT, Nat.reduceLeDiff, Nat.reduceEqDiff, Nat.reduceBEq, Int.reduceLT, Int.reduceLE, Int.reduceToNat, Int.reduceAdd, Int.reduceSub, Int.reduceMul, Int.reduceNeg, Int.reduceEq, reduceCtorEq, eq_self, ne_eq, not_false_eq_true, if_true, reduceIte, Tryz.underlying9, eq53, beq_self_eq_true]; try simp) ⟨_, rfl⟩ ⟨_, rfl⟩) (fun j hj => ?_)
  by_cases hlt : j < l.length
  · simp -implicitDefEqProofs only [go_sem, bas, basL, Nat.reduceAdd, Nat.reduceSub, Nat.reduceMul, Nat.reduceLT, Nat.reduceLeDiff, Nat.reduceEqDiff, Nat.reduceBEq, Int.reduceLT, Int.reduceLE, Int.reduceToNat, Int.reduceAdd, Int.reduceSub, Int.reduceMul, Int.reduceNeg, Int.reduceEq, reduceCtorEq, eq_self, ne_eq, not_false_eq_true, if_true, reduceIte, Tryz.underlying9, eq53, beq_self_eq_true]
    repeat' (first | refine st1 ?_ | ((first | refine abs_region fun K hK => ?_ | refine abs_draw Tryz.ty.mixed (by kernel_rfl) fun K hK => ?_ | refine abs_if ?_ | show retQ _ _ _ _ _); simp -implicitDefEqProofs only [go_sem, bas, basL, Nat.reduceAdd, Nat.reduceSub, Nat.reduceMul, Nat.reduceLT, Nat.reduceLeDiff, Nat.reduceEqDiff, Nat.reduceBEq, Int.reduceLT, Int.reduceLE, Int.reduceToNat, Int.reduceAdd, Int.reduceSub, Int.reduceMul, Int.reduceNeg, Int.reduceEq, reduceCtorEq, eq_self, ne_eq, not_false_eq_true, if_true, reduceIte, Tryz.underlying9, eq53, beq_self_eq_true]) | ((first | (refine hK _ ?_; clear hK K) | show thenQ _ _ _ _ | show blockQ _ _ _ _ | show noGoQ _ _ _); refine qst ?_) | (intro hg; try exact fin2) | apply And.intro | exact fin | fail)
    exact ⟨j + 1, by omega, by omega, le_of rfl (by try simp -implicitDefEqProofs only [go_sem, bas, basL, Nat.reduceAdd, Nat.reduceSub, Nat.reduceMul, Nat.reduceLT, Nat.reduceLeDiff, Nat.reduceEqDiff, Nat.reduceBEq, Int.reduceLT, Int.reduceLE, Int.reduceToNat, Int.reduceAdd, Int.reduceSub, Int.reduceMul, Int.reduceNeg, Int.reduceEq, reduceCtorEq, eq_self, ne_eq, not_false_eq_true, if_true, reduceIte, Tryz.underlying9, eq53, beq_self_eq_true]; try simp) ⟨_, rfl⟩ ⟨_, rfl⟩⟩
  · simp -implicitDefEqProofs only [go_sem, bas, basL, Nat.reduceAdd, Nat.reduceSub, Nat.reduceMul, Nat.reduceLT, Nat.reduceLeDiff, Nat.reduceEqDiff, Nat.reduceBEq, Int.reduceLT, Int.reduceLE, Int.reduceToNat, Int.reduceAdd, Int.reduceSub, Int.reduceMul, Int.reduceNeg, Int.reduceEq, reduceCtorEq, eq_self, ne_eq, not_false_eq_true, if_true, reduceIte, Tryz.underlying9, eq53, beq_self_eq_true]
    repeat' (first | refine st1 ?_ | ((first | refine abs_region fun K hK => ?_ | refine abs_draw Tryz.ty.mixed (by kernel_rfl) fun K hK => ?_ | refine abs_if ?_ | show retQ _ _ _ _ _); simp -implicitDefEqProofs only [go_sem, bas, basL, Nat.reduceAdd, Nat.reduceSub, Nat.reduceMul, Nat.reduceLT, Nat.reduceLeDiff, Nat.reduceEqDiff, Nat.reduceBEq, Int.reduceLT, Int.reduceLE, Int.reduceToNat, Int.reduceAdd, Int.reduceSub, Int.reduceMul, Int.reduceNeg, Int.reduceEq, reduceCtorEq, eq_self, ne_eq, not_false_eq_true, if_true, reduceIte, Tryz.underlying9, eq53, beq_self_eq_true]) | ((first | (refine hK _ ?_; clear hK K) | show thenQ _ _ _ _ | show blockQ _ _ _ _ | show noGoQ _ _ _); refine qst ?_) | (intro hg; try exact fin2) | apply And.intro | exact fin | fail)
theorem writ_ok {r : Rdg} (hr : RdOk r) : CallsTo Tryz.prog 28 [rdD r] (.str (lineB r)) := written_ok r hr (by have := line_len hr.fit; omega)
theorem gprint0 (l : List Rdg) (hl : l.length ≤ 20) (hr : ShOk l) : CallsTo Tryz.prog 7 [.list (l.map rdD)] (.tup [.str (sheetB l), i64 0]) :=
  print_ok l hl hr (fun i hi => writ_ok (hr i hi)) (fun j hj => by have := outB_size l hr.fit j hj; omega) (fun j hj => by have := lineB_size (hr.fit j hj); omega)
    (lastB (outB l l.length)) (last_out l hr.fit (by omega)) (by rw [lastB_size]; omega)
/-- What Print wrote is read. -/
theorem gread0 (l : List Rdg) (hl : l.length ≤ 20) (hr : ShOk l) : CallsTo Tryz.prog 8 [.str (sheetB l)] (.tup [.list (l.map rdD), i64 0]) :=
  gRead_ok (sheetB l) (by have := sheet_size hr.fit; omega) (l.map rdD) 0 rfl (readS_ok l hr.fit (by omega)) (formed_ok l hl hr)
end Go.Proofs.YtmnepfejoneghaaGreatDoor
