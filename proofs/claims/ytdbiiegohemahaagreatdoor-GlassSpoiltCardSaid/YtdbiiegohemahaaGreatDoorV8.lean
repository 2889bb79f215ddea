import Derived.Test.YtdbiiegohemahaaGreatDoorV5
import Derived.Test.YtdbiiegohemahaaGreatDoorU3
import Derived.Lib.ConvBytes
import Derived.Laws.IdiomStrings
set_option linter.unusedVariables false
set_option linter.unusedSimpArgs false
namespace Go.Proofs.YtdbiiegohemahaaGreatDoor
open Go.Ab Go.Sheet
/-- A text of which one byte is another. -/
def setB (t : ByteArray) (k : Nat) (c : UInt8) : ByteArray := ⟨(t.data.toList.set k c).toArray⟩
theorem setB_data (t : ByteArray) (k : Nat) (c : UInt8) : (setB t k c).data.toList = t.data.toList.set k c := mk_list _
theorem byteAt_data (s : ByteArray) (k : Nat) (h : k < s.data.toList.length) : byteAt s k = ((s.data.toList[k]'h).toNat : Int) := by
  rw [byteAt_eq (by rw [d_size]; exact h)]
  show (((s.data[k]'_).toNat : Nat) : Int) = ((s.data.toList[k]'h).toNat : Int)
  simp
/-- The sums of two texts of which one digit differs. -/
theorem seal_set (s s' : ByteArray) (p : Nat) (hp : p < s.data.toList.length) (c : UInt8) (h : s'.data.toList = s.data.toList.set p c) (ho : isDig s.data.toList[p]) (hc : isDig c) :
    ∀ k, k ≤ s.data.toList.length → (sealS s' k).2 = (sealS s k).2 ∧ (sealS s' k).1 = (sealS s k).1 + (if p < k then ((c.toNat : Int) - (s.data.toList[p].toNat : Int)) * (1 + (sealS s p).2 % 8) else 0) := by
  intro k
  induction k with
  | zero => intro _; simp [sealS]
  | succ k ih =>
    intro hk
    obtain ⟨i1, i2⟩ := ih (by omega)
    have hk1 : k < s.data.toList.length := by omega
    have hk2 : k < s'.data.toList.length := by rw [h, List.length_set]; exact hk1
    have b1 := byteAt_data s k hk1
    have b2 := byteAt_data s' k hk2
    have e2 : s'.data.toList[k] = if p = k then c else s.data.toList[k] := by
      simp only [h, List.getElem_set]
    rw [e2] at b2
    simp only [sealS]
    by_cases e : p = k
    · subst e
      rw [if_pos rfl] at b2
      unfold isDig at ho hc
      rw [if_pos (by rw [b2]; omega), if_pos (by rw [b1]; omega)]
      rw [if_neg (by omega)] at i2
      rw [if_pos (by omega)]
      refine ⟨by simp only [i1], ?_⟩
      simp only [i1, i2, b1, b2]
      generalize 1 + (sealS s p).2 % 8 = W
      generalize (c.toNat : Int) = C
      generalize ((s.data.toList[p].toNat : Nat) : Int) = O
      rw [Int.sub_mul, Int.sub_mul, Int.sub_mul]; omega
    · rw [if_neg e, ← b1] at b2
      rw [b2]
      by_cases hd : 48 ≤ byteAt s k ∧ byteAt s k ≤ 57
      · rw [if_pos hd, if_pos hd]
        refine ⟨by simp only [i1], ?_⟩
        simp only [i1, i2]
        by_cases hlt : p < k
        · rw [if_pos hlt, if_pos (by omega)]; omega
        · rw [if_neg hlt, if_neg (by omega)]; omega
      · rw [if_neg hd, if_neg hd]
        refine ⟨i1, ?_⟩
        rw [i2]
        by_cases hlt : p < k
        · rw [if_pos hlt, if_pos (by omega)]
        · rw [if_neg hlt, if_neg (by omega)]
theorem last_inj {s s' : ByteArray} (h : lastB s = lastB s') : (sealS s s.size).1 % 97 = (sealS s' s'.size).1 % 97 := by
  have h1 := seal_bd s
  have h2 := seal_bd s'
  have e : ∀ x : ByteArray, (lastB x).data.toList = [101, 110, 100, 32] ++ (Go.Lib.itoa ((sealS x x.size).1 % 97 / 10) ++ Go.Lib.itoa ((sealS x x.size).1 % 97 % 10)) ++ [10] := fun x => by
    rw [lastB_eq, d_app]
    unfold endL
    rw [d_join, List.map_cons, List.map_cons, List.map_nil, join_two, Go.Lib.join_one, d_app, d_itoa, d_itoa]
    rfl
  have h3 := congrArg (fun b : ByteArray => b.data.toList) h
  simp only [e] at h3
  have h4 := List.append_cancel_right h3
  have h5 := List.append_cancel_left h4
  have l1 := itoa_one h1.1; have l2 := itoa_one h2.1
  rw [d_size, d_itoa] at l1 l2
  obtain ⟨q1, q2⟩ := List.append_inj h5 (by rw [l1, l2])
  have r1 := itoa_inj q1
  have r2 := itoa_inj q2
  omega
/-- A sheet of which one digit was turned is none. -/
theorem spoilt_not (l : List Rdg) (k : Nat) (c : UInt8) (hk : k < (sheetB l).data.toList.length) (ho : isDig (sheetB l).data.toList[k]) (hc : isDig c) (hne : c ≠ (sheetB l).data.toList[k]) : ¬ okO (setB (sheetB l) k c) := by
  intro hok
  have ht := okO_text hok
  generalize befB (lsO (setB (sheetB l) k c)) (nO' (setB (sheetB l) k c)) = B' at ht
  have h1 := congrArg (fun b : ByteArray => b.data.toList) ht
  simp only [setB_data, d_app] at h1
  have hS : (sheetB l).data.toList = (outB l l.length).data.toList ++ (lastB (outB l l.length)).data.toList := by unfold sheetB; rw [d_app]
  have e1 := lastB_size B'
  have e2 := lastB_size (outB l l.length)
  rw [d_size] at e1 e2
  generalize outB l l.length = B at *
  have hlen := congrArg List.length h1
  rw [List.length_set, hS, List.length_append, List.length_append, e1, e2] at hlen
  have hk' : k < B.data.toList.length + 7 := by rw [hS, List.length_append, e2] at hk; exact hk
  by_cases hlt : k < B.data.toList.length
  · rw [hS, List.set_append_left _ _ hlt] at h1
    obtain ⟨q1, q2⟩ := List.append_inj h1 (by rw [List.length_set]; omega)
    have hold : (sheetB l).data.toList[k] = B.data.toList[k] := by simp only [hS, List.getElem_append_left hlt]
    rw [hold] at ho hne
    have hs := (seal_set B B' k hlt c q1.symm ho hc B.data.toList.length (Nat.le_refl _)).2
    rw [if_pos hlt] at hs
    have hm := last_inj (d_ext q2)
    have z1 : B.size = B.data.toList.length := d_size B
    have z2 : B'.size = B.data.toList.length := by rw [d_size, ← q1, List.length_set]
    rw [z1, z2, hs] at hm
    have hcd : (c.toNat : Int) ≠ (B.data.toList[k].toNat : Int) := fun h => hne (UInt8.toNat_inj.1 (by omega))
    unfold isDig at ho hc
    have hw : 0 ≤ (sealS B k).2 % 8 ∧ (sealS B k).2 % 8 ≤ 7 := by omega
    generalize (sealS B k).2 % 8 = W at *
    generalize (sealS B B.data.toList.length).1 = X at *
    have : W = 0 ∨ W = 1 ∨ W = 2 ∨ W = 3 ∨ W = 4 ∨ W = 5 ∨ W = 6 ∨ W = 7 := by omega
    rcases this with rfl | rfl | rfl | rfl | rfl | rfl | rfl | rfl <;> omega
  · have hge : B.data.toList.length ≤ k := by omega
    rw [hS, List.set_append_right _ _ hge] at h1
    obtain ⟨q1, q2⟩ := List.append_inj h1 (by omega)
    have eB : B' = B := d_ext q1.symm
    rw [eB] at q2
    have hold : (sheetB l).data.toList[k] = (lastB B).data.toList[k - B.data.toList.length]'(by omega) := by simp only [hS, List.getElem_append_right hge]
    rw [hold] at hne
    apply hne
    have := congrArg (fun x : List UInt8 => x[k - B.data.toList.length]?) q2
    simp only [List.getElem?_set_self (show k - B.data.toList.length < (lastB B).data.toList.length by omega), List.getElem?_eq_getElem (show k - B.data.toList.length < (lastB B).data.toList.length by omega), Option.some.injEq] at this
    exact this
end Go.Proofs.YtdbiiegohemahaaGreatDoor
set_option linter.unusedVariables false
set_option linter.unusedSimpArgs false
namespace Go.Proofs.YtdbiiegohemahaaGreatDoor
open Go.Ab Go.Sheet Go.RowKit Go
theorem go_val {ops : Array Oper} {Q : Exit → Act → World → Prop} {o : Oper} {rest : List Oper} {a : Act} {w w' : World} {v : Value} (hg : o.guard = none) (hd : ∀ cl, o.op ≠ .defer cl) (hr : (execOp a.eval o).run Tryz.prog w = .ok (.value v) w')
    (h : wpListIn Fence.wide 0 Tryz.prog ops Q rest (a.put o.dst v) w') : wpListIn Fence.wide 0 Tryz.prog ops Q (o :: rest) a w := by
  refine list_cons hg ⟨fun _ _ => trivial, ?_⟩
  rw [Oper.semAt_eq _ _ _ hd, hr, Oper.uponIn_value]
  exact h
theorem go_skip {ops : Array Oper} {Q : Exit → Act → World → Prop} {o : Oper} {rest : List Oper} {a : Act} {w w' : World} (hg : o.guard = none) (hd : ∀ cl, o.op ≠ .defer cl) (hn : o.dst = none) (hr : (execOp a.eval o).run Tryz.prog w = .ok .skip w')
    (h : wpListIn Fence.wide 0 Tryz.prog ops Q rest a w') : wpListIn Fence.wide 0 Tryz.prog ops Q (o :: rest) a w := by
  refine list_cons hg ⟨fun _ _ => trivial, ?_⟩
  rw [Oper.semAt_eq _ _ _ hd, hr, Oper.uponIn_skip]
  simpa [hn, Act.put] using h
theorem ev_put {a : Act} {n m : Nat} {v : Value} (h : n < a.tmps.size) : (a.put (some n) v).eval (.tmp m) = if m = n then v else a.eval (.tmp m) := by
  show (a.tmps.setIfInBounds n v).getD m undef = _
  rw [Array.getD_eq_getD_getElem?, Array.getElem?_setIfInBounds]
  by_cases e : n = m
  · subst e; simp [h]
  · rw [if_neg e, if_neg (Ne.symm e), ← Array.getD_eq_getD_getElem?]; rfl
theorem sz_put {a : Act} {n : Nat} {v : Value} : (a.put (some n) v).tmps.size = a.tmps.size := by simp [Act.put]
theorem set_here {w1 : World} {B k : Nat} {cs : Array Value} {e : TypeId} {fz : Nat × Nat} (h : w1.heap[B]? = some (.cells cs e fz)) (v : Value) : (w1.setCell ⟨B, k, none⟩ v).heap[B]? = some (.cells (cs.setIfInBounds k v) e fz) := by
  simp [World.setCell, Array.getElem?_modify, h]
theorem set_else {w1 : World} {B k j : Nat} (h : j ≠ B) (v : Value) : (w1.setCell ⟨B, k, none⟩ v).heap[j]? = w1.heap[j]? := by
  simp [World.setCell, Array.getElem?_modify, Ne.symm h]
theorem store_byte {w1 : World} {B k : Nat} {cs : Array Value} {e : TypeId} {fz : Nat × Nat} (h : w1.heap[B]? = some (.cells cs e fz)) (hk : k < cs.size) (hf : k < fz.1) (c : Int) :
    (storeVar 5 ⟨B, k, none⟩ (.int .u8 c)).run Tryz.prog w1 = .ok () (w1.setCell ⟨B, k, none⟩ (.int .u8 c)) := by
  have hz : szOf Tryz.prog 5 = 1 := by kernel_rfl
  have hc : w1.cell? ⟨B, k, none⟩ = some cs[k] := by rw [cell_of_row w1 B k cs e fz h]; simp [hk]
  have hfr : w1.frozen? ⟨B, k, none⟩ = false := by
    unfold World.frozen?
    obtain ⟨lo, hi⟩ := fz
    simp only [h]
    simp only at hf
    simp; omega
  have hst : (store ⟨B, k, none⟩ (.int .u8 c)).run Tryz.prog w1 = .ok () (w1.setCell ⟨B, k, none⟩ (.int .u8 c)) := by
    rw [run_store Tryz.prog w1 _ _ _ rfl]
    simp [stored, hc, hfr]
  have ha : (⟨B, k, none⟩ : Addr).add 0 = ⟨B, k, none⟩ := by simp [Addr.add]
  have hcl : (Value.int IntKind.u8 c).cells = #[.int .u8 c] := rfl
  have hsz5 : (sizeOf 5).run Tryz.prog w1 = .ok 1 w1 := by
    have := Go.Ab.run_sizeOf (P := Tryz.prog) (t := 5) (w := w1) (by rw [hz]; decide)
    rw [hz] at this; exact this
  simp [storeVar, hcl, hsz5, hz, storeCells, ha, hst]
/-- The world behind: a text's bytes, of which one is another. -/
def spoilW (w : World) (t : ByteArray) (k : Nat) (c : Int) : World := (Lib.bytesWorld w 5 t).setCell ⟨w.heap.size, k, none⟩ (.int .u8 c)
theorem spoil_below (w : World) (t : ByteArray) (k : Nat) (c : Int) : Go.RowKit.Below w.heap.size w (spoilW w t k c) := by
  refine ⟨?_, ?_, ?_, ?_, fun j hj => ?_⟩
  · simp [spoilW, World.setCell, Lib.bytesWorld, World.freeze, World.alloc, World.drew, -World.alloc_eq, -World.drew_eq]
  · simp [spoilW, World.setCell, Lib.bytesWorld, World.freeze, World.alloc, World.drew, -World.alloc_eq, -World.drew_eq]
  · simp [spoilW, World.setCell, Lib.bytesWorld, World.freeze, World.alloc, World.drew, -World.alloc_eq, -World.drew_eq]
  · have := Lib.bytesWorld_size w 5 t
    simp [spoilW, World.setCell, this]
  · unfold spoilW
    rw [set_else (by omega), Lib.bytesWorld_at_old w 5 t j hj]
theorem spoil_cell (w : World) (t : ByteArray) (k : Nat) (c : UInt8) (j : Nat) (hj : j < (t.data.toList.set k c).length) : (spoilW w t k c.toNat).cell? ⟨w.heap.size, j, none⟩ = some (.int .u8 (((t.data.toList.set k c)[j]'hj).toNat : Int)) := by
  have hj' : j < t.data.toList.length := by simpa using hj
  have hb := Lib.bytesWorld_at_new w 5 t
  unfold spoilW
  rw [cell_of_row _ _ j _ _ _ (set_here hb _)]
  have hsz : j < (Lib.bytesCells w 5 t).size := by unfold Lib.bytesCells; simp at hj' ⊢; omega
  have hold := Lib.bytesWorld_cell w 5 t j (by rw [d_size]; exact hj')
  rw [cell_of_row _ _ j _ _ _ hb] at hold
  rw [Array.getElem?_setIfInBounds, List.getElem_set]
  by_cases e : k = j
  · subst e; simp [hsz]
  · rw [if_neg e, if_neg e, hold]
    simp at hj'
    simp [hj']
theorem u35 : Tryz.prog.underlying 35 = some (.slice 5) := by kernel_rfl
theorem u5 : Tryz.prog.underlying 5 = some (.int .u8) := by kernel_rfl
theorem u9 : Tryz.prog.underlying 9 = some .string := by kernel_rfl
theorem u3 : Tryz.prog.underlying 3 = some (.int .i64) := by kernel_rfl
theorem a_const {a : Act} {v : Value} : a.eval (.const v) = v := rfl
theorem r64 (d : Int) (hd : 0 ≤ d ∧ d ≤ 9) : InR .i64 (48 + d) := by unfold InR; constructor <;> omega
theorem r8 (d : Int) (hd : 0 ≤ d ∧ d ≤ 9) : InR .u8 (48 + d) := by unfold InR; constructor <;> omega
set_option maxRecDepth 100000 in
set_option maxHeartbeats 4000000 in
theorem spoil_abs {W0 : World} {S0 : Addr → Prop} {M0 : MM} (n : Nat) (d : Int) (t : ByteArray) (c : UInt8) (hc : (c.toNat : Int) = 48 + d) (hd : 0 ≤ d ∧ d ≤ 9) (hn : n < t.size) (hts : t.size ≤ 100000) (s : St) (Q : Exit → St → Prop)
    (h7 : s.ev (.tmp 7) = .str t) (h1 : s.ev (.tmp 1) = i64 n) (h2 : s.ev (.tmp 2) = i64 d) (hsn : s.n = 90) (hbx : s.bx = []) (hrw : s.rw = []) {Z : Code} {rest : List Oper}
    {f67 f9 f71 f72 f73 f0 f76 : Array Edge}
    (h : ∀ K : St → Prop, (∀ s1, Abs ⟨Tryz.prog, W0, S0, M0, none, fun b => W0.heap.size ≤ b, []⟩ Z Q s1 → K s1) →
      evOps Tryz.prog (⟨some 75, .move (.tmp 9), 35, "law.go:434", #[], none⟩ :: ⟨some 76, .convert 35 9 (.tmp 75), 9, "law.go:434", f76, none⟩ :: rest) rest
        (((((((((((s.put (some 66) .undef).put (some 67) .undef).put (some 9) .undef).put (some 68) .undef).put (some 69) .undef).put (some 70) .undef).put (some 71) .undef).put (some 72) .undef).put (some 73) .undef).put (some 75) .undef).put (some 76) (.str (setB t n c))) K) :
    Abs ⟨Tryz.prog, W0, S0, M0, none, fun b => W0.heap.size ≤ b, []⟩
      (.seq (.region 8 #[⟨some 66, .move (.tmp 7), 9, "law.go:432", #[], none⟩, ⟨some 67, .convert 9 35 (.tmp 66), 35, "law.go:432", f67, none⟩, ⟨some 9, .assign (.tmp 67), 35, "law.go:432", f9, none⟩] false)
      (.seq (.region 9 #[⟨some 68, .move (.tmp 9), 35, "law.go:433", #[], none⟩, ⟨some 69, .move (.tmp 1), 3, "law.go:433", #[], none⟩, ⟨some 70, .move (.tmp 2), 3, "law.go:433", #[], none⟩, ⟨some 71, .binOp .add 3 (.const (.int .i64 48)) (.tmp 70) 3, 3, "law.go:433", f71, none⟩,
        ⟨some 72, .convert 3 5 (.tmp 71), 5, "law.go:433", f72, none⟩, ⟨some 73, .indexAddr 35 (.tmp 68) (.tmp 69), 0, "law.go:433", f73, none⟩, ⟨none, .store 5 (.tmp 73) (.tmp 72), 0, "law.go:433", f0, none⟩] false)
      (.seq (.region 10 (⟨some 75, .move (.tmp 9), 35, "law.go:434", #[], none⟩ :: ⟨some 76, .convert 35 9 (.tmp 75), 9, "law.go:434", f76, none⟩ :: rest).toArray false) Z))) Q s := by
  intro a w hr
  obtain ⟨g, hg⟩ := hr
  have e7 : a.eval (.tmp 7) = .string t := by
    have := hg.ev (.tmp 7)
    rw [h7] at this
    generalize a.eval (.tmp 7) = v at this
    cases this; rfl
  have e1 : a.eval (.tmp 1) = .int .i64 n := by
    have := hg.ev (.tmp 1)
    rw [h1] at this
    generalize a.eval (.tmp 1) = v at this
    cases this; rfl
  have e2 : a.eval (.tmp 2) = .int .i64 d := by
    have := hg.ev (.tmp 2)
    rw [h2] at this
    generalize a.eval (.tmp 2) = v at this
    cases this; rfl
  have hsz : a.tmps.size = 90 := by rw [hg.sz, hsn]
  obtain ⟨cap, hcap⟩ : ∃ cap, cap = grownCap w t.size 0 5 := ⟨_, rfl⟩
  have hcv := Lib.run_convert_string_bytes (P := Tryz.prog) w 9 35 5 t u9 u35 u5
  rw [← hcap] at hcv
  have hnew := Lib.bytesWorld_at_new w 5 t
  have hcs : n < (Lib.bytesCells w 5 t).size := by unfold Lib.bytesCells; have := hn; rw [d_size] at this; simp at this ⊢; omega
  have hsto := store_byte hnew hcs (by show n < (Lib.bytesCells w 5 t).size; exact hcs) (c.toNat : Int)
  have hback := run_convert_bytes_back (P := Tryz.prog) (spoilW w t n c.toNat) 35 9 5 ⟨w.heap.size, 0, none⟩ cap (t.data.toList.set n c) u35 u5 u9 (fun j hj => by
    have := spoil_cell w t n c j hj
    by_cases hj0 : j = 0
    · subst hj0; simpa [Addr.add] using this
    · simpa [Addr.add, hj0] using this)
  have hlen : (t.data.toList.set n c).length = t.size := by rw [List.length_set, d_size]
  rw [hlen] at hback
  have hz5' : szOf Tryz.prog 5 = 1 := by kernel_rfl
  have hz5 : szOf Tryz.prog 5 ≠ 0 := by rw [hz5']; decide
  have hn5 : (n : Int) < (t.size : Int) := by omega
  refine wpIn_seq (wpIn_region_lit (l := [_, _, _]) ?_)
  refine go_val (v := .string t) (w' := w) rfl (by intro cl h; cases h) (by simp [execOp, e7]) ?_
  refine go_val (v := .slice (some ⟨w.heap.size, 0, none⟩) t.size cap) (w' := Lib.bytesWorld w 5 t) rfl (by intro cl h; cases h) (by simp [execOp, ev_put, hsz, hcv]) ?_
  refine go_val (v := .slice (some ⟨w.heap.size, 0, none⟩) t.size cap) (w' := Lib.bytesWorld w 5 t) rfl (by intro cl h; cases h) (by simp [execOp, ev_put, sz_put, hsz]) ?_
  unfold wpListIn
  show Code.wpIn _ _ _ _ _ _ _
  refine wpIn_seq (wpIn_region_lit (l := [_, _, _, _, _, _, _]) ?_)
  refine go_val (v := .slice (some ⟨w.heap.size, 0, none⟩) t.size cap) (w' := Lib.bytesWorld w 5 t) rfl (by intro cl h; cases h) (by simp [execOp, ev_put, sz_put, hsz]) ?_
  refine go_val (v := .int .i64 n) (w' := Lib.bytesWorld w 5 t) rfl (by intro cl h; cases h) (by simp [execOp, ev_put, sz_put, hsz, e1]) ?_
  refine go_val (v := .int .i64 d) (w' := Lib.bytesWorld w 5 t) rfl (by intro cl h; cases h) (by simp [execOp, ev_put, sz_put, hsz, e2]) ?_
  refine go_val (v := .int .i64 (48 + d)) (w' := Lib.bytesWorld w 5 t) rfl (by intro cl h; cases h) (by simp [execOp, ev_put, sz_put, hsz, a_const, eqGuard, binOp, Op.intArith, (r64 d hd).wrap]) ?_
  refine go_val (v := .int .u8 c.toNat) (w' := Lib.bytesWorld w 5 t) rfl (by intro cl h; cases h) (by simp [execOp, ev_put, sz_put, hsz, convert, run_underlying u3, run_underlying u5, Conv.intToInt, (r8 d hd).wrap, hc]) ?_
  refine go_val (v := .pointer (some ⟨w.heap.size, n, none⟩)) (w' := Lib.bytesWorld w 5 t) rfl (by intro cl h; cases h) (by simp [execOp, ev_put, sz_put, hsz, Instr.indexAt, asIntOf, run_underlying u35, hn5, hn, Go.Ab.run_sizeOf hz5, hz5', Addr.add]; try (by_cases h0 : n = 0 <;> simp [h0])) ?_
  refine go_skip (w' := spoilW w t n c.toNat) rfl (by intro cl h; cases h) rfl (by simp [execOp, ev_put, sz_put, hsz, Instr.storeAt, Instr.sureAddr, hsto]; try rfl) ?_
  unfold wpListIn
  show Code.wpIn _ _ _ _ _ _ _
  refine wpIn_seq (wpIn_region_lit ?_)
  refine go_val (v := .slice (some ⟨w.heap.size, 0, none⟩) t.size cap) (w' := spoilW w t n c.toNat) rfl (by intro cl h; cases h) (by simp [execOp, ev_put, sz_put, hsz]) ?_
  refine go_val (v := .string (setB t n c)) (w' := spoilW w t n c.toNat) rfl (by intro cl h; cases h) (by simp [execOp, ev_put, sz_put, hsz, hback]; try rfl) ?_
  have hb := spoil_below w t n (c.toNat : Int)
  have hgW : RG ⟨Tryz.prog, W0, S0, M0, none, fun b => W0.heap.size ≤ b, []⟩ s a (spoilW w t n c.toNat) ⟨g.S, g.β, g.ρ, g.M⟩ := hg.world hb (fun _ h => h) (fun _ h => .inl h) (hg.good.below hb)
  have hR : R ⟨Tryz.prog, W0, S0, M0, none, fun b => W0.heap.size ≤ b, []⟩ _ _ (spoilW w t n c.toNat) := ⟨_, (((((((((((hgW.put (dst := some 66) (v := .string t) (by show _ < s.n; rw [hsn]; decide) (.undef _ _)).put (dst := some 67) (v := .slice (some ⟨w.heap.size, 0, none⟩) t.size cap) (by show _ < s.n; rw [hsn]; decide) (.undef _ _)).put (dst := some 9) (v := .slice (some ⟨w.heap.size, 0, none⟩) t.size cap) (by show _ < s.n; rw [hsn]; decide) (.undef _ _)).put (dst := some 68) (v := .slice (some ⟨w.heap.size, 0, none⟩) t.size cap) (by show _ < s.n; rw [hsn]; decide) (.undef _ _)).put (dst := some 69) (v := .int .i64 n) (by show _ < s.n; rw [hsn]; decide) (.undef _ _)).put (dst := some 70) (v := .int .i64 d) (by show _ < s.n; rw [hsn]; decide) (.undef _ _)).put (dst := some 71) (v := .int .i64 (48 + d)) (by show _ < s.n; rw [hsn]; decide) (.undef _ _)).put (dst := some 72) (v := .int .u8 c.toNat) (by show _ < s.n; rw [hsn]; decide) (.undef _ _)).put (dst := some 73) (v := .pointer (some ⟨w.heap.size, n, none⟩)) (by show _ < s.n; rw [hsn]; decide) (.undef _ _)).put (dst := some 75) (v := .slice (some ⟨w.heap.size, 0, none⟩) t.size cap) (by show _ < s.n; rw [hsn]; decide) (.undef _ _)).put (dst := some 76) (v := .string (setB t n c)) (by show _ < s.n; rw [hsn]; decide) (.str _ _))⟩
  exact evOps_sound (c := ⟨Tryz.prog, W0, S0, M0, none, fun b => W0.heap.size ≤ b, []⟩) (K := fun s1 => Abs _ Z Q s1) (fun s1 a1 w1 hr1 hk => hk a1 w1 hr1) rest _ _ _ hR (h _ (fun _ h => h))
end Go.Proofs.YtdbiiegohemahaaGreatDoor
set_option linter.unusedVariables false
set_option linter.unusedSimpArgs false
namespace Go.Proofs.YtdbiiegohemahaaGreatDoor
open Go.Ab Go.Sheet Go.RowKit Go
/-- A goal that the driver leaves. -/
def Hold (p : Prop) : Prop := p
theorem hold_in {p : Prop} (h : Hold p) : p := h
theorem hold_out {p : Prop} (h : p) : Hold p := h
attribute [local irreducible] Abs CallK CallR CallsTo CallsE AbsX Hold
set_option maxRecDepth 100000 in
set_option maxHeartbeats 4000000 in
theorem spoilt_law (l : List Rdg) (hl : l.length ≤ 9223372036854775807) (k d : Int) : CallsTo Tryz.prog 5 [.list (l.map rdD), i64 k, i64 d] (.bool true) := by
  have hsh := sheet_ok l hl
  by_cases h20 : l.length ≤ 20
  · by_cases hs : ShOk l
    · rw [decide_eq_true hs] at hsh
      by_cases hd : 0 ≤ d ∧ d ≤ 9
      · have p1 := gprint0 l h20 hs
        have hsz := sheet_size hs.fit
        by_cases hk : 0 ≤ k ∧ k < (sheetB l).size
        · obtain ⟨n, rfl⟩ : ∃ n : Nat, k = n := ⟨k.toNat, by omega⟩
          have hn : n < (sheetB l).size := by omega
          have hnd : n < (sheetB l).data.toList.length := by rw [← d_size]; exact hn
          have hby := byteAt_data (sheetB l) n hnd
          have hok := spoilt_not l n
          have hbz : (sheetB l).size ≤ 2000 := by omega
          by_cases hg2 : (48 ≤ byteAt (sheetB l) n ∧ byteAt (sheetB l) n ≤ 57) ∧ byteAt (sheetB l) n - 48 ≠ d
          · generalize hTt : sheetB l = t at *
            refine calls_abs Tryz.func5 Tryz.ntmps5 Tryz.results5 Tryz.call5 rfl (by simp) fun w0 S0 M0 => ?_
            repeat' (first
                | (show Abs _ (.seq (.region 8 _ _) _) _ _; refine hold_in ?_)
                | refine abs_seq ?_
                | refine abs_block ?_
                | refine abs_skip ?_
                | refine abs_scope ?_
                | refine abs_label ?_
                | refine abs_exit ?_
                | refine abs_ret ?_
                | ((first | refine abs_region fun K hK => ?_ | refine abs_draw Tryz.ty.mixed (by kernel_rfl) fun K hK => ?_ | refine abs_if ?_ | show retQ _ _ _ _ _ | refine callK (hsh) ?_ | refine callK (p1) ?_ | refine callK (known_ok) ?_); simp -implicitDefEqProofs only [go_sem, bas, basL, Nat.reduceAdd, Nat.reduceSub, Nat.reduceMul, Nat.reduceLT, Nat.reduceLeDiff, Nat.reduceEqDiff, Nat.reduceBEq, Int.reduceLT, Int.reduceLE, Int.reduceToNat, Int.reduceAdd, Int.reduceSub, Int.reduceMul, Int.reduceNeg, Int.reduceEq, reduceCtorEq, eq_self, ne_eq, not_false_eq_true, if_true, reduceIte, Tryz.underlying9])
                | ((first | (refine hK _ ?_; clear hK K) | show thenQ _ _ _ _ | show blockQ _ _ _ _ | show noGoQ _ _ _); simp only [noGoQ, thenQ, blockQ, if_true, Nat.reduceEqDiff, reduceIte])
                | (intro hg; first | (exfalso; omega) | (exfalso; contradiction) | skip)
                | apply And.intro
                | (with_reducible rfl)
                | (clear hK; omega)
                | omega)
            refine hold_out ?_
            obtain ⟨c, hc1, hc2⟩ : ∃ c : UInt8, (c.toNat : Int) = 48 + d ∧ isDig c := ⟨UInt8.ofNat (48 + d.toNat), by simp; omega, by unfold isDig; simp; omega⟩
            have hdg : isDig t.data.toList[n] := by unfold isDig; omega
            have hne : c ≠ t.data.toList[n] := fun h => by rw [← h] at hby; omega
            have hnot : ¬ okO (setB t n c) := hok c hnd hdg hc2 hne
            have hr5 : CallsE Tryz.prog 29 [.str (setB t n c)] 72 none := read_E _ (by rw [d_size, setB_data, List.length_set, ← d_size]; omega) none (fun h => absurd h hnot) (fun _ => rfl)
            have hrd := gRead_no (setB t n c) (by rw [d_size, setB_data, List.length_set, ← d_size]; omega) hr5
            refine spoil_abs n d t c hc1 hd hn ?_ _ _ (by first | rfl | (simp [St.ev, put]; done)) rfl rfl rfl rfl rfl (fun K hK => ?_)
            · omega
            simp -implicitDefEqProofs only [go_sem, bas, basL, Nat.reduceAdd, Nat.reduceSub, Nat.reduceMul, Nat.reduceLT, Nat.reduceLeDiff, Nat.reduceEqDiff, Nat.reduceBEq, Int.reduceLT, Int.reduceLE, Int.reduceToNat, Int.reduceAdd, Int.reduceSub, Int.reduceMul, Int.reduceNeg, Int.reduceEq, reduceCtorEq, eq_self, ne_eq, not_false_eq_true, if_true, reduceIte, Tryz.underlying9]
            refine callK hrd ?_
            simp -implicitDefEqProofs only [go_sem, bas, basL, Nat.reduceAdd, Nat.reduceSub, Nat.reduceMul, Nat.reduceLT, Nat.reduceLeDiff, Nat.reduceEqDiff, Nat.reduceBEq, Int.reduceLT, Int.reduceLE, Int.reduceToNat, Int.reduceAdd, Int.reduceSub, Int.reduceMul, Int.reduceNeg, Int.reduceEq, reduceCtorEq, eq_self, ne_eq, not_false_eq_true, if_true, reduceIte, Tryz.underlying9]
            refine hK _ ?_; clear hK K
            repeat' (first
                | refine abs_seq ?_
                | refine abs_block ?_
                | refine abs_skip ?_
                | refine abs_scope ?_
                | refine abs_label ?_
                | refine abs_exit ?_
                | refine abs_ret ?_
                | ((first | refine abs_region fun K hK => ?_ | refine abs_draw Tryz.ty.mixed (by kernel_rfl) fun K hK => ?_ | refine abs_if ?_ | show retQ _ _ _ _ _ | refine callK (known_ok) ?_); simp -implicitDefEqProofs only [go_sem, bas, basL, Nat.reduceAdd, Nat.reduceSub, Nat.reduceMul, Nat.reduceLT, Nat.reduceLeDiff, Nat.reduceEqDiff, Nat.reduceBEq, Int.reduceLT, Int.reduceLE, Int.reduceToNat, Int.reduceAdd, Int.reduceSub, Int.reduceMul, Int.reduceNeg, Int.reduceEq, reduceCtorEq, eq_self, ne_eq, not_false_eq_true, if_true, reduceIte, Tryz.underlying9])
                | ((first | (refine hK _ ?_; clear hK K) | show thenQ _ _ _ _ | show blockQ _ _ _ _ | show noGoQ _ _ _); simp only [noGoQ, thenQ, blockQ, if_true, Nat.reduceEqDiff, reduceIte])
                | (intro hg; first | (exfalso; omega) | (exfalso; contradiction) | skip)
                | apply And.intro
                | (with_reducible rfl)
                | (clear hK; omega)
                | omega)
            all_goals skip
          · refine calls_abs Tryz.func5 Tryz.ntmps5 Tryz.results5 Tryz.call5 rfl (by simp) fun w0 S0 M0 => ?_
            repeat' (first
                | refine abs_seq ?_
                | refine abs_block ?_
                | refine abs_skip ?_
                | refine abs_scope ?_
                | refine abs_label ?_
                | refine abs_exit ?_
                | refine abs_ret ?_
                | ((first | refine abs_region fun K hK => ?_ | refine abs_draw Tryz.ty.mixed (by kernel_rfl) fun K hK => ?_ | refine abs_if ?_ | show retQ _ _ _ _ _ | refine callK (hsh) ?_ | refine callK (p1) ?_ | refine callK (known_ok) ?_); simp -implicitDefEqProofs only [go_sem, bas, basL, Nat.reduceAdd, Nat.reduceSub, Nat.reduceMul, Nat.reduceLT, Nat.reduceLeDiff, Nat.reduceEqDiff, Nat.reduceBEq, Int.reduceLT, Int.reduceLE, Int.reduceToNat, Int.reduceAdd, Int.reduceSub, Int.reduceMul, Int.reduceNeg, Int.reduceEq, reduceCtorEq, eq_self, ne_eq, not_false_eq_true, if_true, reduceIte, Tryz.underlying9])
                | ((first | (refine hK _ ?_; clear hK K) | show thenQ _ _ _ _ | show blockQ _ _ _ _ | show noGoQ _ _ _); simp only [noGoQ, thenQ, blockQ, if_true, Nat.reduceEqDiff, reduceIte])
                | (intro hg; first | (exfalso; omega) | (exfalso; contradiction) | skip)
                | apply And.intro
                | (with_reducible rfl)
                | (clear hK; omega)
                | omega)
            all_goals skip
        · refine calls_abs Tryz.func5 Tryz.ntmps5 Tryz.results5 Tryz.call5 rfl (by simp) fun w0 S0 M0 => ?_
          repeat' (first
              | refine abs_seq ?_
              | refine abs_block ?_
              | refine abs_skip ?_
              | refine abs_scope ?_
              | refine abs_label ?_
              | refine abs_exit ?_
              | refine abs_ret ?_
              | ((first | refine abs_region fun K hK => ?_ | refine abs_draw Tryz.ty.mixed (by kernel_rfl) fun K hK => ?_ | refine abs_if ?_ | show retQ _ _ _ _ _ | refine callK (hsh) ?_ | refine callK (p1) ?_ | refine callK (known_ok) ?_); simp -implicitDefEqProofs only [go_sem, bas, basL, Nat.reduceAdd, Nat.reduceSub, Nat.reduceMul, Nat.reduceLT, Nat.reduceLeDiff, Nat.reduceEqDiff, Nat.reduceBEq, Int.reduceLT, Int.reduceLE, Int.reduceToNat, Int.reduceAdd, Int.reduceSub, Int.reduceMul, Int.reduceNeg, Int.reduceEq, reduceCtorEq, eq_self, ne_eq, not_false_eq_true, if_true, reduceIte, Tryz.underlying9])
              | ((first | (refine hK _ ?_; clear hK K) | show thenQ _ _ _ _ | show blockQ _ _ _ _ | show noGoQ _ _ _); simp only [noGoQ, thenQ, blockQ, if_true, Nat.reduceEqDiff, reduceIte])
              | (intro hg; first | (exfalso; omega) | (exfalso; contradiction) | skip)
              | apply And.intro
              | (with_reducible rfl)
              | (clear hK; omega)
              | omega)
      · refine calls_abs Tryz.func5 Tryz.ntmps5 Tryz.results5 Tryz.call5 rfl (by simp) fun w0 S0 M0 => ?_
        repeat' (first
            | refine abs_seq ?_
            | refine abs_block ?_
            | refine abs_skip ?_
            | refine abs_scope ?_
            | refine abs_label ?_
            | refine abs_exit ?_
            | refine abs_ret ?_
            | ((first | refine abs_region fun K hK => ?_ | refine abs_draw Tryz.ty.mixed (by kernel_rfl) fun K hK => ?_ | refine abs_if ?_ | show retQ _ _ _ _ _ | refine callK (hsh) ?_ | refine callK (known_ok) ?_); simp -implicitDefEqProofs only [go_sem, bas, basL, Nat.reduceAdd, Nat.reduceSub, Nat.reduceMul, Nat.reduceLT, Nat.reduceLeDiff, Nat.reduceEqDiff, Nat.reduceBEq, Int.reduceLT, Int.reduceLE, Int.reduceToNat, Int.reduceAdd, Int.reduceSub, Int.reduceMul, Int.reduceNeg, Int.reduceEq, reduceCtorEq, eq_self, ne_eq, not_false_eq_true, if_true, reduceIte, Tryz.underlying9])
            | ((first | (refine hK _ ?_; clear hK K) | show thenQ _ _ _ _ | show blockQ _ _ _ _ | show noGoQ _ _ _); simp only [noGoQ, thenQ, blockQ, if_true, Nat.reduceEqDiff, reduceIte])
            | (intro hg; first | (exfalso; omega) | (exfalso; contradiction) | skip)
            | apply And.intro
            | (with_reducible rfl)
            | (clear hK; omega)
            | omega)
    · rw [decide_eq_false hs] at hsh
      refine calls_abs Tryz.func5 Tryz.ntmps5 Tryz.results5 Tryz.call5 rfl (by simp) fun w0 S0 M0 => ?_
      repeat' (first
          | refine abs_seq ?_
          | refine abs_block ?_
          | refine abs_skip ?_
          | refine abs_scope ?_
          | refine abs_label ?_
          | refine abs_exit ?_
          | refine abs_ret ?_
          | ((first | refine abs_region fun K hK => ?_ | refine abs_draw Tryz.ty.mixed (by kernel_rfl) fun K hK => ?_ | refine abs_if ?_ | show retQ _ _ _ _ _ | refine callK (hsh) ?_ | refine callK (known_ok) ?_); simp -implicitDefEqProofs only [go_sem, bas, basL, Nat.reduceAdd, Nat.reduceSub, Nat.reduceMul, Nat.reduceLT, Nat.reduceLeDiff, Nat.reduceEqDiff, Nat.reduceBEq, Int.reduceLT, Int.reduceLE, Int.reduceToNat, Int.reduceAdd, Int.reduceSub, Int.reduceMul, Int.reduceNeg, Int.reduceEq, reduceCtorEq, eq_self, ne_eq, not_false_eq_true, if_true, reduceIte, Tryz.underlying9])
          | ((first | (refine hK _ ?_; clear hK K) | show thenQ _ _ _ _ | show blockQ _ _ _ _ | show noGoQ _ _ _); simp only [noGoQ, thenQ, blockQ, if_true, Nat.reduceEqDiff, reduceIte])
          | (intro hg; first | (exfalso; omega) | (exfalso; contradiction) | skip)
          | apply And.intro
          | (with_reducible rfl)
          | (clear hK; omega)
          | omega)
  · refine calls_abs Tryz.func5 Tryz.ntmps5 Tryz.results5 Tryz.call5 rfl (by simp) fun w0 S0 M0 => ?_
    repeat' (first
        | refine abs_seq ?_
        | refine abs_block ?_
        | refine abs_skip ?_
        | refine abs_scope ?_
        | refine abs_label ?_
        | refine abs_exit ?_
        | refine abs_ret ?_
        | ((first | refine abs_region fun K hK => ?_ | refine abs_draw Tryz.ty.mixed (by kernel_rfl) fun K hK => ?_ | refine abs_if ?_ | show retQ _ _ _ _ _ | refine callK (hsh) ?_ | refine callK (known_ok) ?_); simp -implicitDefEqProofs only [go_sem, bas, basL, Nat.reduceAdd, Nat.reduceSub, Nat.reduceMul, Nat.reduceLT, Nat.reduceLeDiff, Nat.reduceEqDiff, Nat.reduceBEq, Int.reduceLT, Int.reduceLE, Int.reduceToNat, Int.reduceAdd, Int.reduceSub, Int.reduceMul, Int.reduceNeg, Int.reduceEq, reduceCtorEq, eq_self, ne_eq, not_false_eq_true, if_true, reduceIte, Tryz.underlying9])
        | ((first | (refine hK _ ?_; clear hK K) | show thenQ _ _ _ _ | show blockQ _ _ _ _ | show noGoQ _ _ _); simp only [noGoQ, thenQ, blockQ, if_true, Nat.reduceEqDiff, reduceIte])
        | (intro hg; first | (exfalso; omega) | (exfalso; contradiction) | skip)
        | apply And.intro
        | (with_reducible rfl)
        | (clear hK; omega)
        | omega)
end Go.Proofs.YtdbiiegohemahaaGreatDoor
