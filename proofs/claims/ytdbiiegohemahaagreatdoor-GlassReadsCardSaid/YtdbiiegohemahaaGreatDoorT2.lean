import Derived.Test.YtdbiiegohemahaaGreatDoorS6
import Derived.Test.YtdbiiegohemahaaGreatDoorPa
set_option linter.unusedVariables false
set_option linter.unusedSimpArgs false
namespace Go.Proofs.YtdbiiegohemahaaGreatDoor
open Go.Ab
/-- A contract of a function that turns nothing and returns a plain value. -/
theorem callsTo_pure {f : FuncId} {ds : List D} {v : Value} {d : D} (hrel : ∀ w g, Rel w g v d) (hc : ∀ (args : Array Value) (w : World), (callFunc f args).run Tryz.prog w = .ok (.enter f args) w)
    (h : ∀ (S : Addr → Prop) (M : MM) (w : World) (args : List Value), args.length = ds.length → (∀ q x, ds[q]? = some x → Rel w ⟨S, [], [], M⟩ (args.getD q Go.undef) x) →
      Calls Tryz.prog f args.toArray w fun e w' => e = .returned v ∧ w' = w) : CallsTo Tryz.prog f ds d := by
  refine ⟨hc, fun S M w args ht hg hM hl hr => (h S M w args hl hr).mono ?_⟩
  rintro e w' ⟨rfl, rfl⟩
  have hb : Go.RowKit.Below w'.heap.size w' w' := ⟨rfl, rfl, rfl, Nat.le_refl _, fun _ _ => rfl⟩
  exact ⟨_, S, M, rfl, ⟨.of hb, fun _ h => h, fun _ h => .inl h, fun _ _ h => h, fun _ _ h => .inl h, hM⟩, hg, hrel _ _⟩
/-- .. of one that returns new strings in a row. -/
theorem callsTo_strs {f : FuncId} {ds : List D} {bs : List ByteArray} {t : TypeId} (hc : ∀ (args : Array Value) (w : World), (callFunc f args).run Tryz.prog w = .ok (.enter f args) w)
    (h : ∀ (S : Addr → Prop) (M : MM) (w : World) (args : List Value), args.length = ds.length → (∀ q x, ds[q]? = some x → Rel w ⟨S, [], [], M⟩ (args.getD q Go.undef) x) →
      Calls Tryz.prog f args.toArray w fun e w' => e = .returned (.slice (some ⟨w.heap.size, 0, none⟩) bs.length bs.length) ∧ w' = w.alloc (.cells (bs.map Value.string).toArray t)) : CallsTo Tryz.prog f ds (.list (bs.map D.str)) := by
  refine ⟨hc, fun S M w args ht hg hM hl hr => (h S M w args hl hr).mono ?_⟩
  rintro e w' ⟨rfl, rfl⟩
  generalize hw : w.alloc (.cells (bs.map Value.string).toArray t) = w'
  have hold : ∀ i, i < w.heap.size → w'.heap[i]? = w.heap[i]? := fun i hi => by
    rw [← hw]; show (w.heap.push _)[i]? = _; rw [Array.getElem?_push, if_neg (Nat.ne_of_lt hi)]
  have hnew : w'.heap[w.heap.size]? = some (.cells (bs.map Value.string).toArray t (0, 0)) := by
    rw [← hw]; show (w.heap.push _)[w.heap.size]? = _; rw [Array.getElem?_push, if_pos rfl]
  have hsz : w'.heap.size = w.heap.size + 1 := by rw [← hw]; show (w.heap.push _).size = _; rw [Array.size_push]
  have hb : Go.RowKit.Below w.heap.size w w' := ⟨by rw [← hw]; rfl, by rw [← hw]; rfl, by rw [← hw]; rfl, by omega, hold⟩
  have hcell : ∀ j, j < bs.length → w'.cell? ⟨w.heap.size, j, none⟩ = some (.string (bs.getD j .empty)) := fun j hj => by
    rw [cell_of_row w' w.heap.size j _ t (0, 0) hnew]; simp [hj]
  refine ⟨_, fun x => S x ∨ ∃ j, j < bs.length ∧ x = ⟨w.heap.size, j, none⟩, M, rfl, ⟨.of hb, fun x h => .inl h, fun x h => ?_, fun _ _ h => h, fun _ _ h => .inl h, fun b f hf => ?_⟩, fun x hx => ?_, ?_⟩
  · rcases h with h | ⟨j, _, rfl⟩
    · exact .inl h
    · exact .inr (Nat.le_refl _)
  · obtain ⟨es, cl, h1, h2⟩ := hM b f hf
    exact ⟨es, cl, (hold b (Array.getElem?_eq_some_iff.1 h1).1).trans h1, h2⟩
  · rcases hx with hx | ⟨j, hj, rfl⟩
    · exact hg.below hb x hx
    · exact ⟨_, hcell j hj⟩
  · have hfl := flat_str bs
    refine .list _ _ _ _ _ 1 (fun q => .string (bs.getD q .empty)) (by simp) (fun x hx => by obtain ⟨y, _, rfl⟩ := List.mem_map.1 hx; rfl) (Nat.le_refl _) (fun q hq => ?_) (fun q d hd => ?_)
    · rw [hfl] at hq
      simp only [List.length_map] at hq
      refine ⟨_, rfl, ?_, .inr ⟨q, hq, ?_⟩, rfl⟩
      · rw [add_block, Nat.zero_add]; exact hcell q hq
      · rw [add_block, Nat.zero_add]
    · rw [hfl, List.getElem?_map, Option.map_eq_some_iff] at hd
      obtain ⟨b, h1, rfl⟩ := hd
      rw [List.getD_eq_getElem?_getD, h1]
      exact .str _ _
theorem trim_ok (s p : ByteArray) : CallsTo Tryz.prog 94 [.str s, .str p] (.str ⟨(Lib.trimPrefix s.data.toList p.data.toList).toArray⟩) := by
  refine callsTo_pure (fun _ _ => .str _ _) Tryz.call94 fun S M w args hl hr => ?_
  match args, hl with
  | [a, b], _ =>
    have h1 := hr 0 _ rfl
    have h2 := hr 1 _ rfl
    simp only [List.getD_cons_zero, List.getD_cons_succ] at h1 h2
    cases h1; cases h2
    exact Tryz.strings_TrimPrefix s p w
theorem contains_ok (s : ByteArray) (c : UInt8) : CallsTo Tryz.prog 77 [.str s, .str ⟨#[c]⟩] (.bool (decide (0 ≤ Lib.indexByte s.data.toList c))) := by
  refine callsTo_pure (fun _ _ => .bool _ _) Tryz.call77 fun S M w args hl hr => ?_
  match args, hl with
  | [a, b], _ =>
    have h1 := hr 0 _ rfl
    have h2 := hr 1 _ rfl
    simp only [List.getD_cons_zero, List.getD_cons_succ] at h1 h2
    cases h1; cases h2
    exact Tryz.strings_Contains_one s c w
theorem index_ok1 (s : ByteArray) (c : UInt8) : CallsTo Tryz.prog 79 [.str s, .str ⟨#[c]⟩] (i64 (Lib.indexByte s.data.toList c)) := by
  refine callsTo_pure (fun _ _ => .int _ _ _) Tryz.call79 fun S M w args hl hr => ?_
  match args, hl with
  | [a, b], _ =>
    have h1 := hr 0 _ rfl
    have h2 := hr 1 _ rfl
    simp only [List.getD_cons_zero, List.getD_cons_succ] at h1 h2
    cases h1; cases h2
    exact Tryz.strings_Index_one s c w
theorem cut_ok (s p : ByteArray) (hs : s.size ≤ 9223372036854775807) : CallsTo Tryz.prog 57 [.str s, .str p] (.tup [.str ⟨(Lib.trimSuffix s.data.toList p.data.toList).toArray⟩, .bool (Lib.hasSuffix s.data.toList p.data.toList)]) := by
  refine callsTo_pure (v := .tuple #[.string ⟨(Lib.trimSuffix s.data.toList p.data.toList).toArray⟩, .bool (Lib.hasSuffix s.data.toList p.data.toList)]) (fun _ _ => .tup _ _ _ rfl fun q d hd => ?_) Tryz.call57 fun S M w args hl hr => ?_
  · match q, hd with
    | 0, hd => cases hd; exact .str _ _
    | 1, hd => cases hd; exact .bool _ _
  · match args, hl with
    | [a, b], _ =>
      have h1 := hr 0 _ rfl
      have h2 := hr 1 _ rfl
      simp only [List.getD_cons_zero, List.getD_cons_succ] at h1 h2
      cases h1; cases h2
      exact Tryz.strings_CutSuffix s p w hs
theorem split_ok (s : ByteArray) (c : UInt8) (hs : s.size < 4294967281) : CallsTo Tryz.prog 59 [.str s, .str ⟨#[c]⟩] (.list ((Go.Sheet.partsB c s).map D.str)) := by
  have hlen : Lib.countB s ⟨#[c]⟩ + 1 = (Go.Sheet.partsB c s).length := by rw [← Go.Sheet.splitB_parts]; exact (Lib.splitB_all ⟨#[c]⟩ (Nat.le_refl _) 0 _ s rfl).symm
  refine callsTo_strs (t := 9) Tryz.call59 fun S M w args hl hr => ?_
  match args, hl with
  | [a, b], _ =>
    have h1 := hr 0 _ rfl
    have h2 := hr 1 _ rfl
    simp only [List.getD_cons_zero, List.getD_cons_succ] at h1 h2
    cases h1; cases h2
    have h := split_any1 Tryz.lays146 (by kernel_rfl) s c w hs
    rw [hlen, Go.Sheet.splitB_parts] at h
    exact h
end Go.Proofs.YtdbiiegohemahaaGreatDoor
set_option linter.unusedVariables false
set_option linter.unusedSimpArgs false
namespace Go.Proofs.YtdbiiegohemahaaGreatDoor
open Go.Ab Go.Sheet
attribute [local irreducible] Abs CallK CallR CallsTo IA
theorem mk_list (l : List UInt8) : (ByteArray.mk l.toArray).data.toList = l := by simp
theorem mk_size (l : List UInt8) : (ByteArray.mk l.toArray).size = l.length := by show l.toArray.size = _; simp
theorem mk_app (x y : List UInt8) : (ByteArray.mk x.toArray) ++ (ByteArray.mk y.toArray) = ⟨(x ++ y).toArray⟩ := by
  apply ByteArray.ext
  rw [ByteArray.data_append]
  simp
theorem mk_toList (l : List UInt8) : (ByteArray.mk l.toArray).toList = l := by rw [Go.Lib.toList_data, mk_list]
theorem mk_inj {x y : List UInt8} (h : (ByteArray.mk x.toArray) = ⟨y.toArray⟩) : x = y := by have := congrArg (fun b : ByteArray => b.data.toList) h; simpa using this
theorem nDig_le : ∀ (k u : Nat), u < 10 ^ (k + 1) → Go.Lib.nDigits u ≤ k + 1
  | 0, u, h => by rw [Go.Lib.nDigits_small (by omega)]; exact Nat.le_refl _
  | k + 1, u, h => by
    by_cases hu : u < 10
    · rw [Go.Lib.nDigits_small hu]; omega
    · rw [Go.Lib.nDigits_big hu]
      have := nDig_le k (u / 10) (by rw [Nat.pow_succ] at h; omega)
      omega
theorem dec_len {u : Nat} (h : u ≤ 99999) : (Go.Lib.decDigits u).length ≤ 5 := by rw [Go.Lib.decDigits_length]; exact nDig_le 4 u (by omega)
theorem dec_pos (u : Nat) : 1 ≤ (Go.Lib.decDigits u).length := by rw [Go.Lib.decDigits_length]; exact Go.Lib.nDigits_pos u
/-- The digits of a number, without its sign. -/
def digB (n : Int) : ByteArray := ⟨(Go.Lib.decDigits n.natAbs).toArray⟩
theorem digB_size (n : Int) : (digB n).size = (Go.Lib.decDigits n.natAbs).length := mk_size _
theorem trim_num (n : Int) : CallsTo Tryz.prog 94 [.str (itoa n), .str ⟨#[45]⟩] (.str (digB n)) := by
  have h := trim_ok (itoa n) ⟨#[45]⟩
  have e : Go.Lib.trimPrefix (itoa n).data.toList (ByteArray.mk #[45]).data.toList = Go.Lib.decDigits n.natAbs := by
    show Go.Lib.trimPrefix (ByteArray.mk (Go.Lib.itoa n).toArray).data.toList [45] = _
    rw [mk_list]
    unfold Go.Lib.trimPrefix Go.Lib.hasPrefix
    by_cases hn : n < 0
    · rw [itoa_minus n hn]; simp [List.isPrefixOf]
    · rw [itoa_head n (by omega)]
      have e2 : n.natAbs = n.toNat := by omega
      rw [e2]
      rw [if_neg]
      intro hp
      cases hd : Go.Lib.decDigits n.toNat with
      | nil => exact dec_ne _ hd
      | cons b l =>
        rw [hd] at hp
        simp only [List.isPrefixOf, Bool.and_true, beq_iff_eq] at hp
        exact dec_no45 n.toNat (by rw [hd, ← hp]; exact List.mem_cons_self ..)
  rw [e] at h
  exact h
set_option maxRecDepth 100000 in
set_option maxHeartbeats 4000000 in
theorem sure_ok (b : Bool) (hb : b = true) (w : ByteArray) : CallsTo Tryz.prog 58 [.bool b, .str w] (resD []) := by
  subst hb
  refine calls_abs Tryz.func58 Tryz.ntmps58 Tryz.results58 Tryz.call58 rfl (by simp) fun w0 S0 M0 => ?_
  repeat' (first | refine abs_seq ?_ | refine abs_block ?_ | refine abs_skip ?_ | refine abs_scope ?_ | refine abs_label ?_ | refine abs_exit ?_ | refine abs_ret ?_ | ((first | refine abs_region fun K hK => ?_ | refine abs_draw Tryz.ty.mixed (by kernel_rfl) fun K hK => ?_ | refine abs_if ?_ | show retQ _ _ _ _ _); simp -implicitDefEqProofs only [go_sem, bas, basL, Nat.reduceAdd, Nat.reduceSub, Nat.reduceMul, Nat.reduceLT, Nat.reduceLeDiff, Nat.reduceEqDiff, Nat.reduceBEq, Int.reduceLT, Int.reduceLE, Int.reduceToNat, Int.reduceAdd, Int.reduceSub, Int.reduceMul, Int.reduceNeg, Int.reduceEq, reduceCtorEq, eq_self, ne_eq, not_false_eq_true, if_true, reduceIte]) | ((first | (refine hK _ ?_; clear hK K) | show thenQ _ _ _ _ | show blockQ _ _ _ _ | show noGoQ _ _ _); simp only [noGoQ, thenQ, blockQ, if_true, Nat.reduceEqDiff, reduceIte]) | (intro hg; first | (exfalso; omega) | (exfalso; contradiction) | skip) | apply And.intro | (with_reducible rfl) | (clear hK; omega) | omega)
  all_goals rfl
theorem val_take {l : List UInt8} {k : Nat} (h : k < l.length) : val (l.take (k + 1)) = 10 * val (l.take k) + (l[k].toNat - 48) := by
  rw [List.take_succ_eq_append_getElem h, val_snoc]
theorem val_lt' : ∀ (l : List UInt8) (acc : Nat), (∀ b ∈ l, isDig b) → l.foldl (fun n b => 10 * n + (b.toNat - 48)) acc + 1 ≤ (acc + 1) * 10 ^ l.length
  | [], acc, _ => by simp
  | b :: l, acc, h => by
    have h2 := h b (List.mem_cons_self ..)
    unfold isDig at h2
    have ih := val_lt' l (10 * acc + (b.toNat - 48)) (fun x hx => h x (List.mem_cons_of_mem _ hx))
    rw [List.foldl_cons, List.length_cons, Nat.pow_succ]
    refine Nat.le_trans ih ?_
    rw [← Nat.mul_assoc, Nat.mul_right_comm]
    exact Nat.mul_le_mul_right _ (by omega)
theorem val_lt (l : List UInt8) (h : ∀ b ∈ l, isDig b) : val l < 10 ^ l.length := by
  have := val_lt' l 0 h
  unfold val; omega
/-- The number that the first digits say. -/
def numK (n : Int) (k : Nat) : Int := ((val ((Go.Lib.decDigits n.natAbs).take k) : Nat) : Int)
theorem dig_eq (n : Int) {k : Nat} (hk : k < (digB n).size) : (digB n)[k]'hk = (Go.Lib.decDigits n.natAbs)[k]'(by rw [← digB_size]; exact hk) := rfl
theorem dig_get (n : Int) {k : Nat} (hk : k < (digB n).size) : isDig ((digB n)[k]'hk) := by
  rw [dig_eq]; exact dec_dig _ _ (List.getElem_mem _)
theorem numK_succ (n : Int) {k : Nat} (hk : k < (digB n).size) : numK n (k + 1) = 10 * numK n k + (((digB n)[k]'hk).toNat - 48 : Int) := by
  have h2 := dig_get n hk
  unfold isDig at h2
  have hl : k < (Go.Lib.decDigits n.natAbs).length := by rw [← digB_size]; exact hk
  have e : (digB n)[k]'hk = (Go.Lib.decDigits n.natAbs)[k]'hl := dig_eq n hk
  unfold numK
  rw [val_take hl, ← e]; omega
theorem numK_bd (n : Int) (h : n.natAbs ≤ 99999) (k : Nat) : 0 ≤ numK n k ∧ numK n k < 100000 := by
  unfold numK
  have h1 := val_lt ((Go.Lib.decDigits n.natAbs).take k) (fun b hb => dec_dig _ b (List.mem_of_mem_take hb))
  have h2 : ((Go.Lib.decDigits n.natAbs).take k).length ≤ 5 := by have := dec_len h; rw [List.length_take]; omega
  have h3 : 10 ^ ((Go.Lib.decDigits n.natAbs).take k).length ≤ 10 ^ 5 := Nat.pow_le_pow_right (by decide) h2
  omega
theorem numK_all (n : Int) : numK n (digB n).size = n.natAbs := by
  unfold numK
  rw [digB_size, List.take_length, val_dec]
theorem digB_ascii (n : Int) : Ascii (digB n) := fun k hk => by have := dig_get n hk; unfold isDig at this; omega
theorem itoa_dig (n : Int) : itoa (n.natAbs : Int) = digB n := by
  unfold itoa digB
  rw [itoa_head _ (by omega)]; simp
set_option maxRecDepth 100000 in
set_option maxHeartbeats 4000000 in
theorem number_ok (n : Int) (h : n.natAbs ≤ 99999) : CallsTo Tryz.prog 78 [.str (itoa n)] (i64 n) := by
  have hd5 : (digB n).size ≤ 5 := by rw [digB_size]; exact dec_len h
  have hd1 : 1 ≤ (digB n).size := by rw [digB_size]; exact dec_pos _
  refine calls_abs Tryz.func78 Tryz.ntmps78 Tryz.results78 Tryz.call78 rfl (by simp) fun w0 S0 M0 => ?_
  refine abs_seq ?_
  refine abs_region fun K hK => ?_
  simp -implicitDefEqProofs only [go_sem, bas, basL, Nat.reduceAdd, Nat.reduceSub, Nat.reduceMul, Nat.reduceLT, Nat.reduceLeDiff, Nat.reduceEqDiff, Nat.reduceBEq, Int.reduceLT, Int.reduceLE, Int.reduceToNat, Int.reduceAdd, Int.reduceSub, Int.reduceMul, Int.reduceNeg, Int.reduceEq, reduceCtorEq, eq_self, ne_eq, not_false_eq_true, if_true, reduceIte]
  refine hK _ ?_; clear hK K; simp only [thenQ]
  refine abs_seq ?_
  refine abs_region fun K hK => ?_
  simp -implicitDefEqProofs only [go_sem, bas, basL, Nat.reduceAdd, Nat.reduceSub, Nat.reduceMul, Nat.reduceLT, Nat.reduceLeDiff, Nat.reduceEqDiff, Nat.reduceBEq, Int.reduceLT, Int.reduceLE, Int.reduceToNat, Int.reduceAdd, Int.reduceSub, Int.reduceMul, Int.reduceNeg, Int.reduceEq, reduceCtorEq, eq_self, ne_eq, not_false_eq_true, if_true, reduceIte]
  refine callK (trim_num n) ?_
  simp -implicitDefEqProofs only [go_sem, bas, basL, Nat.reduceAdd, Nat.reduceSub, Nat.reduceMul, Nat.reduceLT, Nat.reduceLeDiff, Nat.reduceEqDiff, Nat.reduceBEq, Int.reduceLT, Int.reduceLE, Int.reduceToNat, Int.reduceAdd, Int.reduceSub, Int.reduceMul, Int.reduceNeg, Int.reduceEq, reduceCtorEq, eq_self, ne_eq, not_false_eq_true, if_true, reduceIte]
  refine hK _ ?_; clear hK K; simp only [thenQ]
  refine abs_seq ?_
  refine abs_rangeStr (str := digB n) rfl (by kernel_rfl) (digB_ascii n) (by show 9 < 58; decide) (by show 10 < 58; decide) (by show 11 < 58; decide) (by show 12 < 58; decide) (by decide) rfl rfl rfl (fun k => [(0, .str (itoa n)), (3, .str (digB n)), (4, i64 (numK n k))]) (fun k => rfl) (fun B => le_of rfl (by try simp -implicitDefEqProofs only [go_sem, bas, basL, Nat.reduceAdd, Nat.reduceSub, Nat.reduceMul, Nat.reduceLT, Nat.reduceLeDiff, Nat.reduceEqDiff, Nat.reduceBEq, Int.reduceLT, Int.reduceLE, Int.reduceToNat, Int.reduceAdd, Int.reduceSub, Int.reduceMul, Int.reduceNeg, Int.reduceEq, reduceCtorEq, eq_self, ne_eq, not_false_eq_true, if_true, reduceIte]; try simp [numK, val]) ⟨_, rfl⟩ ⟨_, rfl⟩) (fun B k hk w1 S1 M1 o1 => ?_) (fun B => ?_)
  · have hdg := dig_get n hk
    have hsucc := numK_succ n hk
    have hbk := numK_bd n h k
    unfold isDig at hdg
    generalize ((digB n)[k]'hk).toNat = c at *
    show Abs ⟨Tryz.prog, w1, S1, M1, none, o1, []⟩ _ _ _
    simp -implicitDefEqProofs only [go_sem, bas, basL, Nat.reduceAdd, Nat.reduceSub, Nat.reduceMul, Nat.reduceLT, Nat.reduceLeDiff, Nat.reduceEqDiff, Nat.reduceBEq, Int.reduceLT, Int.reduceLE, Int.reduceToNat, Int.reduceAdd, Int.reduceSub, Int.reduceMul, Int.reduceNeg, Int.reduceEq, reduceCtorEq, eq_self, ne_eq, not_false_eq_true, if_true, reduceIte]
    repeat' (first | refine abs_seq ?_ | refine abs_block ?_ | refine abs_skip ?_ | refine abs_scope ?_ | refine abs_label ?_ | refine abs_exit ?_ | refine abs_ret ?_ | ((first | refine abs_region fun K hK => ?_ | refine abs_draw Tryz.ty.mixed (by kernel_rfl) fun K hK => ?_ | refine abs_if ?_ | show retQ _ _ _ _ _ | refine callK (sure_ok _ (by simp <;> omega) _) ?_); simp -implicitDefEqProofs only [go_sem, bas, basL, Nat.reduceAdd, Nat.reduceSub, Nat.reduceMul, Nat.reduceLT, Nat.reduceLeDiff, Nat.reduceEqDiff, Nat.reduceBEq, Int.reduceLT, Int.reduceLE, Int.reduceToNat, Int.reduceAdd, Int.reduceSub, Int.reduceMul, Int.reduceNeg, Int.reduceEq, reduceCtorEq, eq_self, ne_eq, not_false_eq_true, if_true, reduceIte]) | ((first | (refine hK _ ?_; clear hK K) | show thenQ _ _ _ _ | show blockQ _ _ _ _ | show noGoQ _ _ _); simp only [noGoQ, thenQ, blockQ, if_true, Nat.reduceEqDiff, reduceIte]) | (intro hg; first | (exfalso; omega) | (exfalso; contradiction) | skip) | apply And.intro | (with_reducible rfl) | (clear hK; omega) | omega)
    all_goals first | trivial | exact le_of rfl (by try simp -implicitDefEqProofs only [go_sem, bas, basL, Nat.reduceAdd, Nat.reduceSub, Nat.reduceMul, Nat.reduceLT, Nat.reduceLeDiff, Nat.reduceEqDiff, Nat.reduceBEq, Int.reduceLT, Int.reduceLE, Int.reduceToNat, Int.reduceAdd, Int.reduceSub, Int.reduceMul, Int.reduceNeg, Int.reduceEq, reduceCtorEq, eq_self, ne_eq, not_false_eq_true, if_true, reduceIte]; try simp [hsucc]) ⟨_, rfl⟩ ⟨_, rfl⟩
  · simp only [thenQ]
    have e0 : ((digB n).toList == (ByteArray.mk #[]).toList) = false := by
      rw [show (ByteArray.mk #[]).toList = [] from mk_toList [], show (digB n).toList = Go.Lib.decDigits n.natAbs from mk_toList _]
      cases hc : Go.Lib.decDigits n.natAbs with
      | nil => exact absurd hc (dec_ne _)
      | cons _ _ => rfl
    have e1 := numK_all n
    have e2 := itoa_dig n
    by_cases hn : n < 0
    · have e3 : ((itoa n).toList == (digB n).toList) = false := by
        rw [show (itoa n).toList = Go.Lib.itoa n from mk_toList _, show (digB n).toList = Go.Lib.decDigits n.natAbs from mk_toList _, itoa_minus n hn, beq_eq_false_iff_ne]
        intro hh
        exact dec_no45 n.natAbs (by rw [← hh]; exact List.mem_cons_self ..)
      simp -implicitDefEqProofs only [go_sem, bas, basL, Nat.reduceAdd, Nat.reduceSub, Nat.reduceMul, Nat.reduceLT, Nat.reduceLeDiff, Nat.reduceEqDiff, Nat.reduceBEq, Int.reduceLT, Int.reduceLE, Int.reduceToNat, Int.reduceAdd, Int.reduceSub, Int.reduceMul, Int.reduceNeg, Int.reduceEq, reduceCtorEq, eq_self, ne_eq, not_false_eq_true, if_true, reduceIte, e0, e1, e2, e3, beq_self_eq_true, Bool.not_false, Bool.not_true]
      repeat' (first | refine abs_seq ?_ | refine abs_block ?_ | refine abs_skip ?_ | refine abs_scope ?_ | refine abs_label ?_ | refine abs_exit ?_ | refine abs_ret ?_ | ((first | refine abs_region fun K hK => ?_ | refine abs_draw Tryz.ty.mixed (by kernel_rfl) fun K hK => ?_ | refine abs_if ?_ | show retQ _ _ _ _ _ | refine callK (itoa_ok _ (by omega) (by omega)) ?_ | refine callK (sure_ok _ (by simp <;> omega) _) ?_); simp -implicitDefEqProofs only [go_sem, bas, basL, Nat.reduceAdd, Nat.reduceSub, Nat.reduceMul, Nat.reduceLT, Nat.reduceLeDiff, Nat.reduceEqDiff, Nat.reduceBEq, Int.reduceLT, Int.reduceLE, Int.reduceToNat, Int.reduceAdd, Int.reduceSub, Int.reduceMul, Int.reduceNeg, Int.reduceEq, reduceCtorEq, eq_self, ne_eq, not_false_eq_true, if_true, reduceIte, e0, e1, e2, e3, beq_self_eq_true, Bool.not_false, Bool.not_true]) | ((first | (refine hK _ ?_; clear hK K) | show thenQ _ _ _ _ | show blockQ _ _ _ _ | show noGoQ _ _ _); simp only [noGoQ, thenQ, blockQ, if_true, Nat.reduceEqDiff, reduceIte]) | (intro hg; first | (exfalso; omega) | (exfalso; contradiction) | skip) | apply And.intro | (with_reducible rfl) | (clear hK; omega) | omega)
      all_goals exact congrArg (D.int .i64) (by omega)
    · have e3 : itoa n = digB n := by rw [← e2]; congr 1; omega
      simp -implicitDefEqProofs only [go_sem, bas, basL, Nat.reduceAdd, Nat.reduceSub, Nat.reduceMul, Nat.reduceLT, Nat.reduceLeDiff, Nat.reduceEqDiff, Nat.reduceBEq, Int.reduceLT, Int.reduceLE, Int.reduceToNat, Int.reduceAdd, Int.reduceSub, Int.reduceMul, Int.reduceNeg, Int.reduceEq, reduceCtorEq, eq_self, ne_eq, not_false_eq_true, if_true, reduceIte, e0, e1, e2, e3, beq_self_eq_true, Bool.not_false, Bool.not_true]
      repeat' (first | refine abs_seq ?_ | refine abs_block ?_ | refine abs_skip ?_ | refine abs_scope ?_ | refine abs_label ?_ | refine abs_exit ?_ | refine abs_ret ?_ | ((first | refine abs_region fun K hK => ?_ | refine abs_draw Tryz.ty.mixed (by kernel_rfl) fun K hK => ?_ | refine abs_if ?_ | show retQ _ _ _ _ _ | refine callK (itoa_ok _ (by omega) (by omega)) ?_ | refine callK (sure_ok _ (by simp <;> omega) _) ?_); simp -implicitDefEqProofs only [go_sem, bas, basL, Nat.reduceAdd, Nat.reduceSub, Nat.reduceMul, Nat.reduceLT, Nat.reduceLeDiff, Nat.reduceEqDiff, Nat.reduceBEq, Int.reduceLT, Int.reduceLE, Int.reduceToNat, Int.reduceAdd, Int.reduceSub, Int.reduceMul, Int.reduceNeg, Int.reduceEq, reduceCtorEq, eq_self, ne_eq, not_false_eq_true, if_true, reduceIte, e0, e1, e2, e3, beq_self_eq_true, Bool.not_false, Bool.not_true]) | ((first | (refine hK _ ?_; clear hK K) | show thenQ _ _ _ _ | show blockQ _ _ _ _ | show noGoQ _ _ _); simp only [noGoQ, thenQ, blockQ, if_true, Nat.reduceEqDiff, reduceIte]) | (intro hg; first | (exfalso; omega) | (exfalso; contradiction) | skip) | apply And.intro | (with_reducible rfl) | (clear hK; omega) | omega)
      all_goals exact congrArg (D.int .i64) (by omega)
end Go.Proofs.YtdbiiegohemahaaGreatDoor
