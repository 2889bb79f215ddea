import Derived.Test.YtdbiiegohemahaaGreatDoorAbZ
import Derived.Test.YtdbiiegohemahaaGreatDoorSg
import Derived.Test.YtdbiiegohemahaaGreatDoorSh
import Derived.Test.YtdbiiegohemahaaGreatDoorA3
set_option linter.unusedVariables false
set_option linter.unusedSimpArgs false
namespace Go.Proofs.YtdbiiegohemahaaGreatDoor
open Go.Ab
/-- A contract of a function that writes nothing that lay and returns one string. -/
theorem callsTo_str {f : FuncId} {ds : List D} {b : ByteArray} (hc : ∀ (args : Array Value) (w : World), (callFunc f args).run Tryz.prog w = .ok (.enter f args) w)
    (h : ∀ (S : Addr → Prop) (M : MM) (w : World) (args : List Value), Tab w → Go.Ab.Good w S → args.length = ds.length → (∀ q x, ds[q]? = some x → Rel w ⟨S, [], [], M⟩ (args.getD q Go.undef) x) →
      Calls Tryz.prog f args.toArray w fun e w' => e = .returned (.string b) ∧ Go.RowKit.Below w.heap.size w w') : CallsTo Tryz.prog f ds (.str b) := by
  refine ⟨hc, fun S M w args ht hg hM hl hr => (h S M w args ht hg hl hr).mono ?_⟩
  rintro e w' ⟨rfl, hb⟩
  refine ⟨_, S, M, rfl, ⟨.of hb, fun _ h => h, fun _ h => .inl h, fun _ _ h => h, fun _ _ h => .inl h, fun b f hf => ?_⟩, hg.below hb, .str _ _⟩
  obtain ⟨es, cl, h1, h2⟩ := hM b f hf
  exact ⟨es, cl, (hb.block b (Array.getElem?_eq_some_iff.1 h1).1).trans h1, h2⟩
theorem tab_is {w : World} (h : Tab w) : Lib.TabIs Tryz.prog w "internal/strconv.uint64pow10" .u64 Lib.pow10Tab := by
  obtain ⟨t, fz, e⟩ := h 1 _ rfl
  have hg : Tryz.prog.globalNamed "internal/strconv.uint64pow10" = some 1 := by kernel_rfl
  unfold Lib.TabIs World.var?
  rw [hg]
  simp only [Option.bind_some, e]
def itoa (n : Int) : ByteArray := ⟨(Lib.itoa n).toArray⟩
theorem itoa_ok (n : Int) (h0 : -9223372036854775808 ≤ n) (h1 : n ≤ 9223372036854775807) : CallsTo Tryz.prog 52 [i64 n] (.str (itoa n)) := by
  refine callsTo_str Tryz.call52 fun S M w args ht hg hl hr => ?_
  match args, hl with
  | [a], _ =>
    have h := hr 0 _ rfl
    cases h
    refine (Tryz.strconv_Itoa n h0 h1 w (tab_is ht)).mono ?_
    rintro e w' ⟨rfl, k, os, rfl⟩
    exact ⟨rfl, rfl, rfl, rfl, by simp [Go.Sort.grow], fun i hi => by simp [Go.Sort.grow, Array.getElem?_append_left hi]⟩
theorem flat_str : ∀ xs : List ByteArray, flat (xs.map D.str) = xs.map D.str
  | [] => rfl
  | x :: xs => by show D.cells (.str x) ++ flat (xs.map D.str) = _; rw [flat_str xs]; rfl
def joinB (xs : List ByteArray) (sep : ByteArray) : ByteArray := ⟨(Lib.join (xs.map (·.data.toList)) sep.data.toList).toArray⟩
theorem join_ok (xs : List ByteArray) (sep : ByteArray) (hne : xs ≠ []) (hN : xs.length ≤ 1000) (hlen : (Lib.join (xs.map (·.data.toList)) sep.data.toList).length ≤ 140737488355328) : CallsTo Tryz.prog 73 [.list (xs.map D.str), .str sep] (.str (joinB xs sep)) := by
  refine callsTo_str Tryz.call73 fun S M w args ht hg hl hr => ?_
  match args, hl with
  | [a, b], _ =>
    have h1 := hr 0 _ rfl
    have h2 := hr 1 _ rfl
    simp only [List.getD_cons_zero, List.getD_cons_succ] at h1 h2
    cases h2
    cases h1 with
    | list _ A n c _ sz u hn hsz hcap hm hrl =>
    have hfl := flat_str xs
    rw [hfl] at hm hrl
    have hpos : 0 < xs.length := List.length_pos_iff.2 hne
    obtain ⟨ad, rfl, hc0, _⟩ := hm 0 (by simpa using hpos)
    obtain ⟨bk, o, pt⟩ := ad
    have hp : pt = none := by
      cases pt with
      | none => rfl
      | some p =>
        unfold World.cell? at hc0
        split at hc0 <;> simp [Addr.add] at hc0
    subst hp
    have hn' : n = xs.length := by rw [hn]; simp
    subst hn'
    refine Tryz.strings_Join bk o c xs sep w (fun j x hx => ?_) (World.block_lt_of_cell? w _ hc0) (by omega) hcap hlen
    have hj := (List.getElem?_eq_some_iff.1 hx).1
    obtain ⟨ad2, e2, hc, _⟩ := hm j (by simpa using hj)
    cases e2
    have hv := hrl j (.str x) (by rw [List.getElem?_map, hx]; rfl)
    generalize u j = v at hc hv
    cases hv
    rw [add_block] at hc
    exact hc
abbrev sp : ByteArray := ⟨#[32]⟩
abbrev nl : ByteArray := ⟨#[10]⟩
set_option maxRecDepth 100000 in
set_option maxHeartbeats 4000000 in
theorem line_ok (xs : List ByteArray) (hne : xs ≠ []) (hN : xs.length ≤ 1000) (hlen : (Lib.join (xs.map (·.data.toList)) sp.data.toList).length ≤ 1000000) : CallsTo Tryz.prog 53 [.list (xs.map D.str)] (.str (joinB xs sp ++ nl)) := by
  have hs : (joinB xs sp).size ≤ 1000000 := by show (Lib.join (xs.map (·.data.toList)) sp.data.toList).toArray.size ≤ _; simpa using hlen
  have hs2 : nl.size = 1 := rfl
  refine calls_abs Tryz.func53 Tryz.ntmps53 Tryz.results53 Tryz.call53 rfl (by simp) fun w0 S0 M0 => ?_
  repeat' (first
      | refine abs_seq ?_
      | refine abs_block ?_
      | refine abs_skip ?_
      | refine abs_exit ?_
      | refine abs_ret ?_
      | ((first | refine abs_region fun K hK => ?_ | refine abs_draw Tryz.ty.mixed (by kernel_rfl) fun K hK => ?_ | refine abs_if ?_ | show retQ _ _ _ _ _ | refine callK (join_ok xs sp hne hN (by omega)) ?_); simp -implicitDefEqProofs only [go_sem, bas, basL, Nat.reduceAdd, Nat.reduceSub, Nat.reduceMul, Nat.reduceLT, Nat.reduceLeDiff, Nat.reduceEqDiff, Nat.reduceBEq, Int.reduceLT, Int.reduceLE, Int.reduceToNat, Int.reduceAdd, Int.reduceSub, Int.reduceMul, Int.reduceNeg, Int.reduceEq, reduceCtorEq, eq_self, ne_eq, not_false_eq_true, if_true, reduceIte])
      | ((first | (refine hK _ ?_; clear hK K) | show thenQ _ _ _ _ | show blockQ _ _ _ _); simp only [thenQ, blockQ, if_true, Nat.reduceEqDiff, reduceIte])
      | (intro hg; first | (exfalso; omega) | (exfalso; contradiction) | skip)
      | apply And.intro
      | (with_reducible rfl)
      | (clear hK; omega)
      | omega)
  show (joinB xs sp).size + 1 ≤ _
  omega
end Go.Proofs.YtdbiiegohemahaaGreatDoor
