import Derived.Test.YthamljpomhjepaaP10
import Derived.Test.YthamljpomhjepaaP11
import Derived.Test.YthamljpomhjepaaAbT
set_option linter.unusedVariables false
set_option linter.unusedSimpArgs false
namespace Go.Proofs.Ythamljpomhjepaa
open Go.Ab
attribute [local irreducible] Abs CallK CallR CallsTo AbsP
set_option linter.unusedSimpArgs false

set_option maxRecDepth 100000 in
set_option maxHeartbeats 4000000 in
theorem plook11_ok (k n : Nat) (c step : Int) (P : List (List Int)) (hn : n < P.length) (hk : k < (nth P n).length) : CallsTo Try.prog 121 [i64 k, .ro [i64 c, i64 step, intss P], .ro [i64 n]] (i64 (nth (nth P n) k)) := by
  refine calls_abs Try.func121 Try.ntmps121 Try.results121 Try.call121 rfl (by simp) fun w0 S0 M0 => ?_
  repeat' (first
      | refine abs_seq ?_
      | refine abs_block ?_
      | refine abs_skip ?_
      | refine abs_exit ?_
      | refine abs_ret ?_
      | ((first | refine abs_region fun K hK => ?_ | refine abs_draw Try.ty.mixed (by kernel_rfl) fun K hK => ?_ | refine abs_if ?_); simp only [go_sem, bas, basL, Nat.reduceAdd, Nat.reduceSub, Nat.reduceMul, Nat.reduceLT, Nat.reduceLeDiff, Nat.reduceEqDiff, Nat.reduceBEq, Int.reduceLT, Int.reduceLE, Int.reduceToNat, Int.reduceAdd, Int.reduceSub, Int.reduceMul, Int.reduceNeg, Int.reduceEq, reduceCtorEq, eq_self, ne_eq, not_false_eq_true, if_true, reduceIte])
      | (refine hK _ ?_; clear hK K; simp only [thenQ, blockQ, if_true, Nat.reduceEqDiff, reduceIte])
      | (show thenQ _ _ _ _; simp only [thenQ, blockQ, if_true, Nat.reduceEqDiff, reduceIte])
      | (show blockQ _ _ _ _; simp only [thenQ, blockQ, if_true, Nat.reduceEqDiff, reduceIte])
      | (show retQ _ _ _ _ _; simp only [go_sem, bas, basL, Nat.reduceAdd, Nat.reduceSub, Nat.reduceMul, Nat.reduceLT, Nat.reduceLeDiff, Nat.reduceEqDiff, Nat.reduceBEq, Int.reduceLT, Int.reduceLE, Int.reduceToNat, Int.reduceAdd, Int.reduceSub, Int.reduceMul, Int.reduceNeg, Int.reduceEq, reduceCtorEq, eq_self, ne_eq, not_false_eq_true, if_true, reduceIte])
      | (intro hg; first | (exfalso; omega) | (exfalso; contradiction) | skip)
      | apply And.intro
      | (with_reducible rfl)
      | (clear hK; omega)
      | omega)

set_option maxRecDepth 100000 in
set_option maxHeartbeats 4000000 in
theorem plook1_ok (n : Nat) (b : List Int) (c step : Int) (P : List (List Int)) (hb : Small b) (hn : n < P.length) (hl : (nth P n).length = b.length) (hp : ∀ k : Nat, -100000 ≤ nth (nth P n) k ∧ nth (nth P n) k ≤ 100000) :
    CallsTo Try.prog 120 [i64 n, .ro [ints b], .ro [i64 c, i64 step, intss P]] (i64 (Ern b (nth P n))) := by
  refine calls_abs Try.func120 Try.ntmps120 Try.results120 Try.call120 rfl (by simp) fun w0 S0 M0 => ?_
  repeat' (first
      | (refine abs_freeze 0 _ _ rfl rfl ?_; simp only [basL, Nat.reduceAdd])
      | refine abs_seq ?_
      | refine abs_block ?_
      | refine abs_skip ?_
      | refine abs_exit ?_
      | refine abs_ret ?_
      | ((first | refine abs_region fun K hK => ?_ | refine abs_draw Try.ty.mixed (by kernel_rfl) fun K hK => ?_ | refine abs_if ?_); simp only [go_sem, bas, basL, Nat.reduceAdd, Nat.reduceSub, Nat.reduceMul, Nat.reduceLT, Nat.reduceLeDiff, Nat.reduceEqDiff, Nat.reduceBEq, Int.reduceLT, Int.reduceLE, Int.reduceToNat, Int.reduceAdd, Int.reduceSub, Int.reduceMul, Int.reduceNeg, Int.reduceEq, reduceCtorEq, eq_self, ne_eq, not_false_eq_true, if_true, reduceIte])
      | (refine hK _ ?_; clear hK K; simp only [thenQ, blockQ, if_true, Nat.reduceEqDiff, reduceIte])
      | (show thenQ _ _ _ _; simp only [thenQ, blockQ, if_true, Nat.reduceEqDiff, reduceIte])
      | (show blockQ _ _ _ _; simp only [thenQ, blockQ, if_true, Nat.reduceEqDiff, reduceIte])
      | (refine callK (weighed_ok b 121 [.ro [i64 c, i64 step, intss P], .ro [i64 n]] (fun k => nth (nth P n) k) ⟨hb.1, fun i => by have := hb.2 i; omega⟩ ⟨fun _ _ => rfl, fun _ _ => rfl⟩ (fun k hk => plook11_ok k n c step P hn (by omega)) (fun k _ => by have := hp k; omega)) ?_; try simp only [go_sem, bas, basL, Nat.reduceAdd, Nat.reduceSub, Nat.reduceMul, Nat.reduceLT, Nat.reduceLeDiff, Nat.reduceEqDiff, Nat.reduceBEq, Int.reduceLT, Int.reduceLE, Int.reduceToNat, Int.reduceAdd, Int.reduceSub, Int.reduceMul, Int.reduceNeg, Int.reduceEq, reduceCtorEq, eq_self, ne_eq, not_false_eq_true, if_true, reduceIte])
      | (show retQ _ _ _ _ _; simp only [go_sem, bas, basL, Nat.reduceAdd, Nat.reduceSub, Nat.reduceMul, Nat.reduceLT, Nat.reduceLeDiff, Nat.reduceEqDiff, Nat.reduceBEq, Int.reduceLT, Int.reduceLE, Int.reduceToNat, Int.reduceAdd, Int.reduceSub, Int.reduceMul, Int.reduceNeg, Int.reduceEq, reduceCtorEq, eq_self, ne_eq, not_false_eq_true, if_true, reduceIte])
      | (intro hg; first | (exfalso; omega) | (exfalso; contradiction) | skip)
      | apply And.intro
      | (with_reducible rfl)
      | (clear hK; omega)
      | omega)
  all_goals rfl

/-- What a table holds: enough rows, each of so many small numbers. -/
def TabOk (c : Int) (Z P : List (List Int)) : Prop := P.length = Z.length ∧ (∀ i, i < Z.length → Small (nth Z i) ∧ ((nth Z i).length : Int) = c) ∧ ∀ i, i < P.length → ((nth P i).length : Int) = c ∧ ∀ k : Nat, -100000 ≤ nth (nth P i) k ∧ nth (nth P i) k ≤ 100000
theorem tab_ok {c step : Int} {P : List (List Int)} (h : Tab c step P) : TabOk c (stm c.toNat step) P := by
  obtain ⟨hc, hs, h5, hl, hb⟩ := h
  refine ⟨hl, fun i hi => ?_, fun i hi => ?_⟩
  · have hm : nth (stm c.toNat step) i ∈ stm c.toNat step := by rw [nth_eq _ i hi]; exact List.getElem_mem hi
    have := stm_parts (c := c.toNat) (step := step) (by omega) hs.1 hm
    exact ⟨this.1.small, by omega⟩
  · have hm : nth P i ∈ P := by rw [nth_eq _ i hi]; exact List.getElem_mem hi
    have h1 : badT c (nth P i) = false := List.any_eq_false.1 hb _ hm |> fun h => by simpa using h
    simp only [badT, Bool.or_eq_false_iff, decide_eq_false_iff_not, ne_eq, Decidable.not_not] at h1
    refine ⟨h1.1, fun k => ?_⟩
    by_cases hk : k < (nth P i).length
    · have hm2 : nth (nth P i) k ∈ nth P i := by rw [nth_eq _ k hk]; exact List.getElem_mem hk
      have := List.any_eq_false.1 h1.2 _ hm2
      simpa using this
    · rw [nth_oob _ k (by omega)]; decide

def gmX (Z : List (List Int)) : List Int := (List.range Z.length).map fun (n : Nat) => (n : Int)
def gmB (Z P : List (List Int)) (i : Nat) : Int × Int := bst (fun x => Ern (nth Z i) (nth P x.toNat)) (gmX Z) (gmX Z).length
def gmO (Z P : List (List Int)) (i : Nat) : Int := Ern (nth Z i) (nth P i)
def gmA (Z P : List (List Int)) (i : Nat) : Bool := decide (gmO Z P i < (gmB Z P i).2)
def gmD (Z P : List (List Int)) (i : Nat) : List D := [ints (nth Z i), ints (nth Z (gmB Z P i).1.toNat), i64 ((gmB Z P i).2 - gmO Z P i)]
/-- Where a table can be gamed first. -/
def gmR (Z P : List (List Int)) : Option Nat := (List.range Z.length).find? (gmA Z P)
theorem gmR_none {Z P : List (List Int)} (h : ∀ i, i < Z.length → gmA Z P i = false) : gmR Z P = none := by
  refine List.find?_eq_none.2 fun i hi => ?_
  rw [h i (List.mem_range.1 hi)]; decide
theorem gmR_some {Z P : List (List Int)} {j : Nat} (hj : j < Z.length) (h : ∀ i, i < j → gmA Z P i = false) (ha : gmA Z P j = true) : gmR Z P = some j := by
  unfold gmR
  rw [List.find?_eq_some_iff_getElem]
  exact ⟨ha, j, by simpa using hj, by simp, fun i hi => by simp [h i hi]⟩
theorem gm_len (Z : List (List Int)) : (gmX Z).length = Z.length := by simp [gmX]
theorem gm_nth (Z : List (List Int)) (i : Nat) (hi : i < Z.length) : nth (gmX Z) i = i := by
  rw [nth_eq _ i (by rw [gm_len]; exact hi)]; simp [gmX]
theorem bst_val' {α : Type} [Inhabited α] (w : α → Int) (l : List α) : ∀ k, (bst w l (k + 1)).2 = w (bst w l (k + 1)).1
  | 0 => by simp [bst]
  | k + 1 => by
    have ih := bst_val' w l k
    rw [bst]
    split
    · rfl
    · exact ih
theorem gmB_ok {Z P : List (List Int)} (i : Nat) (hZ : 0 < Z.length) : (0 ≤ (gmB Z P i).1 ∧ (gmB Z P i).1 < Z.length) ∧ (gmB Z P i).2 = Ern (nth Z i) (nth P (gmB Z P i).1.toNat) := by
  have hl : (gmX Z).length = Z.length - 1 + 1 := by rw [gm_len]; omega
  unfold gmB
  rw [hl]
  have hm := bst_mem (w := fun x : Int => Ern (nth Z i) (nth P x.toNat)) (l := gmX Z) (Z.length - 1) (by rw [gm_len]; omega)
  refine ⟨?_, bst_val' _ _ _⟩
  obtain ⟨n, hn, he⟩ := List.mem_map.1 hm
  have := List.mem_range.1 hn
  rw [← he]; omega
theorem Ern_bd {b p : List Int} (hb : Small b) (hp : ∀ k : Nat, -100000 ≤ nth p k ∧ nth p k ≤ 100000) : -30000000 ≤ Ern b p ∧ Ern b p ≤ 30000000 := by
  have := sumTo_bd (f := fun k => nth b k * nth p k) (lo := -10000000) (hi := 10000000) b.length (fun i _ => by
    have h1 := hb.2 i
    have h2 := hp i
    have h3 := mul_abs (b := nth p i) (B := 100000) h1.1 h1.2 (by omega) (by omega)
    omega)
  have := hb.1
  unfold Ern
  omega

def sl9 (n most own : Int) (b : List Int) (Z : List (List Int)) (L : Nat → Bool) : Nat → D := fun m => match m with
  | 2 => .box 1 0
  | 4 => .box 2 0
  | 6 => i64 n
  | 7 => i64 most
  | 8 => i64 own
  | 35 => bif L 0 then ints b else .undef
  | 36 => bif L 1 then intss Z else .undef
  | 37 => bif L 2 then i64 n else .undef
  | 38 => bif L 3 then .ro [ints (nth Z n.toNat)] else .undef
  | 39 => bif L 4 then ints (nth Z n.toNat) else .undef
  | 40 => bif L 5 then i64 most else .undef
  | 41 => bif L 6 then i64 own else .undef
  | 42 => bif L 7 then i64 (most - own) else .undef
  | 43 => bif L 8 then .agg [ints b, ints (nth Z n.toNat), i64 (most - own)] else .undef
  | _ => .undef
def st9 (n most own : Int) (b : List Int) (Z : List (List Int)) (T : List D) (L : Nat → Bool) : St := ⟨46, sl9 n most own b Z L, [.fz T, .fz [intss Z], .fz [ints b]], []⟩

theorem st9_named (n most own : Int) (b : List Int) (Z : List (List Int)) (T : List D) (L : Nat → Bool) : (st9 n most own b Z T L).named := by
  refine ⟨fun m => ?_, namesBx_of _ rfl⟩
  apply names_of
  simp only [st9, sl9]
  split <;> first | rfl | (cases L 0 <;> rfl) | (cases L 1 <;> rfl) | (cases L 2 <;> rfl) | (cases L 3 <;> rfl) | (cases L 4 <;> rfl) | (cases L 5 <;> rfl) | (cases L 6 <;> rfl) | (cases L 7 <;> rfl) | (cases L 8 <;> rfl)

theorem run_mkIface {P : Program} {t : TypeId} (h : aggO P t = some true) (x : Value) (w : World) : (Instr.makeInterface t x).run P w = .ok (.iface t x) w := by
  unfold aggO at h
  split at h <;> first | (cases h; done) | (rename_i hu; simp [Instr.makeInterface, run_underlying hu])

set_option maxRecDepth 100000 in
set_option maxHeartbeats 4000000 in
theorem look_reg {ops : Array Oper} (hops : ops = opsAt Try.f91 9) (w0 : World) (S0 : Addr → Prop) (M0 : MM) (n most own : Int) (b : List Int) (Z : List (List Int)) (T : List D) (hn : 0 ≤ n ∧ n < Z.length) (hm : -100000000 ≤ most ∧ most ≤ 100000000) (ho : -100000000 ≤ own ∧ own ≤ 100000000)
    (Q : Exit → St → Prop) (Zq : List D → Prop) (hz : Zq [ints b, ints (nth Z n.toNat), i64 (most - own)]) : AbsP ⟨Try.prog, w0, S0, M0, none, fun b => w0.heap.size ≤ b, []⟩ (Code.region 9 ops true) Q 115 Zq (st9 n most own b Z T (fun _ => false)) := by
  simp only [opsAt, Option.map_some, Option.getD_some, Try.f91, codeOps, Nat.reduceBEq, Bool.false_eq_true, if_false, if_true, List.nil_append, List.append_nil, List.cons_append, List.headD_cons, reduceIte, eq_self] at hops
  subst hops
  refine absp_intro fun a w hr => ?_
  refine wpIn_region_flowC Try.ty.mixed (by kernel_rfl) (fun L a w => (L 9 = true → a.eval (.tmp 44) = .iface 115 (a.eval (.tmp 43))) ∧ L 10 = false ∧ R ⟨Try.prog, w0, S0, M0, none, fun b => w0.heap.size ≤ b, []⟩ (st9 n most own b Z T L) a w)
    ⟨fun h => (by cases h), rfl, RG.drewTick hr⟩ (fun L i o hC ho hL hdep a w hI => ?_) (fun L a w hL hI => ?_)
  · match i, hC, ho, hL, hdep with
  | 0, hC, ho, hL, hdep =>
    simp only [List.getElem?_toArray, List.getElem?_cons_zero, List.getElem?_cons_succ, Option.some.injEq] at ho; subst ho
    obtain ⟨h9, h10, hI⟩ := hI
    have n9 : L 9 = false := by
      cases h : L 9 with
      | false => rfl
      | true => have h2 := (hC 8 _ rfl (hC 9 _ rfl h ⟨8, .data⟩ (by simp) rfl) ⟨0, .data⟩ (by simp) rfl); have hL' : L 0 = false := hL; rw [hL'] at h2; cases h2
    have e4 : sl9 n most own b Z L 4 = .box 2 0 := by simp only [sl9]
    refine absp_step (c := ⟨Try.prog, w0, S0, M0, none, fun b => w0.heap.size ≤ b, []⟩) hI (K := fun s' => Le s' (st9 n most own b Z T (fun j => decide (j = 0) || L j))) (by
      show stepOp Try.prog _ ⟨46, sl9 n most own b Z L, [.fz T, .fz [intss Z], .fz [ints b]], []⟩ _
      simp only [go_sem, bas, basL, Nat.reduceAdd, Nat.reduceSub, Nat.reduceMul, Nat.reduceLT, Nat.reduceLeDiff, Nat.reduceEqDiff, Nat.reduceBEq, Int.reduceLT, Int.reduceLE, Int.reduceToNat, Int.reduceAdd, Int.reduceSub, Int.reduceMul, Int.reduceNeg, Int.reduceEq, reduceCtorEq, eq_self, ne_eq, not_false_eq_true, if_true, reduceIte, e4]
      skip
      refine ⟨rfl, fun m => ?_, ⟨[], rfl⟩, ⟨[], rfl⟩⟩
      simp only [st9, sl9, put, St.put]
      split <;> simp) fun s' a' w' hr' hle => ⟨by simp [n9], by simpa using h10, hr'.le hle (st9_named _ _ _ _ _ _ _) (Nat.zero_le _)⟩
  | 1, hC, ho, hL, hdep =>
    simp only [List.getElem?_toArray, List.getElem?_cons_zero, List.getElem?_cons_succ, Option.some.injEq] at ho; subst ho
    obtain ⟨h9, h10, hI⟩ := hI
    have n9 : L 9 = false := by
      cases h : L 9 with
      | false => rfl
      | true => have h2 := (hC 3 _ rfl (hC 4 _ rfl (hC 8 _ rfl (hC 9 _ rfl h ⟨8, .data⟩ (by simp) rfl) ⟨4, .data⟩ (by simp) rfl) ⟨3, .data⟩ (by simp) rfl) ⟨1, .data⟩ (by simp) rfl); have hL' : L 1 = false := hL; rw [hL'] at h2; cases h2
    have e2 : sl9 n most own b Z L 2 = .box 1 0 := by simp only [sl9]
    refine absp_step (c := ⟨Try.prog, w0, S0, M0, none, fun b => w0.heap.size ≤ b, []⟩) hI (K := fun s' => Le s' (st9 n most own b Z T (fun j => decide (j = 1) || L j))) (by
      show stepOp Try.prog _ ⟨46, sl9 n most own b Z L, [.fz T, .fz [intss Z], .fz [ints b]], []⟩ _
      simp only [go_sem, bas, basL, Nat.reduceAdd, Nat.reduceSub, Nat.reduceMul, Nat.reduceLT, Nat.reduceLeDiff, Nat.reduceEqDiff, Nat.reduceBEq, Int.reduceLT, Int.reduceLE, Int.reduceToNat, Int.reduceAdd, Int.reduceSub, Int.reduceMul, Int.reduceNeg, Int.reduceEq, reduceCtorEq, eq_self, ne_eq, not_false_eq_true, if_true, reduceIte, e2]
      skip
      refine ⟨rfl, fun m => ?_, ⟨[], rfl⟩, ⟨[], rfl⟩⟩
      simp only [st9, sl9, put, St.put]
      split <;> simp) fun s' a' w' hr' hle => ⟨by simp [n9], by simpa using h10, hr'.le hle (st9_named _ _ _ _ _ _ _) (Nat.zero_le _)⟩
  | 2, hC, ho, hL, hdep =>
    simp only [List.getElem?_toArray, List.getElem?_cons_zero, List.getElem?_cons_succ, Option.some.injEq] at ho; subst ho
    obtain ⟨h9, h10, hI⟩ := hI
    have n9 : L 9 = false := by
      cases h : L 9 with
      | false => rfl
      | true => have h2 := (hC 3 _ rfl (hC 4 _ rfl (hC 8 _ rfl (hC 9 _ rfl h ⟨8, .data⟩ (by simp) rfl) ⟨4, .data⟩ (by simp) rfl) ⟨3, .data⟩ (by simp) rfl) ⟨2, .data⟩ (by simp) rfl); have hL' : L 2 = false := hL; rw [hL'] at h2; cases h2
    have e6 : sl9 n most own b Z L 6 = i64 n := by simp only [sl9]
    refine absp_step (c := ⟨Try.prog, w0, S0, M0, none, fun b => w0.heap.size ≤ b, []⟩) hI (K := fun s' => Le s' (st9 n most own b Z T (fun j => decide (j = 2) || L j))) (by
      show stepOp Try.prog _ ⟨46, sl9 n most own b Z L, [.fz T, .fz [intss Z], .fz [ints b]], []⟩ _
      simp only [go_sem, bas, basL, Nat.reduceAdd, Nat.reduceSub, Nat.reduceMul, Nat.reduceLT, Nat.reduceLeDiff, Nat.reduceEqDiff, Nat.reduceBEq, Int.reduceLT, Int.reduceLE, Int.reduceToNat, Int.reduceAdd, Int.reduceSub, Int.reduceMul, Int.reduceNeg, Int.reduceEq, reduceCtorEq, eq_self, ne_eq, not_false_eq_true, if_true, reduceIte, e6]
      skip
      refine ⟨rfl, fun m => ?_, ⟨[], rfl⟩, ⟨[], rfl⟩⟩
      simp only [st9, sl9, put, St.put]
      split <;> simp) fun s' a' w' hr' hle => ⟨by simp [n9], by simpa using h10, hr'.le hle (st9_named _ _ _ _ _ _ _) (Nat.zero_le _)⟩
  | 3, hC, ho, hL, hdep =>
    simp only [List.getElem?_toArray, List.getElem?_cons_zero, List.getElem?_cons_succ, Option.some.injEq] at ho; subst ho
    obtain ⟨h9, h10, hI⟩ := hI
    have d1 : L 1 = true := hdep ⟨1, .data⟩ (by simp) rfl
    have d2 : L 2 = true := hdep ⟨2, .data⟩ (by simp) rfl
    have n9 : L 9 = false := by
      cases h : L 9 with
      | false => rfl
      | true => have h2 := (hC 4 _ rfl (hC 8 _ rfl (hC 9 _ rfl h ⟨8, .data⟩ (by simp) rfl) ⟨4, .data⟩ (by simp) rfl) ⟨3, .data⟩ (by simp) rfl); have hL' : L 3 = false := hL; rw [hL'] at h2; cases h2
    have e36 : sl9 n most own b Z L 36 = intss Z := by simp only [sl9, d1, d2, cond_true]
    have e37 : sl9 n most own b Z L 37 = i64 n := by simp only [sl9, d1, d2, cond_true]
    refine absp_step (c := ⟨Try.prog, w0, S0, M0, none, fun b => w0.heap.size ≤ b, []⟩) hI (K := fun s' => Le s' (st9 n most own b Z T (fun j => decide (j = 3) || L j))) (by
      show stepOp Try.prog _ ⟨46, sl9 n most own b Z L, [.fz T, .fz [intss Z], .fz [ints b]], []⟩ _
      simp only [go_sem, bas, basL, Nat.reduceAdd, Nat.reduceSub, Nat.reduceMul, Nat.reduceLT, Nat.reduceLeDiff, Nat.reduceEqDiff, Nat.reduceBEq, Int.reduceLT, Int.reduceLE, Int.reduceToNat, Int.reduceAdd, Int.reduceSub, Int.reduceMul, Int.reduceNeg, Int.reduceEq, reduceCtorEq, eq_self, ne_eq, not_false_eq_true, if_true, reduceIte, e36, e37]
      refine ⟨hn, ?_⟩
      refine ⟨rfl, fun m => ?_, ⟨[], rfl⟩, ⟨[], rfl⟩⟩
      simp only [st9, sl9, put, St.put]
      split <;> simp [d1, d2]) fun s' a' w' hr' hle => ⟨by simp [n9], by simpa using h10, hr'.le hle (st9_named _ _ _ _ _ _ _) (Nat.zero_le _)⟩
  | 4, hC, ho, hL, hdep =>
    simp only [List.getElem?_toArray, List.getElem?_cons_zero, List.getElem?_cons_succ, Option.some.injEq] at ho; subst ho
    obtain ⟨h9, h10, hI⟩ := hI
    have d3 : L 3 = true := hdep ⟨3, .data⟩ (by simp) rfl
    have n9 : L 9 = false := by
      cases h : L 9 with
      | false => rfl
      | true => have h2 := (hC 8 _ rfl (hC 9 _ rfl h ⟨8, .data⟩ (by simp) rfl) ⟨4, .data⟩ (by simp) rfl); have hL' : L 4 = false := hL; rw [hL'] at h2; cases h2
    have e38 : sl9 n most own b Z L 38 = .ro [ints (nth Z n.toNat)] := by simp only [sl9, d3, cond_true]
    refine absp_step (c := ⟨Try.prog, w0, S0, M0, none, fun b => w0.heap.size ≤ b, []⟩) hI (K := fun s' => Le s' (st9 n most own b Z T (fun j => decide (j = 4) || L j))) (by
      show stepOp Try.prog _ ⟨46, sl9 n most own b Z L, [.fz T, .fz [intss Z], .fz [ints b]], []⟩ _
      simp only [go_sem, bas, basL, Nat.reduceAdd, Nat.reduceSub, Nat.reduceMul, Nat.reduceLT, Nat.reduceLeDiff, Nat.reduceEqDiff, Nat.reduceBEq, Int.reduceLT, Int.reduceLE, Int.reduceToNat, Int.reduceAdd, Int.reduceSub, Int.reduceMul, Int.reduceNeg, Int.reduceEq, reduceCtorEq, eq_self, ne_eq, not_false_eq_true, if_true, reduceIte, e38]
      skip
      refine ⟨rfl, fun m => ?_, ⟨[], rfl⟩, ⟨[], rfl⟩⟩
      simp only [st9, sl9, put, St.put]
      split <;> simp [d3]) fun s' a' w' hr' hle => ⟨by simp [n9], by simpa using h10, hr'.le hle (st9_named _ _ _ _ _ _ _) (Nat.zero_le _)⟩
  | 5, hC, ho, hL, hdep =>
    simp only [List.getElem?_toArray, List.getElem?_cons_zero, List.getElem?_cons_succ, Option.some.injEq] at ho; subst ho
    obtain ⟨h9, h10, hI⟩ := hI
    have n9 : L 9 = false := by
      cases h : L 9 with
      | false => rfl
      | true => have h2 := (hC 7 _ rfl (hC 8 _ rfl (hC 9 _ rfl h ⟨8, .data⟩ (by simp) rfl) ⟨7, .data⟩ (by simp) rfl) ⟨5, .data⟩ (by simp) rfl); have hL' : L 5 = false := hL; rw [hL'] at h2; cases h2
    have e7 : sl9 n most own b Z L 7 = i64 most := by simp only [sl9]
    refine absp_step (c := ⟨Try.prog, w0, S0, M0, none, fun b => w0.heap.size ≤ b, []⟩) hI (K := fun s' => Le s' (st9 n most own b Z T (fun j => decide (j = 5) || L j))) (by
      show stepOp Try.prog _ ⟨46, sl9 n most own b Z L, [.fz T, .fz [intss Z], .fz [ints b]], []⟩ _
      simp only [go_sem, bas, basL, Nat.reduceAdd, Nat.reduceSub, Nat.reduceMul, Nat.reduceLT, Nat.reduceLeDiff, Nat.reduceEqDiff, Nat.reduceBEq, Int.reduceLT, Int.reduceLE, Int.reduceToNat, Int.reduceAdd, Int.reduceSub, Int.reduceMul, Int.reduceNeg, Int.reduceEq, reduceCtorEq, eq_self, ne_eq, not_false_eq_true, if_true, reduceIte, e7]
      skip
      refine ⟨rfl, fun m => ?_, ⟨[], rfl⟩, ⟨[], rfl⟩⟩
      simp only [st9, sl9, put, St.put]
      split <;> simp) fun s' a' w' hr' hle => ⟨by simp [n9], by simpa using h10, hr'.le hle (st9_named _ _ _ _ _ _ _) (Nat.zero_le _)⟩
  | 6, hC, ho, hL, hdep =>
    simp only [List.getElem?_toArray, List.getElem?_cons_zero, List.getElem?_cons_succ, Option.some.injEq] at ho; subst ho
    obtain ⟨h9, h10, hI⟩ := hI
    have n9 : L 9 = false := by
      cases h : L 9 with
      | false => rfl
      | true => have h2 := (hC 7 _ rfl (hC 8 _ rfl (hC 9 _ rfl h ⟨8, .data⟩ (by simp) rfl) ⟨7, .data⟩ (by simp) rfl) ⟨6, .data⟩ (by simp) rfl); have hL' : L 6 = false := hL; rw [hL'] at h2; cases h2
    have e8 : sl9 n most own b Z L 8 = i64 own := by simp only [sl9]
    refine absp_step (c := ⟨Try.prog, w0, S0, M0, none, fun b => w0.heap.size ≤ b, []⟩) hI (K := fun s' => Le s' (st9 n most own b Z T (fun j => decide (j = 6) || L j))) (by
      show stepOp Try.prog _ ⟨46, sl9 n most own b Z L, [.fz T, .fz [intss Z], .fz [ints b]], []⟩ _
      simp only [go_sem, bas, basL, Nat.reduceAdd, Nat.reduceSub, Nat.reduceMul, Nat.reduceLT, Nat.reduceLeDiff, Nat.reduceEqDiff, Nat.reduceBEq, Int.reduceLT, Int.reduceLE, Int.reduceToNat, Int.reduceAdd, Int.reduceSub, Int.reduceMul, Int.reduceNeg, Int.reduceEq, reduceCtorEq, eq_self, ne_eq, not_false_eq_true, if_true, reduceIte, e8]
      skip
      refine ⟨rfl, fun m => ?_, ⟨[], rfl⟩, ⟨[], rfl⟩⟩
      simp only [st9, sl9, put, St.put]
      split <;> simp) fun s' a' w' hr' hle => ⟨by simp [n9], by simpa using h10, hr'.le hle (st9_named _ _ _ _ _ _ _) (Nat.zero_le _)⟩
  | 7, hC, ho, hL, hdep =>
    simp only [List.getElem?_toArray, List.getElem?_cons_zero, List.getElem?_cons_succ, Option.some.injEq] at ho; subst ho
    obtain ⟨h9, h10, hI⟩ := hI
    have d5 : L 5 = true := hdep ⟨5, .data⟩ (by simp) rfl
    have d6 : L 6 = true := hdep ⟨6, .data⟩ (by simp) rfl
    have n9 : L 9 = false := by
      cases h : L 9 with
      | false => rfl
      | true => have h2 := (hC 8 _ rfl (hC 9 _ rfl h ⟨8, .data⟩ (by simp) rfl) ⟨7, .data⟩ (by simp) rfl); have hL' : L 7 = false := hL; rw [hL'] at h2; cases h2
    have e40 : sl9 n most own b Z L 40 = i64 most := by simp only [sl9, d5, d6, cond_true]
    have e41 : sl9 n most own b Z L 41 = i64 own := by simp only [sl9, d5, d6, cond_true]
    refine absp_step (c := ⟨Try.prog, w0, S0, M0, none, fun b => w0.heap.size ≤ b, []⟩) hI (K := fun s' => Le s' (st9 n most own b Z T (fun j => decide (j = 7) || L j))) (by
      show stepOp Try.prog _ ⟨46, sl9 n most own b Z L, [.fz T, .fz [intss Z], .fz [ints b]], []⟩ _
      simp only [go_sem, bas, basL, Nat.reduceAdd, Nat.reduceSub, Nat.reduceMul, Nat.reduceLT, Nat.reduceLeDiff, Nat.reduceEqDiff, Nat.reduceBEq, Int.reduceLT, Int.reduceLE, Int.reduceToNat, Int.reduceAdd, Int.reduceSub, Int.reduceMul, Int.reduceNeg, Int.reduceEq, reduceCtorEq, eq_self, ne_eq, not_false_eq_true, if_true, reduceIte, e40, e41]
      refine ⟨by simp only [InR]; omega, ?_⟩
      refine ⟨rfl, fun m => ?_, ⟨[], rfl⟩, ⟨[], rfl⟩⟩
      simp only [st9, sl9, put, St.put]
      split <;> simp [d5, d6]) fun s' a' w' hr' hle => ⟨by simp [n9], by simpa using h10, hr'.le hle (st9_named _ _ _ _ _ _ _) (Nat.zero_le _)⟩
  | 8, hC, ho, hL, hdep =>
    simp only [List.getElem?_toArray, List.getElem?_cons_zero, List.getElem?_cons_succ, Option.some.injEq] at ho; subst ho
    obtain ⟨h9, h10, hI⟩ := hI
    have d0 : L 0 = true := hdep ⟨0, .data⟩ (by simp) rfl
    have d4 : L 4 = true := hdep ⟨4, .data⟩ (by simp) rfl
    have d7 : L 7 = true := hdep ⟨7, .data⟩ (by simp) rfl
    have n9 : L 9 = false := by
      cases h : L 9 with
      | false => rfl
      | true => have h2 := (hC 9 _ rfl h ⟨8, .data⟩ (by simp) rfl); have hL' : L 8 = false := hL; rw [hL'] at h2; cases h2
    have e35 : sl9 n most own b Z L 35 = ints b := by simp only [sl9, d0, d4, d7, cond_true]
    have e39 : sl9 n most own b Z L 39 = ints (nth Z n.toNat) := by simp only [sl9, d0, d4, d7, cond_true]
    have e42 : sl9 n most own b Z L 42 = i64 (most - own) := by simp only [sl9, d0, d4, d7, cond_true]
    refine absp_step (c := ⟨Try.prog, w0, S0, M0, none, fun b => w0.heap.size ≤ b, []⟩) hI (K := fun s' => Le s' (st9 n most own b Z T (fun j => decide (j = 8) || L j))) (by
      show stepOp Try.prog _ ⟨46, sl9 n most own b Z L, [.fz T, .fz [intss Z], .fz [ints b]], []⟩ _
      simp only [go_sem, bas, basL, Nat.reduceAdd, Nat.reduceSub, Nat.reduceMul, Nat.reduceLT, Nat.reduceLeDiff, Nat.reduceEqDiff, Nat.reduceBEq, Int.reduceLT, Int.reduceLE, Int.reduceToNat, Int.reduceAdd, Int.reduceSub, Int.reduceMul, Int.reduceNeg, Int.reduceEq, reduceCtorEq, eq_self, ne_eq, not_false_eq_true, if_true, reduceIte, e35, e39, e42]
      skip
      refine ⟨rfl, fun m => ?_, ⟨[], rfl⟩, ⟨[], rfl⟩⟩
      simp only [st9, sl9, put, St.put]
      split <;> simp [d0, d4, d7]) fun s' a' w' hr' hle => ⟨by simp [n9], by simpa using h10, hr'.le hle (st9_named _ _ _ _ _ _ _) (Nat.zero_le _)⟩
  | 9, hC, ho, hL, hdep =>
    simp only [List.getElem?_toArray, List.getElem?_cons_zero, List.getElem?_cons_succ, Option.some.injEq] at ho; subst ho
    obtain ⟨h9, h10, hI⟩ := hI
    have d8 : L 8 = true := hdep ⟨8, .data⟩ (by simp) rfl
    obtain ⟨g, hg⟩ := hI
    refine ⟨fun _ _ => trivial, ?_⟩
    have hsem : (Oper.semAt Fence.wide.round a.eval ⟨some 44, .makeInterface 115 (.tmp 43), 20, "score.go:302", #[{ on := 8, ground := Go.Ground.data }], none⟩).run Try.prog w = .ok (.value (.iface 115 (a.eval (.tmp 43)))) w := by
      rw [Oper.semAt_eq _ _ _ (by intro cl h; cases h)]
      simp [execOp, run_mkIface Try.ty.ag115]
    rw [hsem, Oper.uponIn_value]
    have hsz : a.tmps.size = 46 := hg.sz
    refine ⟨fun _ => ?_, by simpa using h10, ⟨g, ?_⟩⟩
    · simp [Act.put, Act.eval, hsz]
    · have h2 := RG.put (dst := some 44) (d := .undef) hg (by show (_ : Nat) < 46; decide) (v := .iface 115 (a.eval (.tmp 43))) (.undef _ _)
      have e : St.put (st9 n most own b Z T L) (some 44) .undef = st9 n most own b Z T (fun j => decide (j = 9) || L j) := by
        simp only [St.put, st9]
        congr 1
        funext m
        simp only [put, sl9]
        by_cases hm : m = 44
        · subst hm; rfl
        · rw [if_neg hm]; split <;> simp
      rw [e] at h2
      exact h2
  | 10, hC, ho, hL, hdep =>
    simp only [List.getElem?_toArray, List.getElem?_cons_zero, List.getElem?_cons_succ, Option.some.injEq] at ho; subst ho
    obtain ⟨h9, h10, hI⟩ := hI
    have d9 : L 9 = true := hdep ⟨9, .data⟩ (by simp) rfl
    have d8 : L 8 = true := hC 9 _ rfl d9 ⟨8, .data⟩ (by simp) rfl
    obtain ⟨g, hg⟩ := hI
    refine ⟨fun _ _ => trivial, ?_⟩
    have hsem : (Oper.semAt Fence.wide.round a.eval ⟨none, .panic (.tmp 44), 0, "score.go:302", #[{ on := 9, ground := Go.Ground.data }], none⟩).run Try.prog w = .halt (.panic (.iface 115 (a.eval (.tmp 43)))) w := by
      rw [Oper.semAt_eq _ _ _ (by intro cl h; cases h)]
      simp [execOp, h9 d9, Instr.panic, goPanic]
    rw [hsem, Oper.uponIn_panic]
    refine .inr ⟨a.eval (.tmp 43), _, _, g, rfl, hg, ?_, hz⟩
    have h43 := hg.ev (.tmp 43)
    have e43 : (st9 n most own b Z T L).ev (.tmp 43) = .agg [ints b, ints (nth Z n.toNat), i64 (most - own)] := by show sl9 n most own b Z L 43 = _; simp only [sl9, d8, cond_true]
    rw [e43] at h43
    exact pureD_rel hg h43 rfl
  | i + 11, hC, ho, hL, hdep => simp at ho
  · obtain ⟨_, h10, _⟩ := hI
    have := hL 10 (by decide)
    rw [h10] at this; cases this

theorem absp_le {c : Ctx} {code : Code} {Q : Exit → St → Prop} {s : St} {t : TypeId} {Z : List D → Prop} (s' : St) (hl : Le s s') (hn : s'.named) (hb : c.β0 = []) (h : AbsP c code Q t Z s') : AbsP c code Q t Z s := by
  unfold AbsP at *
  exact fun a w hr => h a w (hr.le hl hn (by rw [hb]; exact Nat.zero_le _))

set_option maxRecDepth 100000 in
set_option maxHeartbeats 4000000 in
theorem plook_ok (c step : Int) (P : List (List Int)) (hT : Tab c step P) : CallsP Try.prog 91 [.agg [i64 c, i64 step, intss P]] 115 ((gmR (stm c.toNat step) P).map (gmD (stm c.toNat step) P)) := by
  have hZ := tab_ok hT
  obtain ⟨hc, hs, h5, hl, hbad⟩ := hT
  have hc23 : c = 2 ∨ c = 3 := by omega
  have hlen := stm_len (c := c.toNat) (step := step) (by omega) hs.1
  have hne : stm c.toNat step ≠ [] := stm_ne hs.1
  have qst := stms_ok c step
  have qco := collect_ok c step hc23 hs.1 hs.2.1 (by omega)
  generalize stm c.toNat step = Z at *
  have hpos : 0 < Z.length := List.length_pos_iff.2 hne
  obtain ⟨z1, z2, z3⟩ := hZ
  have qit := look_iter Z (by omega)
  have qe : ∀ (i n : Nat), i < Z.length → n < Z.length → CallsTo Try.prog 120 [i64 n, .ro [ints (nth Z i)], .ro [i64 c, i64 step, intss P]] (i64 (Ern (nth Z i) (nth P n))) := fun i n hi hn =>
    plook1_ok n (nth Z i) c step P (z2 i hi).1 (by omega) (by have := (z3 n (by omega)).1; have := (z2 i hi).2; omega) (z3 n (by omega)).2
  have qb : ∀ i, i < Z.length → CallsTo Try.prog 122 [.clo 123 [.ro [intss Z]], .clo 120 [.ro [ints (nth Z i)], .ro [i64 c, i64 step, intss P]]] (.tup [i64 (gmB Z P i).1, i64 (gmB Z P i).2]) := fun i hi =>
    best2_ok (gmX Z) 123 [.ro [intss Z]] 120 [.ro [ints (nth Z i)], .ro [i64 c, i64 step, intss P]] (fun x => Ern (nth Z i) (nth P x.toNat)) ⟨fun _ _ => rfl, fun _ _ => rfl⟩ ⟨fun _ _ => rfl, fun _ _ => rfl⟩ qit (fun x hx => by
      obtain ⟨n, hn, rfl⟩ := List.mem_map.1 hx
      exact qe i n hi (List.mem_range.1 hn))
  refine callsP_of_absp Try.func91 Try.ntmps91 Try.results91 Try.call91 rfl (by simp) rfl fun w0 S0 M0 => ?_
  repeat' (first
    | (refine absp_freeze 0 _ _ rfl rfl ?_; simp only [basL, Nat.reduceAdd])
    | (refine absp_freeze 1 _ _ rfl rfl ?_; simp only [basL, Nat.reduceAdd])
    | refine absp_seq ?_
    | refine absp_block ?_
    | refine absp_of (abs_skip ?_)
    | refine absp_of (abs_exit ?_)
    | refine absp_of (abs_ret ?_)
    | (refine absp_if ?_; simp only [go_sem, bas, basL, Nat.reduceAdd, Nat.reduceSub, Nat.reduceMul, Nat.reduceLT, Nat.reduceLeDiff, Nat.reduceEqDiff, Nat.reduceBEq, Int.reduceLT, Int.reduceLE, Int.reduceToNat, Int.reduceAdd, Int.reduceSub, Int.reduceMul, Int.reduceNeg, Int.reduceEq, reduceCtorEq, eq_self, ne_eq, not_false_eq_true, if_true, reduceIte])
    | (refine callK (qst) ?_; try simp only [go_sem, bas, basL, Nat.reduceAdd, Nat.reduceSub, Nat.reduceMul, Nat.reduceLT, Nat.reduceLeDiff, Nat.reduceEqDiff, Nat.reduceBEq, Int.reduceLT, Int.reduceLE, Int.reduceToNat, Int.reduceAdd, Int.reduceSub, Int.reduceMul, Int.reduceNeg, Int.reduceEq, reduceCtorEq, eq_self, ne_eq, not_false_eq_true, if_true, reduceIte])
    | (refine callK (qco) ?_; try simp only [go_sem, bas, basL, Nat.reduceAdd, Nat.reduceSub, Nat.reduceMul, Nat.reduceLT, Nat.reduceLeDiff, Nat.reduceEqDiff, Nat.reduceBEq, Int.reduceLT, Int.reduceLE, Int.reduceToNat, Int.reduceAdd, Int.reduceSub, Int.reduceMul, Int.reduceNeg, Int.reduceEq, reduceCtorEq, eq_self, ne_eq, not_false_eq_true, if_true, reduceIte])
    | (refine absp_of (abs_region fun K hK => ?_); simp only [go_sem, bas, basL, Nat.reduceAdd, Nat.reduceSub, Nat.reduceMul, Nat.reduceLT, Nat.reduceLeDiff, Nat.reduceEqDiff, Nat.reduceBEq, Int.reduceLT, Int.reduceLE, Int.reduceToNat, Int.reduceAdd, Int.reduceSub, Int.reduceMul, Int.reduceNeg, Int.reduceEq, reduceCtorEq, eq_self, ne_eq, not_false_eq_true, if_true, reduceIte])
    | (refine hK _ ?_; clear hK K; simp only [thenQ, blockQ, if_true, Nat.reduceEqDiff, reduceIte])
    | (show thenQ _ _ _ _; simp only [thenQ, blockQ, if_true, Nat.reduceEqDiff, reduceIte])
    | (show blockQ _ _ _ _; simp only [thenQ, blockQ, if_true, Nat.reduceEqDiff, reduceIte])
    | (intro hg; first | (exfalso; omega) | (exfalso; contradiction) | skip)
    | apply And.intro
    | (with_reducible rfl)
    | (clear hK; omega)
    | omega)
  refine absp_loopN (ι := Nat) (fun j => [(1, .box 0 0), (2, .box 1 0), (15, intss Z), (16, i64 Z.length), (17, i64 j)]) (fun _ => [.fz [i64 c, i64 step, intss P], .fz [intss Z]]) (fun _ => [])
    (fun j => j ≤ Z.length ∧ ∀ i, i < j → gmA Z P i = false) (fun j => Z.length - j) (fun _ _ => ⟨rfl, rfl⟩) 0 ⟨Nat.zero_le _, fun i hi => by omega⟩ (le_of rfl (by try simp only [go_sem, bas, basL, Nat.reduceAdd, Nat.reduceSub, Nat.reduceMul, Nat.reduceLT, Nat.reduceLeDiff, Nat.reduceEqDiff, Nat.reduceBEq, Int.reduceLT, Int.reduceLE, Int.reduceToNat, Int.reduceAdd, Int.reduceSub, Int.reduceMul, Int.reduceNeg, Int.reduceEq, reduceCtorEq, eq_self, ne_eq, not_false_eq_true, if_true, reduceIte]; try simp) ⟨_, rfl⟩ ⟨_, rfl⟩) (fun j hj => ?_) rfl
  obtain ⟨hj, hjA⟩ := hj
  simp only [go_sem, bas, basL, Nat.reduceAdd, Nat.reduceSub, Nat.reduceMul, Nat.reduceLT, Nat.reduceLeDiff, Nat.reduceEqDiff, Nat.reduceBEq, Int.reduceLT, Int.reduceLE, Int.reduceToNat, Int.reduceAdd, Int.reduceSub, Int.reduceMul, Int.reduceNeg, Int.reduceEq, reduceCtorEq, eq_self, ne_eq, not_false_eq_true, if_true, reduceIte]
  by_cases hjl : j < Z.length
  · have q1 := qb j hjl
    have q2 := qe j j hjl hjl
    have hB := gmB_ok (P := P) j hpos
    have hbd := Ern_bd (z2 j hjl).1 (z3 (gmB Z P j).1.toNat (by omega)).2
    have hbo := Ern_bd (z2 j hjl).1 (z3 j (by omega)).2
    rw [← hB.2] at hbd
    repeat' (first
      | (refine absp_freeze 2 _ _ rfl rfl ?_; simp only [basL, Nat.reduceAdd])
      | refine absp_seq ?_
      | refine absp_block ?_
      | refine absp_of (abs_skip ?_)
      | refine absp_of (abs_exit ?_)
      | refine absp_of (abs_ret ?_)
      | (refine absp_if ?_; simp only [go_sem, bas, basL, Nat.reduceAdd, Nat.reduceSub, Nat.reduceMul, Nat.reduceLT, Nat.reduceLeDiff, Nat.reduceEqDiff, Nat.reduceBEq, Int.reduceLT, Int.reduceLE, Int.reduceToNat, Int.reduceAdd, Int.reduceSub, Int.reduceMul, Int.reduceNeg, Int.reduceEq, reduceCtorEq, eq_self, ne_eq, not_false_eq_true, if_true, reduceIte])
      | (refine callK (q1) ?_; try simp only [go_sem, bas, basL, Nat.reduceAdd, Nat.reduceSub, Nat.reduceMul, Nat.reduceLT, Nat.reduceLeDiff, Nat.reduceEqDiff, Nat.reduceBEq, Int.reduceLT, Int.reduceLE, Int.reduceToNat, Int.reduceAdd, Int.reduceSub, Int.reduceMul, Int.reduceNeg, Int.reduceEq, reduceCtorEq, eq_self, ne_eq, not_false_eq_true, if_true, reduceIte])
      | (refine callK (q2) ?_; try simp only [go_sem, bas, basL, Nat.reduceAdd, Nat.reduceSub, Nat.reduceMul, Nat.reduceLT, Nat.reduceLeDiff, Nat.reduceEqDiff, Nat.reduceBEq, Int.reduceLT, Int.reduceLE, Int.reduceToNat, Int.reduceAdd, Int.reduceSub, Int.reduceMul, Int.reduceNeg, Int.reduceEq, reduceCtorEq, eq_self, ne_eq, not_false_eq_true, if_true, reduceIte])
      | (refine absp_of (abs_region fun K hK => ?_); simp only [go_sem, bas, basL, Nat.reduceAdd, Nat.reduceSub, Nat.reduceMul, Nat.reduceLT, Nat.reduceLeDiff, Nat.reduceEqDiff, Nat.reduceBEq, Int.reduceLT, Int.reduceLE, Int.reduceToNat, Int.reduceAdd, Int.reduceSub, Int.reduceMul, Int.reduceNeg, Int.reduceEq, reduceCtorEq, eq_self, ne_eq, not_false_eq_true, if_true, reduceIte])
      | (refine hK _ ?_; clear hK K; simp only [thenQ, blockQ, if_true, Nat.reduceEqDiff, reduceIte])
      | (show thenQ _ _ _ _; simp only [thenQ, blockQ, if_true, Nat.reduceEqDiff, reduceIte])
      | (show blockQ _ _ _ _; simp only [thenQ, blockQ, if_true, Nat.reduceEqDiff, reduceIte])
      | (intro hg; first | (exfalso; omega) | (exfalso; contradiction) | skip)
      | apply And.intro
      | (with_reducible rfl)
      | (clear hK; omega)
      | omega)
    · have hgt := hg
      refine absp_le (st9 (gmB Z P j).1 (gmB Z P j).2 (Ern (nth Z j) (nth P j)) (nth Z j) Z [i64 c, i64 step, intss P] (fun _ => false)) ⟨rfl, fun m => by
        simp only [st9, sl9, cond_false]
        split <;> first | exact .inl rfl | exact .inr rfl, ⟨[], rfl⟩, ⟨[], rfl⟩⟩ (st9_named _ _ _ _ _ _ _) rfl ?_
      refine look_reg (by kernel_rfl) w0 S0 M0 (gmB Z P j).1 (gmB Z P j).2 (Ern (nth Z j) (nth P j)) (nth Z j) Z [i64 c, i64 step, intss P] hB.1 (by omega) (by omega) _ _ ?_
      rw [gmR_some hjl hjA (by have h9 := hgt; first | exact decide_eq_true h9 | (simp at h9; exact decide_eq_true h9))]
      rfl
    · have hle := hg
      refine ⟨j + 1, ⟨by omega, fun i hi => ?_⟩, by omega, ?_⟩
      · rcases Nat.lt_succ_iff_lt_or_eq.1 hi with h | rfl
        · exact hjA i h
        · have h9 := hle; simp at h9; exact decide_eq_false (by unfold gmO; omega)
      · exact le_of rfl (by try simp only [go_sem, bas, basL, Nat.reduceAdd, Nat.reduceSub, Nat.reduceMul, Nat.reduceLT, Nat.reduceLeDiff, Nat.reduceEqDiff, Nat.reduceBEq, Int.reduceLT, Int.reduceLE, Int.reduceToNat, Int.reduceAdd, Int.reduceSub, Int.reduceMul, Int.reduceNeg, Int.reduceEq, reduceCtorEq, eq_self, ne_eq, not_false_eq_true, if_true, reduceIte]; try simp) ⟨[_], rfl⟩ ⟨_, rfl⟩
  · obtain rfl : j = Z.length := by omega
    repeat' (first
      | refine absp_seq ?_
      | refine absp_block ?_
      | refine absp_of (abs_skip ?_)
      | refine absp_of (abs_exit ?_)
      | refine absp_of (abs_ret ?_)
      | (refine absp_if ?_; simp only [go_sem, bas, basL, Nat.reduceAdd, Nat.reduceSub, Nat.reduceMul, Nat.reduceLT, Nat.reduceLeDiff, Nat.reduceEqDiff, Nat.reduceBEq, Int.reduceLT, Int.reduceLE, Int.reduceToNat, Int.reduceAdd, Int.reduceSub, Int.reduceMul, Int.reduceNeg, Int.reduceEq, reduceCtorEq, eq_self, ne_eq, not_false_eq_true, if_true, reduceIte])
      | (refine absp_of (abs_region fun K hK => ?_); simp only [go_sem, bas, basL, Nat.reduceAdd, Nat.reduceSub, Nat.reduceMul, Nat.reduceLT, Nat.reduceLeDiff, Nat.reduceEqDiff, Nat.reduceBEq, Int.reduceLT, Int.reduceLE, Int.reduceToNat, Int.reduceAdd, Int.reduceSub, Int.reduceMul, Int.reduceNeg, Int.reduceEq, reduceCtorEq, eq_self, ne_eq, not_false_eq_true, if_true, reduceIte])
      | (refine hK _ ?_; clear hK K; simp only [thenQ, blockQ, if_true, Nat.reduceEqDiff, reduceIte])
      | (show thenQ _ _ _ _; simp only [thenQ, blockQ, if_true, Nat.reduceEqDiff, reduceIte])
      | (show blockQ _ _ _ _; simp only [thenQ, blockQ, if_true, Nat.reduceEqDiff, reduceIte])
      | (intro hg; first | (exfalso; omega) | (exfalso; contradiction) | skip)
      | apply And.intro
      | (with_reducible rfl)
      | (clear hK; omega)
      | omega)
    · exact .inl trivial
    · rw [gmR_none hjA]; rfl
end Go.Proofs.Ythamljpomhjepaa
