import Derived.Test.YtmnepfejoneghaaGreatDoorK28
import Derived.Test.YtmnepfejoneghaaGreatDoorK13
set_option linter.unusedVariables false
set_option linter.unusedSimpArgs false
namespace Go.Proofs.YtmnepfejoneghaaGreatDoor
open Go.Ab
attribute [local irreducible] Abs CallK CallR CallsTo CallsB IA
theorem le_refl_of (s : St) : Le s s := ⟨rfl, fun _ => .inr rfl, ⟨[], by simp⟩, ⟨[], by simp⟩⟩
/-- Not done, as what waits for it would be. -/
theorem not_done {l : List Oper} {L : Nat → Bool} (hC : closedL l.toArray L) {j k : Nat} {o : Oper} (ho : l[k]? = some o) (he : o.after.any (fun e => Region.binds .any e && e.on == j) = true) (hj : L j = false) : L k = false := by
  cases h : L k with
  | false => rfl
  | true =>
    obtain ⟨e, he, hb⟩ := Array.any_eq_true'.1 he
    simp only [Bool.and_eq_true, beq_iff_eq] at hb
    have := hC k o (by simpa using ho) h e he hb.1
    rw [hb.2, hj] at this; cases this
def slE (G : D) (n j : Int) (p q : Int) (L : Nat → Bool) : Nat → D := fun m => match m with
  | 4 => .box 1 0
  | 5 => .box 2 0
  | 7 => .box 3 0
  | 10 => G
  | 11 => i64 n
  | 12 => i64 j
  | 16 => bif L 0 then .box 2 0 else .undef
  | 17 => bif L 1 then (bif L 5 then .undef else .own 0) else .undef
  | 18 => bif L 2 then .box 3 0 else .undef
  | 19 => bif L 3 then i64 p else .undef
  | 20 => bif L 4 then .list [i64 p] else .undef
  | 21 => bif L 5 then .own 0 else .undef
  | 22 => bif L 6 then .box 2 1 else .undef
  | 23 => bif L 7 then (bif L 11 then .undef else .own 1) else .undef
  | 24 => bif L 8 then .box 3 1 else .undef
  | 25 => bif L 9 then i64 q else .undef
  | 26 => bif L 10 then .list [i64 q] else .undef
  | 27 => bif L 11 then .own 1 else .undef
  | 28 => bif L 12 then .box 2 0 else .undef
  | 29 => bif L 14 then .box 2 1 else .undef
  | _ => .undef
def rwE (A B : List D) (p q : Int) (L : Nat → Bool) : List Row := [⟨true, 3, 1, bif L 5 then A ++ [i64 p] else A⟩, ⟨true, 3, 1, bif L 11 then B ++ [i64 q] else B⟩]
def bxE (C Z : List D) (p q : Int) (L : Nat → Bool) : List Bx := [.mu C, .mu Z, .mu [bif L 5 then (bif L 13 then .own 0 else .undef) else .own 0, bif L 11 then (bif L 15 then .own 1 else .undef) else .own 1], .mu [i64 p, i64 q]]
def stE (G : List D) (C Z : List D) (A B : List D) (n j p q : Int) (L : Nat → Bool) : St := ⟨32, slE (.list G) n j p q L, bxE C Z p q L, rwE A B p q L⟩
theorem stE_named {C Z : List D} (hC : namesL 4 2 C = true) (hZ : namesL 4 2 Z = true) (G A B : List D) (n j p q : Int) (L : Nat → Bool) : (stE G C Z A B n j p q L).named := by
  refine ⟨fun m => ?_, namesBx_of _ (by
      simp only [stE, bxE]
      cases L 5 <;> cases L 13 <;> cases L 11 <;> cases L 15 <;> simp [namesBx, hC, hZ, namesB, namesL, rwE])⟩
  apply names_of
  simp only [stE, slE]
  split <;> first | rfl | (cases L 0 <;> rfl) | (cases L 1 <;> cases L 5 <;> rfl) | (cases L 2 <;> rfl) | (cases L 3 <;> rfl) | (cases L 4 <;> rfl) | (cases L 5 <;> rfl) | (cases L 6 <;> rfl) | (cases L 7 <;> cases L 11 <;> rfl) | (cases L 8 <;> rfl) | (cases L 9 <;> rfl) | (cases L 10 <;> rfl) | (cases L 11 <;> rfl) | (cases L 12 <;> rfl) | (cases L 14 <;> rfl)
set_option maxRecDepth 100000 in
set_option maxHeartbeats 4000000 in
theorem regE {ops : Array Oper} (hops : ops = opsAt Tryz.f152 5) (w0 : World) (S0 : Addr → Prop) (M0 : MM) (G C Z A B : List D) (n j p q : Int) (hC0 : namesL 4 2 C = true) (hZ0 : namesL 4 2 Z = true) (pC : ∀ r, C.map (purge r) = C) (pZ : ∀ r, Z.map (purge r) = Z) (hA : A.length ≤ 100) (hB : B.length ≤ 100)
    {Q : Exit → St → Prop} (hQ : ∀ L, (∀ j, j < 16 → L j = true) → Q .normal (stE G C Z A B n j p q L)) :
    Abs ⟨Tryz.prog, w0, S0, M0, none, fun b => w0.heap.size ≤ b, []⟩ (.region 5 ops true) Q (stE G C Z A B n j p q (fun _ => false)) := by
  simp only [opsAt, Option.map_some, Option.getD_some, Tryz.f152, codeOps, Nat.reduceBEq, Bool.false_eq_true, if_false, if_true, List.nil_append, List.append_nil, List.cons_append, List.headD_cons, reduceIte, eq_self] at hops
  subst hops
  refine abs_flow (ι := Unit) Tryz.ty.mixed rfl (by kernel_rfl) (fun _ => stE G C Z A B n j p q) (fun _ _ => True) (fun _ L => stE_named hC0 hZ0 _ _ _ _ _ _ _ L) (fun _ _ => Nat.zero_le _) () trivial (le_refl_of _) (fun _ L k o hC _ ho hL hdep => ?_) (fun _ L _ hL => hQ L hL)
  match k, hC, ho, hL, hdep with
  | 0, hC, ho, hL, hdep =>
    simp only [List.getElem?_cons_zero, List.getElem?_cons_succ, Option.some.injEq] at ho; subst ho
    have e5 : slE (.list G) n j p q L 5 = .box 2 0 := by simp only [slE, hL, cond_true, cond_false]
    show stepOp Tryz.prog _ ⟨32, slE (.list G) n j p q L, bxE C Z p q L, rwE A B p q L⟩ _
    simp only [bxE, rwE, hL, cond_true, cond_false]
    (refine withX (@e5) fun hX => ?_; refine simh ?_; clear hX; try exact trivial)
    try simp only [List.length_map]
    repeat' (first | (with_reducible rfl) | omega | (refine ⟨(), trivial, rfl, fun m => ?_, ⟨[], ?_⟩, ⟨[], ?_⟩⟩) | (refine ⟨(), rfl, fun m => ?_, ⟨[], ?_⟩, ⟨[], ?_⟩⟩) | apply And.intro)
    all_goals first
      | (simp only [stE, slE, put, purgeS]; split <;> first | (simp [hL, purge, D.men, menL]; done))
      | (simp [stE, bxE, rwE, hL, purgeB, purge, D.men, menL, pC, pZ]; done)
      | (simp only [stE, bxE, rwE]; cases L 5 <;> cases L 13 <;> cases L 11 <;> cases L 15 <;> simp [hL, purgeB, purge, D.men, menL, pC, pZ]; done)
      | skip
  | 1, hC, ho, hL, hdep =>
    simp only [List.getElem?_cons_zero, List.getElem?_cons_succ, Option.some.injEq] at ho; subst ho
    have d0 : L 0 = true := hdep ⟨0, .data⟩ (by simp) rfl
    have n5 : L 5 = false := not_done hC (k := 5) (j := 1) rfl (by kernel_rfl) hL
    have e16 : slE (.list G) n j p q L 16 = .box 2 0 := by simp only [slE, d0, n5, hL, cond_true, cond_false]
    show stepOp Tryz.prog _ ⟨32, slE (.list G) n j p q L, bxE C Z p q L, rwE A B p q L⟩ _
    simp only [bxE, rwE, d0, n5, hL, cond_true, cond_false]
    (refine withX (@e16) fun hX => ?_; refine simh ?_; clear hX; try exact trivial)
    try simp only [List.length_map]
    repeat' (first | (with_reducible rfl) | omega | (refine ⟨(), trivial, rfl, fun m => ?_, ⟨[], ?_⟩, ⟨[], ?_⟩⟩) | (refine ⟨(), rfl, fun m => ?_, ⟨[], ?_⟩, ⟨[], ?_⟩⟩) | apply And.intro)
    all_goals first
      | (simp only [stE, slE, put, purgeS]; split <;> first | (simp [d0, n5, hL, purge, D.men, menL]; done))
      | (simp [stE, bxE, rwE, d0, n5, hL, purgeB, purge, D.men, menL, pC, pZ]; done)
      | (simp only [stE, bxE, rwE]; cases L 5 <;> cases L 13 <;> cases L 11 <;> cases L 15 <;> simp [d0, n5, hL, purgeB, purge, D.men, menL, pC, pZ]; done)
      | skip
  | 2, hC, ho, hL, hdep =>
    simp only [List.getElem?_cons_zero, List.getElem?_cons_succ, Option.some.injEq] at ho; subst ho
    have e7 : slE (.list G) n j p q L 7 = .box 3 0 := by simp only [slE, hL, cond_true, cond_false]
    show stepOp Tryz.prog _ ⟨32, slE (.list G) n j p q L, bxE C Z p q L, rwE A B p q L⟩ _
    simp only [bxE, rwE, hL, cond_true, cond_false]
    (refine withX (@e7) fun hX => ?_; refine simh ?_; clear hX; try exact trivial)
    try simp only [List.length_map]
    repeat' (first | (with_reducible rfl) | omega | (refine ⟨(), trivial, rfl, fun m => ?_, ⟨[], ?_⟩, ⟨[], ?_⟩⟩) | (refine ⟨(), rfl, fun m => ?_, ⟨[], ?_⟩, ⟨[], ?_⟩⟩) | apply And.intro)
    all_goals first
      | (simp only [stE, slE, put, purgeS]; split <;> first | (simp [hL, purge, D.men, menL]; done))
      | (simp [stE, bxE, rwE, hL, purgeB, purge, D.men, menL, pC, pZ]; done)
      | (simp only [stE, bxE, rwE]; cases L 5 <;> cases L 13 <;> cases L 11 <;> cases L 15 <;> simp [hL, purgeB, purge, D.men, menL, pC, pZ]; done)
      | skip
  | 3, hC, ho, hL, hdep =>
    simp only [List.getElem?_cons_zero, List.getElem?_cons_succ, Option.some.injEq] at ho; subst ho
    have d2 : L 2 = true := hdep ⟨2, .data⟩ (by simp) rfl
    have e18 : slE (.list G) n j p q L 18 = .box 3 0 := by simp only [slE, d2, hL, cond_true, cond_false]
    show stepOp Tryz.prog _ ⟨32, slE (.list G) n j p q L, bxE C Z p q L, rwE A B p q L⟩ _
    simp only [bxE, rwE, d2, hL, cond_true, cond_false]
    (refine withX (@e18) fun hX => ?_; refine simh ?_; clear hX; try exact trivial)
    try simp only [List.length_map]
    repeat' (first | (with_reducible rfl) | omega | (refine ⟨(), trivial, rfl, fun m => ?_, ⟨[], ?_⟩, ⟨[], ?_⟩⟩) | (refine ⟨(), rfl, fun m => ?_, ⟨[], ?_⟩, ⟨[], ?_⟩⟩) | apply And.intro)
    all_goals first
      | (simp only [stE, slE, put, purgeS]; split <;> first | (simp [d2, hL, purge, D.men, menL]; done))
      | (simp [stE, bxE, rwE, d2, hL, purgeB, purge, D.men, menL, pC, pZ]; done)
      | (simp only [stE, bxE, rwE]; cases L 5 <;> cases L 13 <;> cases L 11 <;> cases L 15 <;> simp [d2, hL, purgeB, purge, D.men, menL, pC, pZ]; done)
      | skip
  | 4, hC, ho, hL, hdep =>
    simp only [List.getElem?_cons_zero, List.getElem?_cons_succ, Option.some.injEq] at ho; subst ho
    have d3 : L 3 = true := hdep ⟨3, .data⟩ (by simp) rfl
    have e19 : slE (.list G) n j p q L 19 = i64 p := by simp only [slE, d3, hL, cond_true, cond_false]
    show stepOp Tryz.prog _ ⟨32, slE (.list G) n j p q L, bxE C Z p q L, rwE A B p q L⟩ _
    simp only [bxE, rwE, d3, hL, cond_true, cond_false]
    (refine withX (@e19) fun hX => ?_; refine simh ?_; clear hX; try exact trivial)
    try simp only [List.length_map]
    repeat' (first | (with_reducible rfl) | omega | (refine ⟨(), trivial, rfl, fun m => ?_, ⟨[], ?_⟩, ⟨[], ?_⟩⟩) | (refine ⟨(), rfl, fun m => ?_, ⟨[], ?_⟩, ⟨[], ?_⟩⟩) | apply And.intro)
    all_goals first
      | (simp only [stE, slE, put, purgeS]; split <;> first | (simp [d3, hL, purge, D.men, menL]; done))
      | (simp [stE, bxE, rwE, d3, hL, purgeB, purge, D.men, menL, pC, pZ]; done)
      | (simp only [stE, bxE, rwE]; cases L 5 <;> cases L 13 <;> cases L 11 <;> cases L 15 <;> simp [d3, hL, purgeB, purge, D.men, menL, pC, pZ]; done)
      | skip
  | 5, hC, ho, hL, hdep =>
    simp only [List.getElem?_cons_zero, List.getElem?_cons_succ, Option.some.injEq] at ho; subst ho
    have d1 : L 1 = true := hdep ⟨1, .data⟩ (by simp) rfl
    have d4 : L 4 = true := hdep ⟨4, .data⟩ (by simp) rfl
    have n13 : L 13 = false := not_done hC (k := 13) (j := 5) rfl (by kernel_rfl) hL
    have e17 : slE (.list G) n j p q L 17 = .own 0 := by simp only [slE, d1, d4, n13, hL, cond_true, cond_false]
    have e20 : slE (.list G) n j p q L 20 = .list [i64 p] := by simp only [slE, d1, d4, n13, hL, cond_true, cond_false]
    show stepOp Tryz.prog _ ⟨32, slE (.list G) n j p q L, bxE C Z p q L, rwE A B p q L⟩ _
    simp only [bxE, rwE, d1, d4, n13, hL, cond_true, cond_false]
    (refine withX (And.intro @e17 (@e20)) fun hX => ?_; refine simh ?_; clear hX; try exact trivial)
    try simp only [List.length_map]
    repeat' (first | (with_reducible rfl) | omega | (refine ⟨(), trivial, rfl, fun m => ?_, ⟨[], ?_⟩, ⟨[], ?_⟩⟩) | (refine ⟨(), rfl, fun m => ?_, ⟨[], ?_⟩, ⟨[], ?_⟩⟩) | apply And.intro)
    all_goals first
      | (simp only [stE, slE, put, purgeS]; split <;> first | (simp [d1, d4, n13, hL, purge, D.men, menL]; done))
      | (simp [stE, bxE, rwE, d1, d4, n13, hL, purgeB, purge, D.men, menL, pC, pZ]; done)
      | (simp only [stE, bxE, rwE]; cases L 5 <;> cases L 13 <;> cases L 11 <;> cases L 15 <;> simp [d1, d4, n13, hL, purgeB, purge, D.men, menL, pC, pZ]; done)
      | (simp only [stE, slE, put, purgeS]; split <;> first | (simp [d1, d4, n13, hL, purge, D.men, menL]; done) | (cases L 0 <;> simp [d1, d4, n13, hL, purge, D.men, menL]; done) | (cases L 1 <;> simp [d1, d4, n13, hL, purge, D.men, menL]; done) | (cases L 2 <;> simp [d1, d4, n13, hL, purge, D.men, menL]; done) | (cases L 3 <;> simp [d1, d4, n13, hL, purge, D.men, menL]; done) | (cases L 4 <;> simp [d1, d4, n13, hL, purge, D.men, menL]; done) | (cases L 5 <;> simp [d1, d4, n13, hL, purge, D.men, menL]; done) | (cases L 6 <;> simp [d1, d4, n13, hL, purge, D.men, menL]; done) | (cases L 7 <;> simp [d1, d4, n13, hL, purge, D.men, menL]; done) | (cases L 8 <;> simp [d1, d4, n13, hL, purge, D.men, menL]; done) | (cases L 9 <;> simp [d1, d4, n13, hL, purge, D.men, menL]; done) | (cases L 10 <;> simp [d1, d4, n13, hL, purge, D.men, menL]; done) | (cases L 11 <;> simp [d1, d4, n13, hL, purge, D.men, menL]; done) | (cases L 12 <;> simp [d1, d4, n13, hL, purge, D.men, menL]; done) | (cases L 13 <;> simp [d1, d4, n13, hL, purge, D.men, menL]; done) | (cases L 14 <;> simp [d1, d4, n13, hL, purge, D.men, menL]; done) | (cases L 15 <;> simp [d1, d4, n13, hL, purge, D.men, menL]; done) | (cases L 7 <;> cases L 11 <;> simp [d1, d4, n13, hL, purge, D.men, menL]; done) | (cases L 1 <;> cases L 5 <;> simp [d1, d4, n13, hL, purge, D.men, menL]; done))
      | (simp only [stE, bxE, rwE]; cases L 11 <;> cases L 15 <;> simp [d1, d4, n13, hL, purgeB, purge, D.men, menL, pC, pZ]; done)
      | skip
  | 6, hC, ho, hL, hdep =>
    simp only [List.getElem?_cons_zero, List.getElem?_cons_succ, Option.some.injEq] at ho; subst ho
    have e5 : slE (.list G) n j p q L 5 = .box 2 0 := by simp only [slE, hL, cond_true, cond_false]
    show stepOp Tryz.prog _ ⟨32, slE (.list G) n j p q L, bxE C Z p q L, rwE A B p q L⟩ _
    simp only [bxE, rwE, hL, cond_true, cond_false]
    (refine withX (@e5) fun hX => ?_; refine simh ?_; clear hX; try exact trivial)
    try simp only [List.length_map]
    repeat' (first | (with_reducible rfl) | omega | (refine ⟨(), trivial, rfl, fun m => ?_, ⟨[], ?_⟩, ⟨[], ?_⟩⟩) | (refine ⟨(), rfl, fun m => ?_, ⟨[], ?_⟩, ⟨[], ?_⟩⟩) | apply And.intro)
    all_goals first
      | (simp only [stE, slE, put, purgeS]; split <;> first | (simp [hL, purge, D.men, menL]; done))
      | (simp [stE, bxE, rwE, hL, purgeB, purge, D.men, menL, pC, pZ]; done)
      | (simp only [stE, bxE, rwE]; cases L 5 <;> cases L 13 <;> cases L 11 <;> cases L 15 <;> simp [hL, purgeB, purge, D.men, menL, pC, pZ]; done)
      | skip
  | 7, hC, ho, hL, hdep =>
    simp only [List.getElem?_cons_zero, List.getElem?_cons_succ, Option.some.injEq] at ho; subst ho
    have d6 : L 6 = true := hdep ⟨6, .data⟩ (by simp) rfl
    have n11 : L 11 = false := not_done hC (k := 11) (j := 7) rfl (by kernel_rfl) hL
    have e22 : slE (.list G) n j p q L 22 = .box 2 1 := by simp only [slE, d6, n11, hL, cond_true, cond_false]
    show stepOp Tryz.prog _ ⟨32, slE (.list G) n j p q L, bxE C Z p q L, rwE A B p q L⟩ _
    simp only [bxE, rwE, d6, n11, hL, cond_true, cond_false]
    (refine withX (@e22) fun hX => ?_; refine simh ?_; clear hX; try exact trivial)
    try simp only [List.length_map]
    repeat' (first | (with_reducible rfl) | omega | (refine ⟨(), trivial, rfl, fun m => ?_, ⟨[], ?_⟩, ⟨[], ?_⟩⟩) | (refine ⟨(), rfl, fun m => ?_, ⟨[], ?_⟩, ⟨[], ?_⟩⟩) | apply And.intro)
    all_goals first
      | (simp only [stE, slE, put, purgeS]; split <;> first | (simp [d6, n11, hL, purge, D.men, menL]; done))
      | (simp [stE, bxE, rwE, d6, n11, hL, purgeB, purge, D.men, menL, pC, pZ]; done)
      | (simp only [stE, bxE, rwE]; cases L 5 <;> cases L 13 <;> cases L 11 <;> cases L 15 <;> simp [d6, n11, hL, purgeB, purge, D.men, menL, pC, pZ]; done)
      | skip
  | 8, hC, ho, hL, hdep =>
    simp only [List.getElem?_cons_zero, List.getElem?_cons_succ, Option.some.injEq] at ho; subst ho
    have e7 : slE (.list G) n j p q L 7 = .box 3 0 := by simp only [slE, hL, cond_true, cond_false]
    show stepOp Tryz.prog _ ⟨32, slE (.list G) n j p q L, bxE C Z p q L, rwE A B p q L⟩ _
    simp only [bxE, rwE, hL, cond_true, cond_false]
    (refine withX (@e7) fun hX => ?_; refine simh ?_; clear hX; try exact trivial)
    try simp only [List.length_map]
    repeat' (first | (with_reducible rfl) | omega | (refine ⟨(), trivial, rfl, fun m => ?_, ⟨[], ?_⟩, ⟨[], ?_⟩⟩) | (refine ⟨(), rfl, fun m => ?_, ⟨[], ?_⟩, ⟨[], ?_⟩⟩) | apply And.intro)
    all_goals first
      | (simp only [stE, slE, put, purgeS]; split <;> first | (simp [hL, purge, D.men, menL]; done))
      | (simp [stE, bxE, rwE, hL, purgeB, purge, D.men, menL, pC, pZ]; done)
      | (simp only [stE, bxE, rwE]; cases L 5 <;> cases L 13 <;> cases L 11 <;> cases L 15 <;> simp [hL, purgeB, purge, D.men, menL, pC, pZ]; done)
      | skip
  | 9, hC, ho, hL, hdep =>
    simp only [List.getElem?_cons_zero, List.getElem?_cons_succ, Option.some.injEq] at ho; subst ho
    have d8 : L 8 = true := hdep ⟨8, .data⟩ (by simp) rfl
    have e24 : slE (.list G) n j p q L 24 = .box 3 1 := by simp only [slE, d8, hL, cond_true, cond_false]
    show stepOp Tryz.prog _ ⟨32, slE (.list G) n j p q L, bxE C Z p q L, rwE A B p q L⟩ _
    simp only [bxE, rwE, d8, hL, cond_true, cond_false]
    (refine withX (@e24) fun hX => ?_; refine simh ?_; clear hX; try exact trivial)
    try simp only [List.length_map]
    repeat' (first | (with_reducible rfl) | omega | (refine ⟨(), trivial, rfl, fun m => ?_, ⟨[], ?_⟩, ⟨[], ?_⟩⟩) | (refine ⟨(), rfl, fun m => ?_, ⟨[], ?_⟩, ⟨[], ?_⟩⟩) | apply And.intro)
    all_goals first
      | (simp only [stE, slE, put, purgeS]; split <;> first | (simp [d8, hL, purge, D.men, menL]; done))
      | (simp [stE, bxE, rwE, d8, hL, purgeB, purge, D.men, menL, pC, pZ]; done)
      | (simp only [stE, bxE, rwE]; cases L 5 <;> cases L 13 <;> cases L 11 <;> cases L 15 <;> simp [d8, hL, purgeB, purge, D.men, menL, pC, pZ]; done)
      | skip
  | 10, hC, ho, hL, hdep =>
    simp only [List.getElem?_cons_zero, List.getElem?_cons_succ, Option.some.injEq] at ho; subst ho
    have d9 : L 9 = true := hdep ⟨9, .data⟩ (by simp) rfl
    have e25 : slE (.list G) n j p q L 25 = i64 q := by simp only [slE, d9, hL, cond_true, cond_false]
    show stepOp Tryz.prog _ ⟨32, slE (.list G) n j p q L, bxE C Z p q L, rwE A B p q L⟩ _
    simp only [bxE, rwE, d9, hL, cond_true, cond_false]
    (refine withX (@e25) fun hX => ?_; refine simh ?_; clear hX; try exact trivial)
    try simp only [List.length_map]
    repeat' (first | (with_reducible rfl) | omega | (refine ⟨(), trivial, rfl, fun m => ?_, ⟨[], ?_⟩, ⟨[], ?_⟩⟩) | (refine ⟨(), rfl, fun m => ?_, ⟨[], ?_⟩, ⟨[], ?_⟩⟩) | apply And.intro)
    all_goals first
      | (simp only [stE, slE, put, purgeS]; split <;> first | (simp [d9, hL, purge, D.men, menL]; done))
      | (simp [stE, bxE, rwE, d9, hL, purgeB, purge, D.men, menL, pC, pZ]; done)
      | (simp only [stE, bxE, rwE]; cases L 5 <;> cases L 13 <;> cases L 11 <;> cases L 15 <;> simp [d9, hL, purgeB, purge, D.men, menL, pC, pZ]; done)
      | skip
  | 11, hC, ho, hL, hdep =>
    simp only [List.getElem?_cons_zero, List.getElem?_cons_succ, Option.some.injEq] at ho; subst ho
    have d7 : L 7 = true := hdep ⟨7, .data⟩ (by simp) rfl
    have d10 : L 10 = true := hdep ⟨10, .data⟩ (by simp) rfl
    have n15 : L 15 = false := not_done hC (k := 15) (j := 11) rfl (by kernel_rfl) hL
    have e23 : slE (.list G) n j p q L 23 = .own 1 := by simp only [slE, d7, d10, n15, hL, cond_true, cond_false]
    have e26 : slE (.list G) n j p q L 26 = .list [i64 q] := by simp only [slE, d7, d10, n15, hL, cond_true, cond_false]
    show stepOp Tryz.prog _ ⟨32, slE (.list G) n j p q L, bxE C Z p q L, rwE A B p q L⟩ _
    simp only [bxE, rwE, d7, d10, n15, hL, cond_true, cond_false]
    (refine withX (And.intro @e23 (@e26)) fun hX => ?_; refine simh ?_; clear hX; try exact trivial)
    try simp only [List.length_map]
    repeat' (first | (with_reducible rfl) | omega | (refine ⟨(), trivial, rfl, fun m => ?_, ⟨[], ?_⟩, ⟨[], ?_⟩⟩) | (refine ⟨(), rfl, fun m => ?_, ⟨[], ?_⟩, ⟨[], ?_⟩⟩) | apply And.intro)
    all_goals first
      | (simp only [stE, slE, put, purgeS]; split <;> first | (simp [d7, d10, n15, hL, purge, D.men, menL]; done))
      | (simp [stE, bxE, rwE, d7, d10, n15, hL, purgeB, purge, D.men, menL, pC, pZ]; done)
      | (simp only [stE, bxE, rwE]; cases L 5 <;> cases L 13 <;> cases L 11 <;> cases L 15 <;> simp [d7, d10, n15, hL, purgeB, purge, D.men, menL, pC, pZ]; done)
      | (simp only [stE, slE, put, purgeS]; split <;> first | (simp [d7, d10, n15, hL, purge, D.men, menL]; done) | (cases L 0 <;> simp [d7, d10, n15, hL, purge, D.men, menL]; done) | (cases L 1 <;> simp [d7, d10, n15, hL, purge, D.men, menL]; done) | (cases L 2 <;> simp [d7, d10, n15, hL, purge, D.men, menL]; done) | (cases L 3 <;> simp [d7, d10, n15, hL, purge, D.men, menL]; done) | (cases L 4 <;> simp [d7, d10, n15, hL, purge, D.men, menL]; done) | (cases L 5 <;> simp [d7, d10, n15, hL, purge, D.men, menL]; done) | (cases L 6 <;> simp [d7, d10, n15, hL, purge, D.men, menL]; done) | (cases L 7 <;> simp [d7, d10, n15, hL, purge, D.men, menL]; done) | (cases L 8 <;> simp [d7, d10, n15, hL, purge, D.men, menL]; done) | (cases L 9 <;> simp [d7, d10, n15, hL, purge, D.men, menL]; done) | (cases L 10 <;> simp [d7, d10, n15, hL, purge, D.men, menL]; done) | (cases L 11 <;> simp [d7, d10, n15, hL, purge, D.men, menL]; done) | (cases L 12 <;> simp [d7, d10, n15, hL, purge, D.men, menL]; done) | (cases L 13 <;> simp [d7, d10, n15, hL, purge, D.men, menL]; done) | (cases L 14 <;> simp [d7, d10, n15, hL, purge, D.men, menL]; done) | (cases L 15 <;> simp [d7, d10, n15, hL, purge, D.men, menL]; done) | (cases L 7 <;> cases L 11 <;> simp [d7, d10, n15, hL, purge, D.men, menL]; done) | (cases L 1 <;> cases L 5 <;> simp [d7, d10, n15, hL, purge, D.men, menL]; done))
      | (simp only [stE, bxE, rwE]; cases L 5 <;> cases L 13 <;> simp [d7, d10, n15, hL, purgeB, purge, D.men, menL, pC, pZ]; done)
      | skip
  | 12, hC, ho, hL, hdep =>
    simp only [List.getElem?_cons_zero, List.getElem?_cons_succ, Option.some.injEq] at ho; subst ho
    have e5 : slE (.list G) n j p q L 5 = .box 2 0 := by simp only [slE, hL, cond_true, cond_false]
    show stepOp Tryz.prog _ ⟨32, slE (.list G) n j p q L, bxE C Z p q L, rwE A B p q L⟩ _
    simp only [bxE, rwE, hL, cond_true, cond_false]
    (refine withX (@e5) fun hX => ?_; refine simh ?_; clear hX; try exact trivial)
    try simp only [List.length_map]
    repeat' (first | (with_reducible rfl) | omega | (refine ⟨(), trivial, rfl, fun m => ?_, ⟨[], ?_⟩, ⟨[], ?_⟩⟩) | (refine ⟨(), rfl, fun m => ?_, ⟨[], ?_⟩, ⟨[], ?_⟩⟩) | apply And.intro)
    all_goals first
      | (simp only [stE, slE, put, purgeS]; split <;> first | (simp [hL, purge, D.men, menL]; done))
      | (simp [stE, bxE, rwE, hL, purgeB, purge, D.men, menL, pC, pZ]; done)
      | (simp only [stE, bxE, rwE]; cases L 5 <;> cases L 13 <;> cases L 11 <;> cases L 15 <;> simp [hL, purgeB, purge, D.men, menL, pC, pZ]; done)
      | skip
  | 13, hC, ho, hL, hdep =>
    simp only [List.getElem?_cons_zero, List.getElem?_cons_succ, Option.some.injEq] at ho; subst ho
    have d12 : L 12 = true := hdep ⟨12, .data⟩ (by simp) rfl
    have d5 : L 5 = true := hdep ⟨5, .data⟩ (by simp) rfl
    have e28 : slE (.list G) n j p q L 28 = .box 2 0 := by simp only [slE, d12, d5, hL, cond_true, cond_false]
    have e21 : slE (.list G) n j p q L 21 = .own 0 := by simp only [slE, d12, d5, hL, cond_true, cond_false]
    show stepOp Tryz.prog _ ⟨32, slE (.list G) n j p q L, bxE C Z p q L, rwE A B p q L⟩ _
    simp only [bxE, rwE, d12, d5, hL, cond_true, cond_false]
    (refine withX (And.intro @e28 (@e21)) fun hX => ?_; refine simh ?_; clear hX; try exact trivial)
    try simp only [List.length_map]
    repeat' (first | (with_reducible rfl) | omega | (refine ⟨(), trivial, rfl, fun m => ?_, ⟨[], ?_⟩, ⟨[], ?_⟩⟩) | (refine ⟨(), rfl, fun m => ?_, ⟨[], ?_⟩, ⟨[], ?_⟩⟩) | apply And.intro)
    all_goals first
      | (simp only [stE, slE, put, purgeS]; split <;> first | (simp [d12, d5, hL, purge, D.men, menL]; done))
      | (simp [stE, bxE, rwE, d12, d5, hL, purgeB, purge, D.men, menL, pC, pZ]; done)
      | (simp only [stE, bxE, rwE]; cases L 5 <;> cases L 13 <;> cases L 11 <;> cases L 15 <;> simp [d12, d5, hL, purgeB, purge, D.men, menL, pC, pZ]; done)
      | skip
  | 14, hC, ho, hL, hdep =>
    simp only [List.getElem?_cons_zero, List.getElem?_cons_succ, Option.some.injEq] at ho; subst ho
    have e5 : slE (.list G) n j p q L 5 = .box 2 0 := by simp only [slE, hL, cond_true, cond_false]
    show stepOp Tryz.prog _ ⟨32, slE (.list G) n j p q L, bxE C Z p q L, rwE A B p q L⟩ _
    simp only [bxE, rwE, hL, cond_true, cond_false]
    (refine withX (@e5) fun hX => ?_; refine simh ?_; clear hX; try exact trivial)
    try simp only [List.length_map]
    repeat' (first | (with_reducible rfl) | omega | (refine ⟨(), trivial, rfl, fun m => ?_, ⟨[], ?_⟩, ⟨[], ?_⟩⟩) | (refine ⟨(), rfl, fun m => ?_, ⟨[], ?_⟩, ⟨[], ?_⟩⟩) | apply And.intro)
    all_goals first
      | (simp only [stE, slE, put, purgeS]; split <;> first | (simp [hL, purge, D.men, menL]; done))
      | (simp [stE, bxE, rwE, hL, purgeB, purge, D.men, menL, pC, pZ]; done)
      | (simp only [stE, bxE, rwE]; cases L 5 <;> cases L 13 <;> cases L 11 <;> cases L 15 <;> simp [hL, purgeB, purge, D.men, menL, pC, pZ]; done)
      | skip
  | 15, hC, ho, hL, hdep =>
    simp only [List.getElem?_cons_zero, List.getElem?_cons_succ, Option.some.injEq] at ho; subst ho
    have d14 : L 14 = true := hdep ⟨14, .data⟩ (by simp) rfl
    have d11 : L 11 = true := hdep ⟨11, .data⟩ (by simp) rfl
    have e29 : slE (.list G) n j p q L 29 = .box 2 1 := by simp only [slE, d14, d11, hL, cond_true, cond_false]
    have e27 : slE (.list G) n j p q L 27 = .own 1 := by simp only [slE, d14, d11, hL, cond_true, cond_false]
    show stepOp Tryz.prog _ ⟨32, slE (.list G) n j p q L, bxE C Z p q L, rwE A B p q L⟩ _
    simp only [bxE, rwE, d14, d11, hL, cond_true, cond_false]
    (refine withX (And.intro @e29 (@e27)) fun hX => ?_; refine simh ?_; clear hX; try exact trivial)
    try simp only [List.length_map]
    repeat' (first | (with_reducible rfl) | omega | (refine ⟨(), trivial, rfl, fun m => ?_, ⟨[], ?_⟩, ⟨[], ?_⟩⟩) | (refine ⟨(), rfl, fun m => ?_, ⟨[], ?_⟩, ⟨[], ?_⟩⟩) | apply And.intro)
    all_goals first
      | (simp only [stE, slE, put, purgeS]; split <;> first | (simp [d14, d11, hL, purge, D.men, menL]; done))
      | (simp [stE, bxE, rwE, d14, d11, hL, purgeB, purge, D.men, menL, pC, pZ]; done)
      | (simp only [stE, bxE, rwE]; cases L 5 <;> cases L 13 <;> cases L 11 <;> cases L 15 <;> simp [d14, d11, hL, purgeB, purge, D.men, menL, pC, pZ]; done)
      | skip
  | k + 16, hC, ho, hL, hdep => simp at ho
set_option maxRecDepth 100000 in
set_option maxHeartbeats 4000000 in
theorem wends_ok (S : List (Int × Int)) (R : List (List (Int × Int))) (h : WRd S R) (o : List Nat) (ho : WOrd S o) :
    CallsTo Tryz.prog 152 [.agg (wrC S R), ntD o] (.agg [ints ((wrds R o o.length).map (·.1)), ints ((wrds R o o.length).map (·.2))]) := by
  have hn := h.n
  have hl2 := ho.l
  have c1 := wroads_ok S R h o ho
  have hwl := wrds_len R o o.length
  generalize wrds R o o.length = L at *
  refine calls_abs Tryz.func152 Tryz.ntmps152 Tryz.results152 Tryz.call152 rfl (by simp) fun w0 S0 M0 => ?_
  repeat' (first | refine st1 ?_ | ((first | refine abs_region fun K hK => ?_ | refine abs_draw Tryz.ty.mixed (by kernel_rfl) fun K hK => ?_ | refine abs_if ?_ | show retQ _ _ _ _ _ | refine callK (c1) ?_); (refine sim ?_; try exact trivial)) | ((first | (refine hK _ ?_; clear hK K) | show thenQ _ _ _ _ | show blockQ _ _ _ _ | show noGoQ _ _ _); refine qst ?_) | (intro hg; try exact fin2) | apply And.intro | exact fin | fail)
  refine abs_adoptB 2 0 3 1 _ rfl rfl ?_
  refine abs_adoptB 2 1 3 1 _ rfl rfl ?_
  refine abs_loopN (ι := Nat) (fun j => [(4, .box 1 0), (5, .box 2 0), (10, wpsD L), (11, i64 L.length), (12, i64 j)]) (fun _ => [.mu (wrC S R), .mu [.val (.slice none 0 0), .val (.slice none 0 0)], .mu [.own 0, .own 1]]) (fun j => [⟨true, 3, 1, ((L.take j).map (·.1)).map (D.int .i64)⟩, ⟨true, 3, 1, ((L.take j).map (·.2)).map (D.int .i64)⟩]) (fun j => j ≤ L.length) (fun j => L.length - j) (fun _ _ => ⟨rfl, rfl⟩) 0 (Nat.zero_le _) (le_of rfl (by try (refine sim ?_; try exact trivial); try simp) ⟨_, rfl⟩ ⟨_, rfl⟩) (fun j hj => ?_)
  by_cases hlt : j < L.length
  · have e1 : L.take (j + 1) = L.take j ++ [nth L j] := by
      rw [List.take_add_one, nth_eq L j hlt]; simp [List.getElem?_eq_getElem hlt]
    (refine sim ?_; try exact trivial)
    repeat' (first | (show Abs _ (.region 5 _ true) _ _; refine abs_le (stE (L.map wpD) (wrC S R) [.val (.slice none 0 0), .val (.slice none 0 0)] (((L.take j).map (·.1)).map (D.int .i64)) (((L.take j).map (·.2)).map (D.int .i64)) L.length j (nth L j).1 (nth L j).2 (fun _ => false)) ?_ (stE_named rfl rfl _ _ _ _ _ _ _ _) (Nat.zero_le _) (regE (by rfl) _ _ _ _ _ _ _ _ _ _ _ _ rfl rfl ?_ ?_ ?_ ?_ (fun X hX => ?_))) | (show Abs _ (.region 6 _ _) _ (stE _ _ _ _ _ _ _ _ _ X); refine abs_le (⟨32, ([(4, .box 1 0), (5, .box 2 0), (10, wpsD L), (11, i64 L.length), (12, i64 j)] : List (Nat × D)).foldr (fun p f => put f p.1 p.2) none', [.mu (wrC S R), .mu [.val (.slice none 0 0), .val (.slice none 0 0)], .mu [.own 0, .own 1]], [⟨true, 3, 1, ((L.take j).map (·.1)).map (D.int .i64) ++ [i64 (nth L j).1]⟩, ⟨true, 3, 1, ((L.take j).map (·.2)).map (D.int .i64) ++ [i64 (nth L j).2]⟩]⟩ : St) (le_of rfl (by simp [stE, slE]) ⟨[.mu [i64 (nth L j).1, i64 (nth L j).2]], by simp [stE, bxE, hX]⟩ ⟨[], by simp [stE, rwE, hX]⟩) (named_of rfl rfl) (Nat.zero_le _) ?_; (refine sim ?_; try exact trivial)) | refine st1 ?_ | ((first | refine abs_region fun K hK => ?_ | refine abs_draw Tryz.ty.mixed (by kernel_rfl) fun K hK => ?_ | refine abs_if ?_ | show retQ _ _ _ _ _); (refine sim ?_; try exact trivial)) | ((first | (refine hK _ ?_; clear hK K) | show thenQ _ _ _ _ | show blockQ _ _ _ _ | show noGoQ _ _ _); refine qst ?_) | (intro hg; try exact fin2) | apply And.intro | exact fin | fail)
    all_goals first
      | (show Le _ (stE _ _ _ _ _ _ _ _ _ _); refine ⟨rfl, fun m => ?_, ⟨[], by simp [stE, bxE]⟩, ⟨[], by simp [stE, rwE]⟩⟩; simp only [stE, slE]; split <;> simp [put]; done)
      | (simp [purge, D.men, menL]; done)
      | (simp; omega)
      | exact ⟨j + 1, by omega, by omega, le_of rfl (by try (refine sim ?_; try exact trivial); try simp) ⟨_, rfl⟩ ⟨[], by simp only [e1, List.map_append, List.map_cons, List.map_nil, List.append_nil]⟩⟩
      | trace_state
  · obtain rfl : j = L.length := by omega
    (refine sim ?_; try exact trivial)
    repeat' (first | refine st1 ?_ | ((first | refine abs_region fun K hK => ?_ | refine abs_draw Tryz.ty.mixed (by kernel_rfl) fun K hK => ?_ | refine abs_if ?_ | show retQ _ _ _ _ _); (refine sim ?_; try exact trivial)) | ((first | (refine hK _ ?_; clear hK K) | show thenQ _ _ _ _ | show blockQ _ _ _ _ | show noGoQ _ _ _); refine qst ?_) | (intro hg; try exact fin2) | apply And.intro | exact fin | fail)
    all_goals simp
end Go.Proofs.YtmnepfejoneghaaGreatDoor
