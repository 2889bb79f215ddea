import Derived.Test.YtmnepfejoneghaaGreatDoorK32
import Derived.Test.YtmnepfejoneghaaGreatDoorK29
import Derived.Test.YtmnepfejoneghaaGreatDoorK14
set_option linter.unusedVariables false
set_option linter.unusedSimpArgs false
namespace Go.Proofs.YtmnepfejoneghaaGreatDoor
open Go.Ab Go.Watch
attribute [local irreducible] Abs CallK CallR CallsTo CallsB IA
def slF (y l : List Rdg) (A B : List D) (odds M : Int) (j : Nat) (L : Nat → Bool) : Nat → D := fun m => match m with
  | 3 => i64 odds
  | 11 => .list (l.map rdD)
  | 14 => i64 M
  | 18 => .list (y.map rdD)
  | 20 => .box 0 0
  | 21 => i64 j
  | 154 => bif L 0 then .box 0 2 else .undef
  | 155 => bif L 1 then (bif L 9 then .undef else .own 0) else .undef
  | 156 => bif L 2 then .list (y.map rdD) else .undef
  | 157 => bif L 3 then i64 j else .undef
  | 158 => bif L 4 then .ro [i64 (nth y j).day, i64 (nth y j).min, i64 (nth y j).clk, i64 (nth y j).mer, i64 (nth y j).al, i64 (nth y j).ah, i64 (nth y j).dl, i64 (nth y j).dh, i64 (nth y j).wl, i64 (nth y j).wh] else .undef
  | 159 => bif L 5 then .ro [i64 (nth y j).mer, i64 (nth y j).al, i64 (nth y j).ah, i64 (nth y j).dl, i64 (nth y j).dh, i64 (nth y j).wl, i64 (nth y j).wh] else .undef
  | 160 => bif L 6 then i64 (nth y j).mer else .undef
  | 161 => bif L 7 then i64 ((nth y j).mer % 10) else .undef
  | 162 => bif L 8 then .list [i64 ((nth y j).mer % 10)] else .undef
  | 163 => bif L 9 then .own 0 else .undef
  | 164 => bif L 10 then .box 0 3 else .undef
  | 165 => bif L 11 then (bif L 19 then .undef else .own 1) else .undef
  | 166 => bif L 12 then .list (l.map rdD) else .undef
  | 167 => bif L 13 then i64 j else .undef
  | 168 => bif L 14 then .ro [i64 (nth l j).day, i64 (nth l j).min, i64 (nth l j).clk, i64 (nth l j).mer, i64 (nth l j).al, i64 (nth l j).ah, i64 (nth l j).dl, i64 (nth l j).dh, i64 (nth l j).wl, i64 (nth l j).wh] else .undef
  | 169 => bif L 15 then .ro [i64 (nth l j).mer, i64 (nth l j).al, i64 (nth l j).ah, i64 (nth l j).dl, i64 (nth l j).dh, i64 (nth l j).wl, i64 (nth l j).wh] else .undef
  | 170 => bif L 16 then i64 (nth l j).mer else .undef
  | 171 => bif L 17 then i64 ((nth l j).mer % 10) else .undef
  | 172 => bif L 18 then .list [i64 ((nth l j).mer % 10)] else .undef
  | 173 => bif L 19 then .own 1 else .undef
  | 174 => bif L 20 then .box 0 2 else .undef
  | 175 => bif L 22 then .box 0 3 else .undef
  | _ => .undef
def rwF (y l : List Rdg) (A B : List D) (odds M : Int) (j : Nat) (L : Nat → Bool) : List Row := [⟨true, 3, 1, bif L 9 then A ++ [i64 ((nth y j).mer % 10)] else A⟩, ⟨true, 3, 1, bif L 19 then B ++ [i64 ((nth l j).mer % 10)] else B⟩]
def bxF (odds : Int) (L : Nat → Bool) : List Bx := [.mu [i64 10, i64 odds, bif L 9 then (bif L 21 then .own 0 else .undef) else .own 0, bif L 19 then (bif L 23 then .own 1 else .undef) else .own 1]]
def stF (y l : List Rdg) (A B : List D) (odds M : Int) (j : Nat) (L : Nat → Bool) : St := ⟨245, slF y l A B odds M j L, bxF odds L, rwF y l A B odds M j L⟩
theorem stF_named (y l : List Rdg) (A B : List D) (odds M : Int) (j : Nat) (L : Nat → Bool) : (stF y l A B odds M j L).named := by
  refine ⟨fun m => ?_, namesBx_of _ (by
      simp only [stF, bxF]
      cases L 9 <;> cases L 21 <;> cases L 19 <;> cases L 23 <;> simp [namesBx, namesB, namesL, rwF])⟩
  apply names_of
  simp only [stF, slF]
  split <;> first | rfl | (cases L 1 <;> cases L 9 <;> rfl) | (cases L 11 <;> cases L 19 <;> rfl) | (cases L 0 <;> rfl) | (cases L 1 <;> rfl) | (cases L 2 <;> rfl) | (cases L 3 <;> rfl) | (cases L 4 <;> rfl) | (cases L 5 <;> rfl) | (cases L 6 <;> rfl) | (cases L 7 <;> rfl) | (cases L 8 <;> rfl) | (cases L 9 <;> rfl) | (cases L 10 <;> rfl) | (cases L 11 <;> rfl) | (cases L 12 <;> rfl) | (cases L 13 <;> rfl) | (cases L 14 <;> rfl) | (cases L 15 <;> rfl) | (cases L 16 <;> rfl) | (cases L 17 <;> rfl) | (cases L 18 <;> rfl) | (cases L 19 <;> rfl) | (cases L 20 <;> rfl) | (cases L 21 <;> rfl) | (cases L 22 <;> rfl) | (cases L 23 <;> rfl)
set_option maxRecDepth 100000 in
set_option maxHeartbeats 4000000 in
theorem regF {ops : Array Oper} (hops : ops = opsAt Tryz.f3 25) (w0 : World) (S0 : Addr → Prop) (M0 : MM) (y l : List Rdg) (A B : List D) (odds M : Int) (j : Nat) (hjy : j < y.length) (hjl : j < l.length) (hy18 : y.length ≤ 18) (hl18 : l.length ≤ 18) (hmy : 0 ≤ (nth y j).mer) (hml : 0 ≤ (nth l j).mer) (hA : A.length ≤ 100) (hB : B.length ≤ 100)
    {Q : Exit → St → Prop} (hQ : ∀ L, (∀ k, k < 24 → L k = true) → Q .normal (stF y l A B odds M j L)) :
    Abs ⟨Tryz.prog, w0, S0, M0, none, fun b => w0.heap.size ≤ b, []⟩ (.region 25 ops true) Q (stF y l A B odds M j (fun _ => false)) := by
  have r1 : (nth y j).mer.tmod 10 = (nth y j).mer % 10 := Int.tmod_eq_emod_of_nonneg hmy
  have r2 : (nth l j).mer.tmod 10 = (nth l j).mer % 10 := Int.tmod_eq_emod_of_nonneg hml
  simp only [opsAt, Option.map_some, Option.getD_some, Tryz.f3, codeOps, Nat.reduceBEq, Bool.false_eq_true, if_false, if_true, List.nil_append, List.append_nil, List.cons_append, List.headD_cons, reduceIte, eq_self] at hops
  subst hops
  refine abs_flow (ι := Unit) Tryz.ty.mixed rfl (by kernel_rfl) (fun _ => stF y l A B odds M j) (fun _ _ => True) (fun _ L => stF_named _ _ _ _ _ _ _ L) (fun _ _ => Nat.zero_le _) () trivial (le_refl_of _) (fun _ L k o hC _ ho hL hdep => ?_) (fun _ L _ hL => hQ L hL)
  match k, hC, ho, hL, hdep with
  | 0, hC, ho, hL, hdep =>
    simp only [List.getElem?_cons_zero, List.getElem?_cons_succ, Option.some.injEq] at ho; subst ho
    have e20 : slF y l A B odds M j L 20 = .box 0 0 := by simp only [slF, hL, cond_true, cond_false]
    show stepOp Tryz.prog _ ⟨245, slF y l A B odds M j L, bxF odds L, rwF y l A B odds M j L⟩ _
    simp only [bxF, rwF, hL, cond_true, cond_false]
    (refine withX (And.intro @r1 (And.intro @r2 (@e20))) fun hX => ?_; refine simh ?_; clear hX; try exact trivial)
    repeat' (first | (with_reducible rfl) | omega | (refine ⟨(), trivial, rfl, fun m => ?_, ⟨[], ?_⟩, ⟨[], ?_⟩⟩) | (refine ⟨(), rfl, fun m => ?_, ⟨[], ?_⟩, ⟨[], ?_⟩⟩) | apply And.intro)
    all_goals first
      | (simp only [stF, slF, put, purgeS]; split <;> first | (simp [hL, purge, D.men, menL]; done))
      | (simp [stF, bxF, rwF, hL, purgeB, purge, D.men, menL]; done)
      | (simp only [stF, bxF, rwF]; cases L 9 <;> cases L 21 <;> cases L 19 <;> cases L 23 <;> simp [hL, purgeB, purge, D.men, menL]; done)
      | skip
  | 1, hC, ho, hL, hdep =>
    simp only [List.getElem?_cons_zero, List.getElem?_cons_succ, Option.some.injEq] at ho; subst ho
    have d0 : L 0 = true := hdep ⟨0, .data⟩ (by simp) rfl
    have n9 : L 9 = false := not_done hC (k := 9) (j := 1) rfl (by kernel_rfl) hL
    have e154 : slF y l A B odds M j L 154 = .box 0 2 := by simp only [slF, d0, n9, hL, cond_true, cond_false]
    show stepOp Tryz.prog _ ⟨245, slF y l A B odds M j L, bxF odds L, rwF y l A B odds M j L⟩ _
    simp only [bxF, rwF, d0, n9, hL, cond_true, cond_false]
    (refine withX (And.intro @r1 (And.intro @r2 (@e154))) fun hX => ?_; refine simh ?_; clear hX; try exact trivial)
    repeat' (first | (with_reducible rfl) | omega | (refine ⟨(), trivial, rfl, fun m => ?_, ⟨[], ?_⟩, ⟨[], ?_⟩⟩) | (refine ⟨(), rfl, fun m => ?_, ⟨[], ?_⟩, ⟨[], ?_⟩⟩) | apply And.intro)
    all_goals first
      | (simp only [stF, slF, put, purgeS]; split <;> first | (simp [d0, n9, hL, purge, D.men, menL]; done))
      | (simp [stF, bxF, rwF, d0, n9, hL, purgeB, purge, D.men, menL]; done)
      | (simp only [stF, bxF, rwF]; cases L 9 <;> cases L 21 <;> cases L 19 <;> cases L 23 <;> simp [d0, n9, hL, purgeB, purge, D.men, menL]; done)
      | skip
  | 2, hC, ho, hL, hdep =>
    simp only [List.getElem?_cons_zero, List.getElem?_cons_succ, Option.some.injEq] at ho; subst ho
    have e18 : slF y l A B odds M j L 18 = .list (y.map rdD) := by simp only [slF, hL, cond_true, cond_false]
    show stepOp Tryz.prog _ ⟨245, slF y l A B odds M j L, bxF odds L, rwF y l A B odds M j L⟩ _
    simp only [bxF, rwF, hL, cond_true, cond_false]
    (refine withX (And.intro @r1 (And.intro @r2 (@e18))) fun hX => ?_; refine simh ?_; clear hX; try exact trivial)
    repeat' (first | (with_reducible rfl) | omega | (refine ⟨(), trivial, rfl, fun m => ?_, ⟨[], ?_⟩, ⟨[], ?_⟩⟩) | (refine ⟨(), rfl, fun m => ?_, ⟨[], ?_⟩, ⟨[], ?_⟩⟩) | apply And.intro)
    all_goals first
      | (simp only [stF, slF, put, purgeS]; split <;> first | (simp [hL, purge, D.men, menL]; done))
      | (simp [stF, bxF, rwF, hL, purgeB, purge, D.men, menL]; done)
      | (simp only [stF, bxF, rwF]; cases L 9 <;> cases L 21 <;> cases L 19 <;> cases L 23 <;> simp [hL, purgeB, purge, D.men, menL]; done)
      | skip
  | 3, hC, ho, hL, hdep =>
    simp only [List.getElem?_cons_zero, List.getElem?_cons_succ, Option.some.injEq] at ho; subst ho
    have e21 : slF y l A B odds M j L 21 = i64 j := by simp only [slF, hL, cond_true, cond_false]
    show stepOp Tryz.prog _ ⟨245, slF y l A B odds M j L, bxF odds L, rwF y l A B odds M j L⟩ _
    simp only [bxF, rwF, hL, cond_true, cond_false]
    (refine withX (And.intro @r1 (And.intro @r2 (@e21))) fun hX => ?_; refine simh ?_; clear hX; try exact trivial)
    repeat' (first | (with_reducible rfl) | omega | (refine ⟨(), trivial, rfl, fun m => ?_, ⟨[], ?_⟩, ⟨[], ?_⟩⟩) | (refine ⟨(), rfl, fun m => ?_, ⟨[], ?_⟩, ⟨[], ?_⟩⟩) | apply And.intro)
    all_goals first
      | (simp only [stF, slF, put, purgeS]; split <;> first | (simp [hL, purge, D.men, menL]; done))
      | (simp [stF, bxF, rwF, hL, purgeB, purge, D.men, menL]; done)
      | (simp only [stF, bxF, rwF]; cases L 9 <;> cases L 21 <;> cases L 19 <;> cases L 23 <;> simp [hL, purgeB, purge, D.men, menL]; done)
      | skip
  | 4, hC, ho, hL, hdep =>
    simp only [List.getElem?_cons_zero, List.getElem?_cons_succ, Option.some.injEq] at ho; subst ho
    have d2 : L 2 = true := hdep ⟨2, .data⟩ (by simp) rfl
    have d3 : L 3 = true := hdep ⟨3, .data⟩ (by simp) rfl
    have e156 : slF y l A B odds M j L 156 = .list (y.map rdD) := by simp only [slF, d2, d3, hL, cond_true, cond_false]
    have e157 : slF y l A B odds M j L 157 = i64 j := by simp only [slF, d2, d3, hL, cond_true, cond_false]
    show stepOp Tryz.prog _ ⟨245, slF y l A B odds M j L, bxF odds L, rwF y l A B odds M j L⟩ _
    simp only [bxF, rwF, d2, d3, hL, cond_true, cond_false]
    (refine withX (And.intro @r1 (And.intro @r2 (And.intro @e156 (@e157)))) fun hX => ?_; refine simh ?_; clear hX; try exact trivial)
    repeat' (first | (with_reducible rfl) | omega | (refine ⟨(), trivial, rfl, fun m => ?_, ⟨[], ?_⟩, ⟨[], ?_⟩⟩) | (refine ⟨(), rfl, fun m => ?_, ⟨[], ?_⟩, ⟨[], ?_⟩⟩) | apply And.intro)
    all_goals first
      | (simp only [stF, slF, put, purgeS]; split <;> first | (simp [d2, d3, hL, purge, D.men, menL]; done))
      | (simp [stF, bxF, rwF, d2, d3, hL, purgeB, purge, D.men, menL]; done)
      | (simp only [stF, bxF, rwF]; cases L 9 <;> cases L 21 <;> cases L 19 <;> cases L 23 <;> simp [d2, d3, hL, purgeB, purge, D.men, menL]; done)
      | skip
  | 5, hC, ho, hL, hdep =>
    simp only [List.getElem?_cons_zero, List.getElem?_cons_succ, Option.some.injEq] at ho; subst ho
    have d4 : L 4 = true := hdep ⟨4, .data⟩ (by simp) rfl
    have e158 : slF y l A B odds M j L 158 = .ro [i64 (nth y j).day, i64 (nth y j).min, i64 (nth y j).clk, i64 (nth y j).mer, i64 (nth y j).al, i64 (nth y j).ah, i64 (nth y j).dl, i64 (nth y j).dh, i64 (nth y j).wl, i64 (nth y j).wh] := by simp only [slF, d4, hL, cond_true, cond_false]
    show stepOp Tryz.prog _ ⟨245, slF y l A B odds M j L, bxF odds L, rwF y l A B odds M j L⟩ _
    simp only [bxF, rwF, d4, hL, cond_true, cond_false]
    (refine withX (And.intro @r1 (And.intro @r2 (@e158))) fun hX => ?_; refine simh ?_; clear hX; try exact trivial)
    repeat' (first | (with_reducible rfl) | omega | (refine ⟨(), trivial, rfl, fun m => ?_, ⟨[], ?_⟩, ⟨[], ?_⟩⟩) | (refine ⟨(), rfl, fun m => ?_, ⟨[], ?_⟩, ⟨[], ?_⟩⟩) | apply And.intro)
    all_goals first
      | (simp only [stF, slF, put, purgeS]; split <;> first | (simp [d4, hL, purge, D.men, menL]; done))
      | (simp [stF, bxF, rwF, d4, hL, purgeB, purge, D.men, menL]; done)
      | (simp only [stF, bxF, rwF]; cases L 9 <;> cases L 21 <;> cases L 19 <;> cases L 23 <;> simp [d4, hL, purgeB, purge, D.men, menL]; done)
      | skip
  | 6, hC, ho, hL, hdep =>
    simp only [List.getElem?_cons_zero, List.getElem?_cons_succ, Option.some.injEq] at ho; subst ho
    have d5 : L 5 = true := hdep ⟨5, .data⟩ (by simp) rfl
    have e159 : slF y l A B odds M j L 159 = .ro [i64 (nth y j).mer, i64 (nth y j).al, i64 (nth y j).ah, i64 (nth y j).dl, i64 (nth y j).dh, i64 (nth y j).wl, i64 (nth y j).wh] := by simp only [slF, d5, hL, cond_true, cond_false]
    show stepOp Tryz.prog _ ⟨245, slF y l A B odds M j L, bxF odds L, rwF y l A B odds M j L⟩ _
    simp only [bxF, rwF, d5, hL, cond_true, cond_false]
    (refine withX (And.intro @r1 (And.intro @r2 (@e159))) fun hX => ?_; refine simh ?_; clear hX; try exact trivial)
    repeat' (first | (with_reducible rfl) | omega | (refine ⟨(), trivial, rfl, fun m => ?_, ⟨[], ?_⟩, ⟨[], ?_⟩⟩) | (refine ⟨(), rfl, fun m => ?_, ⟨[], ?_⟩, ⟨[], ?_⟩⟩) | apply And.intro)
    all_goals first
      | (simp only [stF, slF, put, purgeS]; split <;> first | (simp [d5, hL, purge, D.men, menL]; done))
      | (simp [stF, bxF, rwF, d5, hL, purgeB, purge, D.men, menL]; done)
      | (simp only [stF, bxF, rwF]; cases L 9 <;> cases L 21 <;> cases L 19 <;> cases L 23 <;> simp [d5, hL, purgeB, purge, D.men, menL]; done)
      | skip
  | 7, hC, ho, hL, hdep =>
    simp only [List.getElem?_cons_zero, List.getElem?_cons_succ, Option.some.injEq] at ho; subst ho
    have d6 : L 6 = true := hdep ⟨6, .data⟩ (by simp) rfl
    have e160 : slF y l A B odds M j L 160 = i64 (nth y j).mer := by simp only [slF, d6, hL, cond_true, cond_false]
    show stepOp Tryz.prog _ ⟨245, slF y l A B odds M j L, bxF odds L, rwF y l A B odds M j L⟩ _
    simp only [bxF, rwF, d6, hL, cond_true, cond_false]
    (refine withX (And.intro @r1 (And.intro @r2 (@e160))) fun hX => ?_; refine simh ?_; clear hX; try exact trivial)
    repeat' (first | (with_reducible rfl) | omega | (refine ⟨(), trivial, rfl, fun m => ?_, ⟨[], ?_⟩, ⟨[], ?_⟩⟩) | (refine ⟨(), rfl, fun m => ?_, ⟨[], ?_⟩, ⟨[], ?_⟩⟩) | apply And.intro)
    all_goals first
      | (simp only [stF, slF, put, purgeS]; split <;> first | (simp [d6, hL, purge, D.men, menL]; done))
      | (simp [stF, bxF, rwF, d6, hL, purgeB, purge, D.men, menL]; done)
      | (simp only [stF, bxF, rwF]; cases L 9 <;> cases L 21 <;> cases L 19 <;> cases L 23 <;> simp [d6, hL, purgeB, purge, D.men, menL]; done)
      | skip
  | 8, hC, ho, hL, hdep =>
    simp only [List.getElem?_cons_zero, List.getElem?_cons_succ, Option.some.injEq] at ho; subst ho
    have d7 : L 7 = true := hdep ⟨7, .data⟩ (by simp) rfl
    have e161 : slF y l A B odds M j L 161 = i64 ((nth y j).mer % 10) := by simp only [slF, d7, hL, cond_true, cond_false]
    show stepOp Tryz.prog _ ⟨245, slF y l A B odds M j L, bxF odds L, rwF y l A B odds M j L⟩ _
    simp only [bxF, rwF, d7, hL, cond_true, cond_false]
    (refine withX (And.intro @r1 (And.intro @r2 (@e161))) fun hX => ?_; refine simh ?_; clear hX; try exact trivial)
    repeat' (first | (with_reducible rfl) | omega | (refine ⟨(), trivial, rfl, fun m => ?_, ⟨[], ?_⟩, ⟨[], ?_⟩⟩) | (refine ⟨(), rfl, fun m => ?_, ⟨[], ?_⟩, ⟨[], ?_⟩⟩) | apply And.intro)
    all_goals first
      | (simp only [stF, slF, put, purgeS]; split <;> first | (simp [d7, hL, purge, D.men, menL]; done))
      | (simp [stF, bxF, rwF, d7, hL, purgeB, purge, D.men, menL]; done)
      | (simp only [stF, bxF, rwF]; cases L 9 <;> cases L 21 <;> cases L 19 <;> cases L 23 <;> simp [d7, hL, purgeB, purge, D.men, menL]; done)
      | skip
  | 9, hC, ho, hL, hdep =>
    simp only [List.getElem?_cons_zero, List.getElem?_cons_succ, Option.some.injEq] at ho; subst ho
    have d1 : L 1 = true := hdep ⟨1, .data⟩ (by simp) rfl
    have d8 : L 8 = true := hdep ⟨8, .data⟩ (by simp) rfl
    have n21 : L 21 = false := not_done hC (k := 21) (j := 9) rfl (by kernel_rfl) hL
    have e155 : slF y l A B odds M j L 155 = .own 0 := by simp only [slF, d1, d8, n21, hL, cond_true, cond_false]
    have e162 : slF y l A B odds M j L 162 = .list [i64 ((nth y j).mer % 10)] := by simp only [slF, d1, d8, n21, hL, cond_true, cond_false]
    show stepOp Tryz.prog _ ⟨245, slF y l A B odds M j L, bxF odds L, rwF y l A B odds M j L⟩ _
    simp only [bxF, rwF, d1, d8, n21, hL, cond_true, cond_false]
    (refine withX (And.intro @r1 (And.intro @r2 (And.intro @e155 (@e162)))) fun hX => ?_; refine simh ?_; clear hX; try exact trivial)
    repeat' (first | (with_reducible rfl) | omega | (refine ⟨(), trivial, rfl, fun m => ?_, ⟨[], ?_⟩, ⟨[], ?_⟩⟩) | (refine ⟨(), rfl, fun m => ?_, ⟨[], ?_⟩, ⟨[], ?_⟩⟩) | apply And.intro)
    all_goals first
      | (simp only [stF, slF, put, purgeS]; split <;> first | (simp [d1, d8, n21, hL, purge, D.men, menL]; done))
      | (simp [stF, bxF, rwF, d1, d8, n21, hL, purgeB, purge, D.men, menL]; done)
      | (simp only [stF, bxF, rwF]; cases L 9 <;> cases L 21 <;> cases L 19 <;> cases L 23 <;> simp [d1, d8, n21, hL, purgeB, purge, D.men, menL]; done)
      | (simp only [stF, slF, put, purgeS]; split <;> first | (simp [d1, d8, n21, hL, purge, D.men, menL]; done) | (cases L 11 <;> cases L 19 <;> simp [d1, d8, n21, hL, purge, D.men, menL]; done) | (cases L 1 <;> cases L 9 <;> simp [d1, d8, n21, hL, purge, D.men, menL]; done) | (cases L 0 <;> simp [d1, d8, n21, hL, purge, D.men, menL]; done) | (cases L 1 <;> simp [d1, d8, n21, hL, purge, D.men, menL]; done) | (cases L 2 <;> simp [d1, d8, n21, hL, purge, D.men, menL]; done) | (cases L 3 <;> simp [d1, d8, n21, hL, purge, D.men, menL]; done) | (cases L 4 <;> simp [d1, d8, n21, hL, purge, D.men, menL]; done) | (cases L 5 <;> simp [d1, d8, n21, hL, purge, D.men, menL]; done) | (cases L 6 <;> simp [d1, d8, n21, hL, purge, D.men, menL]; done) | (cases L 7 <;> simp [d1, d8, n21, hL, purge, D.men, menL]; done) | (cases L 8 <;> simp [d1, d8, n21, hL, purge, D.men, menL]; done) | (cases L 9 <;> simp [d1, d8, n21, hL, purge, D.men, menL]; done) | (cases L 10 <;> simp [d1, d8, n21, hL, purge, D.men, menL]; done) | (cases L 11 <;> simp [d1, d8, n21, hL, purge, D.men, menL]; done) | (cases L 12 <;> simp [d1, d8, n21, hL, purge, D.men, menL]; done) | (cases L 13 <;> simp [d1, d8, n21, hL, purge, D.men, menL]; done) | (cases L 14 <;> simp [d1, d8, n21, hL, purge, D.men, menL]; done) | (cases L 15 <;> simp [d1, d8, n21, hL, purge, D.men, menL]; done) | (cases L 16 <;> simp [d1, d8, n21, hL, purge, D.men, menL]; done) | (cases L 17 <;> simp [d1, d8, n21, hL, purge, D.men, menL]; done) | (cases L 18 <;> simp [d1, d8, n21, hL, purge, D.men, menL]; done) | (cases L 19 <;> simp [d1, d8, n21, hL, purge, D.men, menL]; done) | (cases L 20 <;> simp [d1, d8, n21, hL, purge, D.men, menL]; done) | (cases L 21 <;> simp [d1, d8, n21, hL, purge, D.men, menL]; done) | (cases L 22 <;> simp [d1, d8, n21, hL, purge, D.men, menL]; done) | (cases L 23 <;> simp [d1, d8, n21, hL, purge, D.men, menL]; done))
      | (simp only [stF, bxF, rwF]; cases L 19 <;> cases L 23 <;> simp [d1, d8, n21, hL, purgeB, purge, D.men, menL]; done)
      | skip
  | 10, hC, ho, hL, hdep =>
    simp only [List.getElem?_cons_zero, List.getElem?_cons_succ, Option.some.injEq] at ho; subst ho
    have e20 : slF y l A B odds M j L 20 = .box 0 0 := by simp only [slF, hL, cond_true, cond_false]
    show stepOp Tryz.prog _ ⟨245, slF y l A B odds M j L, bxF odds L, rwF y l A B odds M j L⟩ _
    simp only [bxF, rwF, hL, cond_true, cond_false]
    (refine withX (And.intro @r1 (And.intro @r2 (@e20))) fun hX => ?_; refine simh ?_; clear hX; try exact trivial)
    repeat' (first | (with_reducible rfl) | omega | (refine ⟨(), trivial, rfl, fun m => ?_, ⟨[], ?_⟩, ⟨[], ?_⟩⟩) | (refine ⟨(), rfl, fun m => ?_, ⟨[], ?_⟩, ⟨[], ?_⟩⟩) | apply And.intro)
    all_goals first
      | (simp only [stF, slF, put, purgeS]; split <;> first | (simp [hL, purge, D.men, menL]; done))
      | (simp [stF, bxF, rwF, hL, purgeB, purge, D.men, menL]; done)
      | (simp only [stF, bxF, rwF]; cases L 9 <;> cases L 21 <;> cases L 19 <;> cases L 23 <;> simp [hL, purgeB, purge, D.men, menL]; done)
      | skip
  | 11, hC, ho, hL, hdep =>
    simp only [List.getElem?_cons_zero, List.getElem?_cons_succ, Option.some.injEq] at ho; subst ho
    have d10 : L 10 = true := hdep ⟨10, .data⟩ (by simp) rfl
    have n19 : L 19 = false := not_done hC (k := 19) (j := 11) rfl (by kernel_rfl) hL
    have e164 : slF y l A B odds M j L 164 = .box 0 3 := by simp only [slF, d10, n19, hL, cond_true, cond_false]
    show stepOp Tryz.prog _ ⟨245, slF y l A B odds M j L, bxF odds L, rwF y l A B odds M j L⟩ _
    simp only [bxF, rwF, d10, n19, hL, cond_true, cond_false]
    (refine withX (And.intro @r1 (And.intro @r2 (@e164))) fun hX => ?_; refine simh ?_; clear hX; try exact trivial)
    repeat' (first | (with_reducible rfl) | omega | (refine ⟨(), trivial, rfl, fun m => ?_, ⟨[], ?_⟩, ⟨[], ?_⟩⟩) | (refine ⟨(), rfl, fun m => ?_, ⟨[], ?_⟩, ⟨[], ?_⟩⟩) | apply And.intro)
    all_goals first
      | (simp only [stF, slF, put, purgeS]; split <;> first | (simp [d10, n19, hL, purge, D.men, menL]; done))
      | (simp [stF, bxF, rwF, d10, n19, hL, purgeB, purge, D.men, menL]; done)
      | (simp only [stF, bxF, rwF]; cases L 9 <;> cases L 21 <;> cases L 19 <;> cases L 23 <;> simp [d10, n19, hL, purgeB, purge, D.men, menL]; done)
      | skip
  | 12, hC, ho, hL, hdep =>
    simp only [List.getElem?_cons_zero, List.getElem?_cons_succ, Option.some.injEq] at ho; subst ho
    have e11 : slF y l A B odds M j L 11 = .list (l.map rdD) := by simp only [slF, hL, cond_true, cond_false]
    show stepOp Tryz.prog _ ⟨245, slF y l A B odds M j L, bxF odds L, rwF y l A B odds M j L⟩ _
    simp only [bxF, rwF, hL, cond_true, cond_false]
    (refine withX (And.intro @r1 (And.intro @r2 (@e11))) fun hX => ?_; refine simh ?_; clear hX; try exact trivial)
    repeat' (first | (with_reducible rfl) | omega | (refine ⟨(), trivial, rfl, fun m => ?_, ⟨[], ?_⟩, ⟨[], ?_⟩⟩) | (refine ⟨(), rfl, fun m => ?_, ⟨[], ?_⟩, ⟨[], ?_⟩⟩) | apply And.intro)
    all_goals first
      | (simp only [stF, slF, put, purgeS]; split <;> first | (simp [hL, purge, D.men, menL]; done))
      | (simp [stF, bxF, rwF, hL, purgeB, purge, D.men, menL]; done)
      | (simp only [stF, bxF, rwF]; cases L 9 <;> cases L 21 <;> cases L 19 <;> cases L 23 <;> simp [hL, purgeB, purge, D.men, menL]; done)
      | skip
  | 13, hC, ho, hL, hdep =>
    simp only [List.getElem?_cons_zero, List.getElem?_cons_succ, Option.some.injEq] at ho; subst ho
    have e21 : slF y l A B odds M j L 21 = i64 j := by simp only [slF, hL, cond_true, cond_false]
    show stepOp Tryz.prog _ ⟨245, slF y l A B odds M j L, bxF odds L, rwF y l A B odds M j L⟩ _
    simp only [bxF, rwF, hL, cond_true, cond_false]
    (refine withX (And.intro @r1 (And.intro @r2 (@e21))) fun hX => ?_; refine simh ?_; clear hX; try exact trivial)
    repeat' (first | (with_reducible rfl) | omega | (refine ⟨(), trivial, rfl, fun m => ?_, ⟨[], ?_⟩, ⟨[], ?_⟩⟩) | (refine ⟨(), rfl, fun m => ?_, ⟨[], ?_⟩, ⟨[], ?_⟩⟩) | apply And.intro)
    all_goals first
      | (simp only [stF, slF, put, purgeS]; split <;> first | (simp [hL, purge, D.men, menL]; done))
      | (simp [stF, bxF, rwF, hL, purgeB, purge, D.men, menL]; done)
      | (simp only [stF, bxF, rwF]; cases L 9 <;> cases L 21 <;> cases L 19 <;> cases L 23 <;> simp [hL, purgeB, purge, D.men, menL]; done)
      | skip
  | 14, hC, ho, hL, hdep =>
    simp only [List.getElem?_cons_zero, List.getElem?_cons_succ, Option.some.injEq] at ho; subst ho
    have d12 : L 12 = true := hdep ⟨12, .data⟩ (by simp) rfl
    have d13 : L 13 = true := hdep ⟨13, .data⟩ (by simp) rfl
    have e166 : slF y l A B odds M j L 166 = .list (l.map rdD) := by simp only [slF, d12, d13, hL, cond_true, cond_false]
    have e167 : slF y l A B odds M j L 167 = i64 j := by simp only [slF, d12, d13, hL, cond_true, cond_false]
    show stepOp Tryz.prog _ ⟨245, slF y l A B odds M j L, bxF odds L, rwF y l A B odds M j L⟩ _
    simp only [bxF, rwF, d12, d13, hL, cond_true, cond_false]
    (refine withX (And.intro @r1 (And.intro @r2 (And.intro @e166 (@e167)))) fun hX => ?_; refine simh ?_; clear hX; try exact trivial)
    repeat' (first | (with_reducible rfl) | omega | (refine ⟨(), trivial, rfl, fun m => ?_, ⟨[], ?_⟩, ⟨[], ?_⟩⟩) | (refine ⟨(), rfl, fun m => ?_, ⟨[], ?_⟩, ⟨[], ?_⟩⟩) | apply And.intro)
    all_goals first
      | (simp only [stF, slF, put, purgeS]; split <;> first | (simp [d12, d13, hL, purge, D.men, menL]; done))
      | (simp [stF, bxF, rwF, d12, d13, hL, purgeB, purge, D.men, menL]; done)
      | (simp only [stF, bxF, rwF]; cases L 9 <;> cases L 21 <;> cases L 19 <;> cases L 23 <;> simp [d12, d13, hL, purgeB, purge, D.men, menL]; done)
      | skip
  | 15, hC, ho, hL, hdep =>
    simp only [List.getElem?_cons_zero, List.getElem?_cons_succ, Option.some.injEq] at ho; subst ho
    have d14 : L 14 = true := hdep ⟨14, .data⟩ (by simp) rfl
    have e168 : slF y l A B odds M j L 168 = .ro [i64 (nth l j).day, i64 (nth l j).min, i64 (nth l j).clk, i64 (nth l j).mer, i64 (nth l j).al, i64 (nth l j).ah, i64 (nth l j).dl, i64 (nth l j).dh, i64 (nth l j).wl, i64 (nth l j).wh] := by simp only [slF, d14, hL, cond_true, cond_false]
    show stepOp Tryz.prog _ ⟨245, slF y l A B odds M j L, bxF odds L, rwF y l A B odds M j L⟩ _
    simp only [bxF, rwF, d14, hL, cond_true, cond_false]
    (refine withX (And.intro @r1 (And.intro @r2 (@e168))) fun hX => ?_; refine simh ?_; clear hX; try exact trivial)
    repeat' (first | (with_reducible rfl) | omega | (refine ⟨(), trivial, rfl, fun m => ?_, ⟨[], ?_⟩, ⟨[], ?_⟩⟩) | (refine ⟨(), rfl, fun m => ?_, ⟨[], ?_⟩, ⟨[], ?_⟩⟩) | apply And.intro)
    all_goals first
      | (simp only [stF, slF, put, purgeS]; split <;> first | (simp [d14, hL, purge, D.men, menL]; done))
      | (simp [stF, bxF, rwF, d14, hL, purgeB, purge, D.men, menL]; done)
      | (simp only [stF, bxF, rwF]; cases L 9 <;> cases L 21 <;> cases L 19 <;> cases L 23 <;> simp [d14, hL, purgeB, purge, D.men, menL]; done)
      | skip
  | 16, hC, ho, hL, hdep =>
    simp only [List.getElem?_cons_zero, List.getElem?_cons_succ, Option.some.injEq] at ho; subst ho
    have d15 : L 15 = true := hdep ⟨15, .data⟩ (by simp) rfl
    have e169 : slF y l A B odds M j L 169 = .ro [i64 (nth l j).mer, i64 (nth l j).al, i64 (nth l j).ah, i64 (nth l j).dl, i64 (nth l j).dh, i64 (nth l j).wl, i64 (nth l j).wh] := by simp only [slF, d15, hL, cond_true, cond_false]
    show stepOp Tryz.prog _ ⟨245, slF y l A B odds M j L, bxF odds L, rwF y l A B odds M j L⟩ _
    simp only [bxF, rwF, d15, hL, cond_true, cond_false]
    (refine withX (And.intro @r1 (And.intro @r2 (@e169))) fun hX => ?_; refine simh ?_; clear hX; try exact trivial)
    repeat' (first | (with_reducible rfl) | omega | (refine ⟨(), trivial, rfl, fun m => ?_, ⟨[], ?_⟩, ⟨[], ?_⟩⟩) | (refine ⟨(), rfl, fun m => ?_, ⟨[], ?_⟩, ⟨[], ?_⟩⟩) | apply And.intro)
    all_goals first
      | (simp only [stF, slF, put, purgeS]; split <;> first | (simp [d15, hL, purge, D.men, menL]; done))
      | (simp [stF, bxF, rwF, d15, hL, purgeB, purge, D.men, menL]; done)
      | (simp only [stF, bxF, rwF]; cases L 9 <;> cases L 21 <;> cases L 19 <;> cases L 23 <;> simp [d15, hL, purgeB, purge, D.men, menL]; done)
      | skip
  | 17, hC, ho, hL, hdep =>
    simp only [List.getElem?_cons_zero, List.getElem?_cons_succ, Option.some.injEq] at ho; subst ho
    have d16 : L 16 = true := hdep ⟨16, .data⟩ (by simp) rfl
    have e170 : slF y l A B odds M j L 170 = i64 (nth l j).mer := by simp only [slF, d16, hL, cond_true, cond_false]
    show stepOp Tryz.prog _ ⟨245, slF y l A B odds M j L, bxF odds L, rwF y l A B odds M j L⟩ _
    simp only [bxF, rwF, d16, hL, cond_true, cond_false]
    (refine withX (And.intro @r1 (And.intro @r2 (@e170))) fun hX => ?_; refine simh ?_; clear hX; try exact trivial)
    repeat' (first | (with_reducible rfl) | omega | (refine ⟨(), trivial, rfl, fun m => ?_, ⟨[], ?_⟩, ⟨[], ?_⟩⟩) | (refine ⟨(), rfl, fun m => ?_, ⟨[], ?_⟩, ⟨[], ?_⟩⟩) | apply And.intro)
    all_goals first
      | (simp only [stF, slF, put, purgeS]; split <;> first | (simp [d16, hL, purge, D.men, menL]; done))
      | (simp [stF, bxF, rwF, d16, hL, purgeB, purge, D.men, menL]; done)
      | (simp only [stF, bxF, rwF]; cases L 9 <;> cases L 21 <;> cases L 19 <;> cases L 23 <;> simp [d16, hL, purgeB, purge, D.men, menL]; done)
      | skip
  | 18, hC, ho, hL, hdep =>
    simp only [List.getElem?_cons_zero, List.getElem?_cons_succ, Option.some.injEq] at ho; subst ho
    have d17 : L 17 = true := hdep ⟨17, .data⟩ (by simp) rfl
    have e171 : slF y l A B odds M j L 171 = i64 ((nth l j).mer % 10) := by simp only [slF, d17, hL, cond_true, cond_false]
    show stepOp Tryz.prog _ ⟨245, slF y l A B odds M j L, bxF odds L, rwF y l A B odds M j L⟩ _
    simp only [bxF, rwF, d17, hL, cond_true, cond_false]
    (refine withX (And.intro @r1 (And.intro @r2 (@e171))) fun hX => ?_; refine simh ?_; clear hX; try exact trivial)
    repeat' (first | (with_reducible rfl) | omega | (refine ⟨(), trivial, rfl, fun m => ?_, ⟨[], ?_⟩, ⟨[], ?_⟩⟩) | (refine ⟨(), rfl, fun m => ?_, ⟨[], ?_⟩, ⟨[], ?_⟩⟩) | apply And.intro)
    all_goals first
      | (simp only [stF, slF, put, purgeS]; split <;> first | (simp [d17, hL, purge, D.men, menL]; done))
      | (simp [stF, bxF, rwF, d17, hL, purgeB, purge, D.men, menL]; done)
      | (simp only [stF, bxF, rwF]; cases L 9 <;> cases L 21 <;> cases L 19 <;> cases L 23 <;> simp [d17, hL, purgeB, purge, D.men, menL]; done)
      | skip
  | 19, hC, ho, hL, hdep =>
    simp only [List.getElem?_cons_zero, List.getElem?_cons_succ, Option.some.injEq] at ho; subst ho
    have d11 : L 11 = true := hdep ⟨11, .data⟩ (by simp) rfl
    have d18 : L 18 = true := hdep ⟨18, .data⟩ (by simp) rfl
    have n23 : L 23 = false := not_done hC (k := 23) (j := 19) rfl (by kernel_rfl) hL
    have e165 : slF y l A B odds M j L 165 = .own 1 := by simp only [slF, d11, d18, n23, hL, cond_true, cond_false]
    have e172 : slF y l A B odds M j L 172 = .list [i64 ((nth l j).mer % 10)] := by simp only [slF, d11, d18, n23, hL, cond_true, cond_false]
    show stepOp Tryz.prog _ ⟨245, slF y l A B odds M j L, bxF odds L, rwF y l A B odds M j L⟩ _
    simp only [bxF, rwF, d11, d18, n23, hL, cond_true, cond_false]
    (refine withX (And.intro @r1 (And.intro @r2 (And.intro @e165 (@e172)))) fun hX => ?_; refine simh ?_; clear hX; try exact trivial)
    repeat' (first | (with_reducible rfl) | omega | (refine ⟨(), trivial, rfl, fun m => ?_, ⟨[], ?_⟩, ⟨[], ?_⟩⟩) | (refine ⟨(), rfl, fun m => ?_, ⟨[], ?_⟩, ⟨[], ?_⟩⟩) | apply And.intro)
    all_goals first
      | (simp only [stF, slF, put, purgeS]; split <;> first | (simp [d11, d18, n23, hL, purge, D.men, menL]; done))
      | (simp [stF, bxF, rwF, d11, d18, n23, hL, purgeB, purge, D.men, menL]; done)
      | (simp only [stF, bxF, rwF]; cases L 9 <;> cases L 21 <;> cases L 19 <;> cases L 23 <;> simp [d11, d18, n23, hL, purgeB, purge, D.men, menL]; done)
      | (simp only [stF, slF, put, purgeS]; split <;> first | (simp [d11, d18, n23, hL, purge, D.men, menL]; done) | (cases L 11 <;> cases L 19 <;> simp [d11, d18, n23, hL, purge, D.men, menL]; done) | (cases L 1 <;> cases L 9 <;> simp [d11, d18, n23, hL, purge, D.men, menL]; done) | (cases L 0 <;> simp [d11, d18, n23, hL, purge, D.men, menL]; done) | (cases L 1 <;> simp [d11, d18, n23, hL, purge, D.men, menL]; done) | (cases L 2 <;> simp [d11, d18, n23, hL, purge, D.men, menL]; done) | (cases L 3 <;> simp [d11, d18, n23, hL, purge, D.men, menL]; done) | (cases L 4 <;> simp [d11, d18, n23, hL, purge, D.men, menL]; done) | (cases L 5 <;> simp [d11, d18, n23, hL, purge, D.men, menL]; done) | (cases L 6 <;> simp [d11, d18, n23, hL, purge, D.men, menL]; done) | (cases L 7 <;> simp [d11, d18, n23, hL, purge, D.men, menL]; done) | (cases L 8 <;> simp [d11, d18, n23, hL, purge, D.men, menL]; done) | (cases L 9 <;> simp [d11, d18, n23, hL, purge, D.men, menL]; done) | (cases L 10 <;> simp [d11, d18, n23, hL, purge, D.men, menL]; done) | (cases L 11 <;> simp [d11, d18, n23, hL, purge, D.men, menL]; done) | (cases L 12 <;> simp [d11, d18, n23, hL, purge, D.men, menL]; done) | (cases L 13 <;> simp [d11, d18, n23, hL, purge, D.men, menL]; done) | (cases L 14 <;> simp [d11, d18, n23, hL, purge, D.men, menL]; done) | (cases L 15 <;> simp [d11, d18, n23, hL, purge, D.men, menL]; done) | (cases L 16 <;> simp [d11, d18, n23, hL, purge, D.men, menL]; done) | (cases L 17 <;> simp [d11, d18, n23, hL, purge, D.men, menL]; done) | (cases L 18 <;> simp [d11, d18, n23, hL, purge, D.men, menL]; done) | (cases L 19 <;> simp [d11, d18, n23, hL, purge, D.men, menL]; done) | (cases L 20 <;> simp [d11, d18, n23, hL, purge, D.men, menL]; done) | (cases L 21 <;> simp [d11, d18, n23, hL, purge, D.men, menL]; done) | (cases L 22 <;> simp [d11, d18, n23, hL, purge, D.men, menL]; done) | (cases L 23 <;> simp [d11, d18, n23, hL, purge, D.men, menL]; done))
      | (simp only [stF, bxF, rwF]; cases L 9 <;> cases L 21 <;> simp [d11, d18, n23, hL, purgeB, purge, D.men, menL]; done)
      | skip
  | 20, hC, ho, hL, hdep =>
    simp only [List.getElem?_cons_zero, List.getElem?_cons_succ, Option.some.injEq] at ho; subst ho
    have e20 : slF y l A B odds M j L 20 = .box 0 0 := by simp only [slF, hL, cond_true, cond_false]
    show stepOp Tryz.prog _ ⟨245, slF y l A B odds M j L, bxF odds L, rwF y l A B odds M j L⟩ _
    simp only [bxF, rwF, hL, cond_true, cond_false]
    (refine withX (And.intro @r1 (And.intro @r2 (@e20))) fun hX => ?_; refine simh ?_; clear hX; try exact trivial)
    repeat' (first | (with_reducible rfl) | omega | (refine ⟨(), trivial, rfl, fun m => ?_, ⟨[], ?_⟩, ⟨[], ?_⟩⟩) | (refine ⟨(), rfl, fun m => ?_, ⟨[], ?_⟩, ⟨[], ?_⟩⟩) | apply And.intro)
    all_goals first
      | (simp only [stF, slF, put, purgeS]; split <;> first | (simp [hL, purge, D.men, menL]; done))
      | (simp [stF, bxF, rwF, hL, purgeB, purge, D.men, menL]; done)
      | (simp only [stF, bxF, rwF]; cases L 9 <;> cases L 21 <;> cases L 19 <;> cases L 23 <;> simp [hL, purgeB, purge, D.men, menL]; done)
      | skip
  | 21, hC, ho, hL, hdep =>
    simp only [List.getElem?_cons_zero, List.getElem?_cons_succ, Option.some.injEq] at ho; subst ho
    have d20 : L 20 = true := hdep ⟨20, .data⟩ (by simp) rfl
    have d9 : L 9 = true := hdep ⟨9, .data⟩ (by simp) rfl
    have e174 : slF y l A B odds M j L 174 = .box 0 2 := by simp only [slF, d20, d9, hL, cond_true, cond_false]
    have e163 : slF y l A B odds M j L 163 = .own 0 := by simp only [slF, d20, d9, hL, cond_true, cond_false]
    show stepOp Tryz.prog _ ⟨245, slF y l A B odds M j L, bxF odds L, rwF y l A B odds M j L⟩ _
    simp only [bxF, rwF, d20, d9, hL, cond_true, cond_false]
    (refine withX (And.intro @r1 (And.intro @r2 (And.intro @e174 (@e163)))) fun hX => ?_; refine simh ?_; clear hX; try exact trivial)
    repeat' (first | (with_reducible rfl) | omega | (refine ⟨(), trivial, rfl, fun m => ?_, ⟨[], ?_⟩, ⟨[], ?_⟩⟩) | (refine ⟨(), rfl, fun m => ?_, ⟨[], ?_⟩, ⟨[], ?_⟩⟩) | apply And.intro)
    all_goals first
      | (simp only [stF, slF, put, purgeS]; split <;> first | (simp [d20, d9, hL, purge, D.men, menL]; done))
      | (simp [stF, bxF, rwF, d20, d9, hL, purgeB, purge, D.men, menL]; done)
      | (simp only [stF, bxF, rwF]; cases L 9 <;> cases L 21 <;> cases L 19 <;> cases L 23 <;> simp [d20, d9, hL, purgeB, purge, D.men, menL]; done)
      | skip
  | 22, hC, ho, hL, hdep =>
    simp only [List.getElem?_cons_zero, List.getElem?_cons_succ, Option.some.injEq] at ho; subst ho
    have e20 : slF y l A B odds M j L 20 = .box 0 0 := by simp only [slF, hL, cond_true, cond_false]
    show stepOp Tryz.prog _ ⟨245, slF y l A B odds M j L, bxF odds L, rwF y l A B odds M j L⟩ _
    simp only [bxF, rwF, hL, cond_true, cond_false]
    (refine withX (And.intro @r1 (And.intro @r2 (@e20))) fun hX => ?_; refine simh ?_; clear hX; try exact trivial)
    repeat' (first | (with_reducible rfl) | omega | (refine ⟨(), trivial, rfl, fun m => ?_, ⟨[], ?_⟩, ⟨[], ?_⟩⟩) | (refine ⟨(), rfl, fun m => ?_, ⟨[], ?_⟩, ⟨[], ?_⟩⟩) | apply And.intro)
    all_goals first
      | (simp only [stF, slF, put, purgeS]; split <;> first | (simp [hL, purge, D.men, menL]; done))
      | (simp [stF, bxF, rwF, hL, purgeB, purge, D.men, menL]; done)
      | (simp only [stF, bxF, rwF]; cases L 9 <;> cases L 21 <;> cases L 19 <;> cases L 23 <;> simp [hL, purgeB, purge, D.men, menL]; done)
      | skip
  | 23, hC, ho, hL, hdep =>
    simp only [List.getElem?_cons_zero, List.getElem?_cons_succ, Option.some.injEq] at ho; subst ho
    have d22 : L 22 = true := hdep ⟨22, .data⟩ (by simp) rfl
    have d19 : L 19 = true := hdep ⟨19, .data⟩ (by simp) rfl
    have e175 : slF y l A B odds M j L 175 = .box 0 3 := by simp only [slF, d22, d19, hL, cond_true, cond_false]
    have e173 : slF y l A B odds M j L 173 = .own 1 := by simp only [slF, d22, d19, hL, cond_true, cond_false]
    show stepOp Tryz.prog _ ⟨245, slF y l A B odds M j L, bxF odds L, rwF y l A B odds M j L⟩ _
    simp only [bxF, rwF, d22, d19, hL, cond_true, cond_false]
    (refine withX (And.intro @r1 (And.intro @r2 (And.intro @e175 (@e173)))) fun hX => ?_; refine simh ?_; clear hX; try exact trivial)
    repeat' (first | (with_reducible rfl) | omega | (refine ⟨(), trivial, rfl, fun m => ?_, ⟨[], ?_⟩, ⟨[], ?_⟩⟩) | (refine ⟨(), rfl, fun m => ?_, ⟨[], ?_⟩, ⟨[], ?_⟩⟩) | apply And.intro)
    all_goals first
      | (simp only [stF, slF, put, purgeS]; split <;> first | (simp [d22, d19, hL, purge, D.men, menL]; done))
      | (simp [stF, bxF, rwF, d22, d19, hL, purgeB, purge, D.men, menL]; done)
      | (simp only [stF, bxF, rwF]; cases L 9 <;> cases L 21 <;> cases L 19 <;> cases L 23 <;> simp [d22, d19, hL, purgeB, purge, D.men, menL]; done)
      | skip
  | k + 24, hC, ho, hL, hdep => simp at ho
theorem abs_post {c : Ctx} {code : Code} {Q : Exit → St → Prop} {s : St} (h : Abs c code (fun e s1 => ∃ s2, RTo c s1 s2 ∧ Q e s2) s) : Abs c code Q s := by
  unfold Abs at h ⊢
  intro a w hr
  refine Go.wpIn_mono (h a w hr) ?_
  rintro e a' w' ⟨s1, h1, s2, h2, h3⟩
  exact ⟨s2, h2 _ _ h1, h3⟩
def mkSq (n : Nat) (l : List (Nat × D)) (bx : List Bx) (rw : List Row) : St := ⟨n, l.foldr (fun p f => put f p.1 p.2) none', bx, rw⟩
theorem regG {ops : Array Oper} (hops : ops = opsAt Tryz.f3 25) (w0 : World) (S0 : Addr → Prop) (M0 : MM) (y l : List Rdg) (A B : List D) (odds M : Int) (j : Nat) (hjy : j < y.length) (hjl : j < l.length) (hy18 : y.length ≤ 18) (hl18 : l.length ≤ 18) (hmy : 0 ≤ (nth y j).mer) (hml : 0 ≤ (nth l j).mer) (hA : A.length ≤ 100) (hB : B.length ≤ 100) {s : St}
    (hle : Le s (mkSt 245 [(3, i64 odds), (11, .list (l.map rdD)), (14, i64 M), (18, .list (y.map rdD)), (20, .box 0 0), (21, i64 (j : Nat))] [.mu [i64 10, i64 odds, .own 0, .own 1]] [⟨true, 3, 1, A⟩, ⟨true, 3, 1, B⟩]))
    {Q : Exit → St → Prop} (hQ : Q .normal (mkSq 245 [(3, i64 odds), (11, .list (l.map rdD)), (14, i64 M), (18, .list (y.map rdD)), (20, .box 0 0), (21, i64 (j : Nat))] [.mu [i64 10, i64 odds, .own 0, .own 1]] [⟨true, 3, 1, A ++ [i64 ((nth y j).mer % 10)]⟩, ⟨true, 3, 1, B ++ [i64 ((nth l j).mer % 10)]⟩])) :
    Abs ⟨Tryz.prog, w0, S0, M0, none, fun b => w0.heap.size ≤ b, []⟩ (.region 25 ops true) Q s := by
  refine abs_le _ hle (named_of rfl rfl) (Nat.zero_le _) ?_
  refine abs_le (stF y l A B odds M j (fun _ => false)) ⟨rfl, fun m => ?_, ⟨[], rfl⟩, ⟨[], rfl⟩⟩ (stF_named _ _ _ _ _ _ _ _) (Nat.zero_le _) (abs_post (regF hops w0 S0 M0 y l A B odds M j hjy hjl hy18 hl18 hmy hml hA hB fun L hL => ⟨_, RTo.le (le_of rfl ?_ ⟨[], ?_⟩ ⟨[], ?_⟩) (named_of rfl rfl) (Nat.zero_le _), hQ⟩))
  · simp only [stF, slF, mkSt, List.foldr, put]; split <;> simp
  · simp [stF, slF]
  · simp [stF, bxF, hL]
  · simp [stF, rwF, hL]
end Go.Proofs.YtmnepfejoneghaaGreatDoor
