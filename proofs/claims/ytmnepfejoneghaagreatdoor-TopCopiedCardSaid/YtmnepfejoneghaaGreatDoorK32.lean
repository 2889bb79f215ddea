import Derived.Test.YtmnepfejoneghaaGreatDoorK31
import Derived.Test.YtmnepfejoneghaaGreatDoorK30
import Derived.Test.YtmnepfejoneghaaGreatDoorK28
import Derived.Test.YtmnepfejoneghaaGreatDoorK26
import Derived.Test.YtmnepfejoneghaaGreatDoorK20
import Derived.Test.YtmnepfejoneghaaGreatDoorK24
import Derived.Test.YtmnepfejoneghaaGreatDoorK22
set_option linter.unusedVariables false
set_option linter.unusedSimpArgs false
namespace Go.Proofs.YtmnepfejoneghaaGreatDoor
open Go.Ab
attribute [local irreducible] Abs CallK CallR CallsTo CallsB IA PI.CallsE StepX
instance (S : List (Int × Int)) (R : List (List (Int × Int))) (o : List Nat) (i : Nat) : Decidable (wInT S R o i) := by unfold wInT; infer_instance
/-- When an order ends at the latest, if it is sure. -/
def wsr (S : List (Int × Int)) (R : List (List (Int × Int))) (o : List Nat) : Option Int := if ∀ i, i < o.length → wInT S R o i then some (wday S o (wlg R o) o.length) else none
theorem wsur_ok (S : List (Int × Int)) (R : List (List (Int × Int))) (h : WRd S R) (o : List Nat) (ho : WOrd S o) : CallsTo Tryz.prog 66 [.agg (wrC S R), ntD o] (.tup (sureL (wsr S R o))) := by
  refine wsure_ok S R o _ (must_ok S R h o ho _ ?_)
  unfold wsr
  by_cases hc : ∀ i, i < o.length → wInT S R o i
  · rw [if_pos hc]; exact .inl ⟨rfl, hc⟩
  · rw [if_neg hc]
    refine .inr ⟨rfl, ?_⟩
    simp only [Classical.not_forall] at hc
    obtain ⟨i, hi, hn⟩ := hc
    exact ⟨i, hi, hn⟩
abbrev ntI (o : List Nat) : List Int := o.map (fun (n : Nat) => (n : Int))
theorem nt_ints (o : List Nat) : ints (ntI o) = ntD o := by simp [ntI, Function.comp_def]
/-- All plans that begin with an order. -/
def wsrch : Nat → List Nat → List (List Int × Int)
  | 0, _ => []
  | k + 1, o => match wsr S3 R3 o with
    | none => []
    | some e => (ntI o, e) :: (List.range 3).flatMap fun n => if n ∈ o then [] else wsrch k (o ++ [n])
def wpart (k : Nat) (o : List Nat) (e : Int) (j : Nat) : List (List Int × Int) := (ntI o, e) :: (List.range j).flatMap fun n => if n ∈ o then [] else wsrch k (o ++ [n])
theorem wpart_succ (k : Nat) (o : List Nat) (e : Int) (j : Nat) : wpart k o e (j + 1) = wpart k o e j ++ if j ∈ o then [] else wsrch k (o ++ [j]) := by
  simp [wpart, List.range_succ, List.flatMap_append]
def ord3 : List (List Nat) := [[], [0], [1], [2], [0, 1], [0, 2], [1, 0], [1, 2], [2, 0], [2, 1], [0, 1, 2], [0, 2, 1], [1, 0, 2], [1, 2, 0], [2, 0, 1], [2, 1, 0]]
theorem ord3_len : ∀ o ∈ ord3, o.length ≤ 3 ∧ ∀ i, i < o.length → nth o i < 3 := by decide +kernel
theorem ord3_app : ∀ o ∈ ord3, ∀ n, n < 3 → n ∉ o → o ++ [n] ∈ ord3 := by decide +kernel
theorem ord3_in : ∀ o ∈ ord3, ∀ n : Nat, n < 3 → decide (0 ≤ wix (ntI o) (n : Nat) o.length) = decide (n ∈ o) := by decide +kernel
theorem ord3_few : ∀ o ∈ ord3, (wsrch (4 - o.length) o).length ≤ 16 := by decide +kernel
theorem ord3_ord {o : List Nat} (h : o ∈ ord3) : WOrd S3 o := ⟨(ord3_len o h).1, (ord3_len o h).2⟩
theorem wpart_len {k : Nat} {o : List Nat} (ho : o ∈ ord3) (hk : o.length + (k + 1) = 4) (e : Int) : ∀ j, j ≤ 3 → (wpart k o e j).length ≤ 1 + 16 * j
  | 0, _ => by simp [wpart]
  | j + 1, hj => by
    have h1 := wpart_len ho hk e j (by omega)
    rw [wpart_succ, List.length_append]
    by_cases hm : j ∈ o
    · rw [if_pos hm]; simp; omega
    · rw [if_neg hm]
      have h2 := ord3_few _ (ord3_app o ho j (by omega) hm)
      have h3 : 4 - (o ++ [j]).length = k := by rw [List.length_append]; simp; omega
      rw [h3] at h2; omega
abbrev fwS : D := .clo 65 [.box 0 0, .box 1 0, .box 2 0]
abbrev bx3 : List Bx := [.mu (wrC S3 R3), .mu [.own 0], .mu [fwS]]
abbrev rwA (A : List (List Int × Int)) : Row := ⟨true, 158, 2, A.map plD⟩
def l7 (o : List Nat) (j : Nat) (b0 b1 b2 b3 b4 b5 : Bool) : List (Nat × D) := [(0, ntD o), (1, .box 0 0), (2, .box 1 0), (3, .box 2 0), (7, i64 j), (25, i64 3), (26, i64 j)] ++ (bif b0 then [(32, fwS)] else []) ++ (bif b1 then [(33, ntD o)] else []) ++ (bif b2 && !b5 then [(34, .own 1)] else []) ++ (bif b3 then [(35, i64 j)] else []) ++ (bif b4 then [(36, .list [i64 j])] else []) ++ (bif b5 then [(37, ntD (o ++ [j]))] else [])
def st7 (o : List Nat) (j : Nat) (A B : List (List Int × Int)) (i : Bool) (L : Nat → Bool) : St := bif i then mkSt 40 [(0, ntD o), (1, .box 0 0), (2, .box 1 0), (3, .box 2 0), (25, i64 3), (26, i64 j)] bx3 [rwA B]
  else mkSt 40 (l7 o j (L 0) (L 1) (L 2) (L 3) (L 4) (L 5)) bx3 (rwA A :: bif (L 2 && !L 5) then [rwN o] else [])
theorem StepX.mono {c : Ctx} {o : Oper} {s : St} {K K' : St → Prop} (h : StepX c o s K) (hk : ∀ s, K s → K' s) : StepX c o s K' := by
  unfold StepX at h ⊢
  exact fun a w N' Q' hr hN => h a w N' Q' hr fun s a w hr hs => hN s a w hr (hk s hs)
def mkSr (n : Nat) (l : List (Nat × D)) (bx : List Bx) (rw : List Row) : St := ⟨n, l.foldr (fun p f => put f p.1 p.2) none', bx, rw⟩
set_option maxRecDepth 100000 in
set_option maxHeartbeats 4000000 in
theorem reg7 {ops : Array Oper} (hops : ops = opsAt Tryz.f65 7) (w0 : World) (S0 : Addr → Prop) (M0 : MM) (own : Nat → Prop) (β : List Nat) (hβ : β.length = 3) (o : List Nat) (ho : o ∈ ord3) (j : Nat) (A B : List (List Int × Int))
    (hrec : CallsB Tryz.prog 65 [ntD (o ++ [j]), .box 0 0, .box 1 0, .box 2 0] bx3 [rwA A] (fun d bx' rw' => bx' = bx3 ∧ rw' = [rwA B]))
    {Q : Exit → St → Prop} (hQ : Q .normal (mkSr 40 [(0, ntD o), (1, .box 0 0), (2, .box 1 0), (3, .box 2 0), (25, i64 3), (26, i64 j)] bx3 [rwA B])) :
    Abs ⟨Tryz.prog, w0, S0, M0, none, own, β⟩ (.region 7 ops true) Q (st7 o j A B false (fun _ => false)) := by
  have hol := (ord3_len o ho).1
  simp only [opsAt, Option.map_some, Option.getD_some, Tryz.f65, codeOps, Nat.reduceBEq, Bool.false_eq_true, if_false, if_true, List.nil_append, List.append_nil, List.cons_append, List.headD_cons, reduceIte, eq_self] at hops
  subst hops
  refine abs_flowX Tryz.ty.mixed rfl (by kernel_rfl) (st7 o j A B) (fun i L => i = L 6) false rfl RTo.refl (fun i L k op hC hok hop hL hdep => ?_) (fun i L hok hL => ?_)
  rotate_left
  · obtain rfl := hok
    rw [hL 6 (by decide)]
    exact hQ
  subst hok
  have i60 : L 6 = true → L 0 = true := fun h => hC 6 _ rfl h ⟨0, .data⟩ (by simp) rfl
  have i65 : L 6 = true → L 5 = true := fun h => hC 6 _ rfl h ⟨5, .data⟩ (by simp) rfl
  have i52 : L 5 = true → L 2 = true := fun h => hC 5 _ rfl h ⟨2, .data⟩ (by simp) rfl
  have i54 : L 5 = true → L 4 = true := fun h => hC 5 _ rfl h ⟨4, .data⟩ (by simp) rfl
  have i21 : L 2 = true → L 1 = true := fun h => hC 2 _ rfl h ⟨1, .data⟩ (by simp) rfl
  have i43 : L 4 = true → L 3 = true := fun h => hC 4 _ rfl h ⟨3, .data⟩ (by simp) rfl
  match k, hop, hL, hdep with
  | 0, hop, hL, hdep =>
    simp only [List.getElem?_cons_zero, List.getElem?_cons_succ, Option.some.injEq] at hop; subst hop
    have n6 : L 6 = false := by cases h : L 6 with | false => rfl | true => exact absurd (i60 h) (by rw [hL]; decide)
    rw [n6]
    refine StepX.mono (K := fun s' => RTo _ s' (mkSt 40 (l7 o j true (L 1) (L 2) (L 3) (L 4) (L 5)) bx3 (rwA A :: bif ((L 2) && !(L 5)) then [rwN o] else []))) ?_ (fun s' h => ⟨false, by simp [n6], h⟩)
    show StepX _ _ (mkSr 40 (l7 o j (L 0) (L 1) (L 2) (L 3) (L 4) (L 5)) bx3 (rwA A :: bif (L 2 && !L 5) then [rwN o] else [])) _
    clear hC hdep
    revert hL  i60 i65 i52 i54 i21 i43
    clear n6
    cases e6 : L 6 <;> cases e5 : L 5 <;> cases e2 : L 2 <;> cases e4 : L 4 <;> cases e1 : L 1 <;> cases e3 : L 3 <;> cases e0 : L 0 <;> intro i60 i65 i52 i54 i21 i43 hL <;> first | exact absurd hL (by decide) | exact absurd (i60 rfl) (by decide) | exact absurd (i65 rfl) (by decide) | exact absurd (i52 rfl) (by decide) | exact absurd (i54 rfl) (by decide) | exact absurd (i21 rfl) (by decide) | exact absurd (i43 rfl) (by decide) | skip
    all_goals clear hL  i60 i65 i52 i54 i21 i43
    all_goals simp only [l7, cond_true, cond_false, Bool.and_true, Bool.true_and, Bool.and_false, Bool.false_and, Bool.not_true, Bool.not_false, List.append_nil, List.cons_append, List.nil_append]
    all_goals simp only [mkSr, List.foldr]
    all_goals refine StepX.of ?_
    all_goals (refine sim ?_; try exact trivial)
    all_goals exact RTo.le (le_of rfl (by try (refine sim ?_; try exact trivial); try simp) ⟨_, rfl⟩ ⟨_, rfl⟩) (named_of rfl rfl) (by simp [mkSt]; omega)
  | 1, hop, hL, hdep =>
    simp only [List.getElem?_cons_zero, List.getElem?_cons_succ, Option.some.injEq] at hop; subst hop
    have n6 : L 6 = false := by cases h : L 6 with | false => rfl | true => exact absurd (i21 (i52 (i65 h))) (by rw [hL]; decide)
    rw [n6]
    refine StepX.mono (K := fun s' => RTo _ s' (mkSt 40 (l7 o j (L 0) true (L 2) (L 3) (L 4) (L 5)) bx3 (rwA A :: bif ((L 2) && !(L 5)) then [rwN o] else []))) ?_ (fun s' h => ⟨false, by simp [n6], h⟩)
    show StepX _ _ (mkSr 40 (l7 o j (L 0) (L 1) (L 2) (L 3) (L 4) (L 5)) bx3 (rwA A :: bif (L 2 && !L 5) then [rwN o] else [])) _
    clear hC hdep
    revert hL  i60 i65 i52 i54 i21 i43
    clear n6
    cases e6 : L 6 <;> cases e5 : L 5 <;> cases e2 : L 2 <;> cases e4 : L 4 <;> cases e1 : L 1 <;> cases e3 : L 3 <;> cases e0 : L 0 <;> intro i60 i65 i52 i54 i21 i43 hL <;> first | exact absurd hL (by decide) | exact absurd (i60 rfl) (by decide) | exact absurd (i65 rfl) (by decide) | exact absurd (i52 rfl) (by decide) | exact absurd (i54 rfl) (by decide) | exact absurd (i21 rfl) (by decide) | exact absurd (i43 rfl) (by decide) | skip
    all_goals clear hL  i60 i65 i52 i54 i21 i43
    all_goals simp only [l7, cond_true, cond_false, Bool.and_true, Bool.true_and, Bool.and_false, Bool.false_and, Bool.not_true, Bool.not_false, List.append_nil, List.cons_append, List.nil_append]
    all_goals simp only [mkSr, List.foldr]
    all_goals refine StepX.of ?_
    all_goals (refine sim ?_; try exact trivial)
    all_goals exact RTo.le (le_of rfl (by try (refine sim ?_; try exact trivial); try simp) ⟨_, rfl⟩ ⟨_, rfl⟩) (named_of rfl rfl) (by simp [mkSt]; omega)
  | 2, hop, hL, hdep =>
    simp only [List.getElem?_cons_zero, List.getElem?_cons_succ, Option.some.injEq] at hop; subst hop
    have d1 : L 1 = true := hdep ⟨1, .data⟩ (by simp) rfl
    have n6 : L 6 = false := by cases h : L 6 with | false => rfl | true => exact absurd (i52 (i65 h)) (by rw [hL]; decide)
    rw [n6]
    refine StepX.mono (K := fun s' => RTo _ s' (mkSt 40 (l7 o j (L 0) (L 1) true (L 3) (L 4) (L 5)) bx3 (rwA A :: bif (true && !(L 5)) then [rwN o] else []))) ?_ (fun s' h => ⟨false, by simp [n6], h⟩)
    show StepX _ _ (mkSr 40 (l7 o j (L 0) (L 1) (L 2) (L 3) (L 4) (L 5)) bx3 (rwA A :: bif (L 2 && !L 5) then [rwN o] else [])) _
    clear hC hdep
    revert hL d1 i60 i65 i52 i54 i21 i43
    clear n6
    cases e6 : L 6 <;> cases e5 : L 5 <;> cases e2 : L 2 <;> cases e4 : L 4 <;> cases e1 : L 1 <;> cases e3 : L 3 <;> cases e0 : L 0 <;> intro i60 i65 i52 i54 i21 i43 hL d1 <;> first | exact absurd hL (by decide) | exact absurd (i60 rfl) (by decide) | exact absurd (i65 rfl) (by decide) | exact absurd (i52 rfl) (by decide) | exact absurd (i54 rfl) (by decide) | exact absurd (i21 rfl) (by decide) | exact absurd (i43 rfl) (by decide) | exact absurd d1 (by decide) | skip
    all_goals clear hL d1 i60 i65 i52 i54 i21 i43
    all_goals simp only [l7, cond_true, cond_false, Bool.and_true, Bool.true_and, Bool.and_false, Bool.false_and, Bool.not_true, Bool.not_false, List.append_nil, List.cons_append, List.nil_append]
    all_goals simp only [mkSr, List.foldr]
    all_goals refine StepX.ofB ⟨by show 34 < 40; decide, ?_⟩
    all_goals (refine sim ?_; try exact trivial)
    all_goals refine ⟨_, argsB_same, (clone_row o (by omega) _ _ rfl).mono ?_⟩
    all_goals (rintro d bx' rw' ⟨rfl, rfl, rfl⟩; try (refine sim ?_; try exact trivial))
    all_goals exact RTo.le (le_of rfl (by try (refine sim ?_; try exact trivial); try simp) ⟨_, rfl⟩ ⟨_, rfl⟩) (named_of rfl rfl) (by simp [mkSt]; omega)
  | 3, hop, hL, hdep =>
    simp only [List.getElem?_cons_zero, List.getElem?_cons_succ, Option.some.injEq] at hop; subst hop
    have n6 : L 6 = false := by cases h : L 6 with | false => rfl | true => exact absurd (i43 (i54 (i65 h))) (by rw [hL]; decide)
    rw [n6]
    refine StepX.mono (K := fun s' => RTo _ s' (mkSt 40 (l7 o j (L 0) (L 1) (L 2) true (L 4) (L 5)) bx3 (rwA A :: bif ((L 2) && !(L 5)) then [rwN o] else []))) ?_ (fun s' h => ⟨false, by simp [n6], h⟩)
    show StepX _ _ (mkSr 40 (l7 o j (L 0) (L 1) (L 2) (L 3) (L 4) (L 5)) bx3 (rwA A :: bif (L 2 && !L 5) then [rwN o] else [])) _
    clear hC hdep
    revert hL  i60 i65 i52 i54 i21 i43
    clear n6
    cases e6 : L 6 <;> cases e5 : L 5 <;> cases e2 : L 2 <;> cases e4 : L 4 <;> cases e1 : L 1 <;> cases e3 : L 3 <;> cases e0 : L 0 <;> intro i60 i65 i52 i54 i21 i43 hL <;> first | exact absurd hL (by decide) | exact absurd (i60 rfl) (by decide) | exact absurd (i65 rfl) (by decide) | exact absurd (i52 rfl) (by decide) | exact absurd (i54 rfl) (by decide) | exact absurd (i21 rfl) (by decide) | exact absurd (i43 rfl) (by decide) | skip
    all_goals clear hL  i60 i65 i52 i54 i21 i43
    all_goals simp only [l7, cond_true, cond_false, Bool.and_true, Bool.true_and, Bool.and_false, Bool.false_and, Bool.not_true, Bool.not_false, List.append_nil, List.cons_append, List.nil_append]
    all_goals simp only [mkSr, List.foldr]
    all_goals refine StepX.of ?_
    all_goals (refine sim ?_; try exact trivial)
    all_goals exact RTo.le (le_of rfl (by try (refine sim ?_; try exact trivial); try simp) ⟨_, rfl⟩ ⟨_, rfl⟩) (named_of rfl rfl) (by simp [mkSt]; omega)
  | 4, hop, hL, hdep =>
    simp only [List.getElem?_cons_zero, List.getElem?_cons_succ, Option.some.injEq] at hop; subst hop
    have d3 : L 3 = true := hdep ⟨3, .data⟩ (by simp) rfl
    have n6 : L 6 = false := by cases h : L 6 with | false => rfl | true => exact absurd (i54 (i65 h)) (by rw [hL]; decide)
    rw [n6]
    refine StepX.mono (K := fun s' => RTo _ s' (mkSt 40 (l7 o j (L 0) (L 1) (L 2) (L 3) true (L 5)) bx3 (rwA A :: bif ((L 2) && !(L 5)) then [rwN o] else []))) ?_ (fun s' h => ⟨false, by simp [n6], h⟩)
    show StepX _ _ (mkSr 40 (l7 o j (L 0) (L 1) (L 2) (L 3) (L 4) (L 5)) bx3 (rwA A :: bif (L 2 && !L 5) then [rwN o] else [])) _
    clear hC hdep
    revert hL d3 i60 i65 i52 i54 i21 i43
    clear n6
    cases e6 : L 6 <;> cases e5 : L 5 <;> cases e2 : L 2 <;> cases e4 : L 4 <;> cases e1 : L 1 <;> cases e3 : L 3 <;> cases e0 : L 0 <;> intro i60 i65 i52 i54 i21 i43 hL d3 <;> first | exact absurd hL (by decide) | exact absurd (i60 rfl) (by decide) | exact absurd (i65 rfl) (by decide) | exact absurd (i52 rfl) (by decide) | exact absurd (i54 rfl) (by decide) | exact absurd (i21 rfl) (by decide) | exact absurd (i43 rfl) (by decide) | exact absurd d3 (by decide) | skip
    all_goals clear hL d3 i60 i65 i52 i54 i21 i43
    all_goals simp only [l7, cond_true, cond_false, Bool.and_true, Bool.true_and, Bool.and_false, Bool.false_and, Bool.not_true, Bool.not_false, List.append_nil, List.cons_append, List.nil_append]
    all_goals simp only [mkSr, List.foldr]
    all_goals refine StepX.of ?_
    all_goals (refine sim ?_; try exact trivial)
    all_goals exact RTo.le (le_of rfl (by try (refine sim ?_; try exact trivial); try simp) ⟨_, rfl⟩ ⟨_, rfl⟩) (named_of rfl rfl) (by simp [mkSt]; omega)
  | 5, hop, hL, hdep =>
    simp only [List.getElem?_cons_zero, List.getElem?_cons_succ, Option.some.injEq] at hop; subst hop
    have d2 : L 2 = true := hdep ⟨2, .data⟩ (by simp) rfl
    have d4 : L 4 = true := hdep ⟨4, .data⟩ (by simp) rfl
    have n6 : L 6 = false := by cases h : L 6 with | false => rfl | true => exact absurd (i65 h) (by rw [hL]; decide)
    rw [n6]
    refine StepX.mono (K := fun s' => RTo _ s' (mkSt 40 (l7 o j (L 0) (L 1) (L 2) (L 3) (L 4) true) bx3 (rwA A :: bif ((L 2) && !true) then [rwN o] else []))) ?_ (fun s' h => ⟨false, by simp [n6], h⟩)
    show StepX _ _ (mkSr 40 (l7 o j (L 0) (L 1) (L 2) (L 3) (L 4) (L 5)) bx3 (rwA A :: bif (L 2 && !L 5) then [rwN o] else [])) _
    clear hC hdep
    revert hL d2 d4 i60 i65 i52 i54 i21 i43
    clear n6
    cases e6 : L 6 <;> cases e5 : L 5 <;> cases e2 : L 2 <;> cases e4 : L 4 <;> cases e1 : L 1 <;> cases e3 : L 3 <;> cases e0 : L 0 <;> intro i60 i65 i52 i54 i21 i43 hL d2 d4 <;> first | exact absurd hL (by decide) | exact absurd (i60 rfl) (by decide) | exact absurd (i65 rfl) (by decide) | exact absurd (i52 rfl) (by decide) | exact absurd (i54 rfl) (by decide) | exact absurd (i21 rfl) (by decide) | exact absurd (i43 rfl) (by decide) | exact absurd d2 (by decide) | exact absurd d4 (by decide) | skip
    all_goals clear hL d2 d4 i60 i65 i52 i54 i21 i43
    all_goals simp only [l7, cond_true, cond_false, Bool.and_true, Bool.true_and, Bool.and_false, Bool.false_and, Bool.not_true, Bool.not_false, List.append_nil, List.cons_append, List.nil_append]
    all_goals simp only [mkSr, List.foldr]
    all_goals refine StepX.of ?_
    all_goals (refine sim ?_; try exact trivial)
    all_goals refine ⟨by omega, by omega, RTo.trans (RTo.read 37 (d' := ntD (o ++ [j])) (by rw [put_same]; show some (D.list (_ ++ _)) = _; simp)) (RTo.le (le_of rfl (by try (refine sim ?_; try exact trivial); try simp) ⟨_, rfl⟩ ⟨_, rfl⟩) (named_of rfl rfl) (by simp [mkSt]; omega))⟩
  | 6, hop, hL, hdep =>
    simp only [List.getElem?_cons_zero, List.getElem?_cons_succ, Option.some.injEq] at hop; subst hop
    have d0 : L 0 = true := hdep ⟨0, .data⟩ (by simp) rfl
    have d5 : L 5 = true := hdep ⟨5, .data⟩ (by simp) rfl
    refine StepX.mono (K := fun s' => RTo _ s' (mkSt 40 [(0, ntD o), (1, .box 0 0), (2, .box 1 0), (3, .box 2 0), (25, i64 3), (26, i64 j)] bx3 [rwA B])) ?_ (fun s' h => ⟨true, rfl, h⟩)
    rw [hL]
    show StepX _ _ (mkSr 40 (l7 o j (L 0) (L 1) (L 2) (L 3) (L 4) (L 5)) bx3 (rwA A :: bif (L 2 && !L 5) then [rwN o] else [])) _
    clear hC hdep
    revert hL d0 d5 i60 i65 i52 i54 i21 i43
    cases e6 : L 6 <;> cases e5 : L 5 <;> cases e2 : L 2 <;> cases e4 : L 4 <;> cases e1 : L 1 <;> cases e3 : L 3 <;> cases e0 : L 0 <;> intro i60 i65 i52 i54 i21 i43 hL d0 d5 <;> first | exact absurd hL (by decide) | exact absurd (i60 rfl) (by decide) | exact absurd (i65 rfl) (by decide) | exact absurd (i52 rfl) (by decide) | exact absurd (i54 rfl) (by decide) | exact absurd (i21 rfl) (by decide) | exact absurd (i43 rfl) (by decide) | exact absurd d0 (by decide) | exact absurd d5 (by decide) | skip
    all_goals clear hL d0 d5 i60 i65 i52 i54 i21 i43
    all_goals simp only [l7, cond_true, cond_false, Bool.and_true, Bool.true_and, Bool.and_false, Bool.false_and, Bool.not_true, Bool.not_false, List.append_nil, List.cons_append, List.nil_append]
    all_goals simp only [mkSr, List.foldr]
    all_goals refine StepX.ofB ⟨by show 38 < 40; decide, ?_⟩
    all_goals (refine sim ?_; try exact trivial)
    all_goals refine ⟨_, argsB_same, hrec.mono ?_⟩
    all_goals (rintro d bx' rw' ⟨rfl, rfl⟩; try (refine sim ?_; try exact trivial))
    all_goals exact RTo.le (le_of rfl (by try (refine sim ?_; try exact trivial); try simp) ⟨_, rfl⟩ ⟨_, rfl⟩) (named_of rfl rfl) (by simp [mkSt]; omega)
  | k + 7, hop, hL, hdep => simp at hop
set_option maxRecDepth 100000 in
set_option maxHeartbeats 4000000 in
theorem search_ok : ∀ (k : Nat) (o : List Nat), o ∈ ord3 → o.length + k = 4 → ∀ A : List (List Int × Int), A.length ≤ 49 * o.length →
    CallsB Tryz.prog 65 [ntD o, .box 0 0, .box 1 0, .box 2 0] bx3 [rwA A] (fun d bx' rw' => bx' = bx3 ∧ rw' = [rwA (A ++ wsrch k o)]) := by
  intro k
  induction k with
  | zero => intro o ho hk; have := (ord3_len o ho).1; omega
  | succ k ih =>
    intro o ho hk A hA
    have hol := (ord3_len o ho).1
    have c1 := wsur_ok S3 R3 S3_ok o (ord3_ord ho)
    have c2 := clone_ok o (by omega)
    cases hs : wsr S3 R3 o with
    | none =>
      rw [hs] at c1
      have hw : A ++ wsrch (k + 1) o = A := by simp [wsrch, hs]
      rw [hw]
      refine callsB_abs Tryz.func65 Tryz.ntmps65 Tryz.results65 Tryz.call65 rfl (by simp) fun W0 S0 M0 own β hβ => ?_
      repeat' (first | (show retB _ _ _ _ _; (refine sim ?_; try exact trivial)) | refine st1 ?_ | ((first | refine abs_region fun K hK => ?_ | refine abs_draw Tryz.ty.mixed (by kernel_rfl) fun K hK => ?_ | refine abs_if ?_ | show retQ _ _ _ _ _ | refine callK (c1) ?_); (refine sim ?_; try exact trivial)) | ((first | (refine hK _ ?_; clear hK K) | show thenQ _ _ _ _ | show blockQ _ _ _ _ | show noGoQ _ _ _); refine qst ?_) | (intro hg; try exact fin2) | apply And.intro | exact fin | fail)
      all_goals trace_state
    | some e =>
      rw [hs] at c1
      have hw : wsrch (k + 1) o = wpart k o e 3 := by simp [wsrch, hs, wpart]
      rw [hw]
      have hpl : ∀ j, j ≤ 3 → (wpart k o e j).length ≤ 1 + 16 * j := wpart_len ho hk e
      have hin : ∀ j, j < 3 → CallsTo Tryz.prog 68 [ntD o, i64 (j : Nat)] (.bool (decide (j ∈ o))) := fun j hj => by
        have := wcontains_ok (ntI o) (j : Nat) (by simp; omega)
        rwa [nt_ints, List.length_map, ord3_in o ho j hj] at this
      refine callsB_abs Tryz.func65 Tryz.ntmps65 Tryz.results65 Tryz.call65 rfl (by simp) fun W0 S0 M0 own β hβ => ?_
      repeat' (first | (show retB _ _ _ _ _; (refine sim ?_; try exact trivial)) | refine st1 ?_ | ((first | (show Abs _ (.region 2 _ true) _ _; refine abs_drawX [] [] Tryz.ty.mixed (by kernel_rfl) fun K hK => ?_) | show Sep _ _ | show Bxs _ _ | refine abs_region fun K hK => ?_ | refine abs_draw Tryz.ty.mixed (by kernel_rfl) fun K hK => ?_ | refine abs_if ?_ | show retQ _ _ _ _ _ | refine callK (c1) ?_ | refine callK (c2) ?_); (refine sim ?_; try exact trivial)) | ((first | (refine hK _ ?_; clear hK K) | show thenQ _ _ _ _ | show blockQ _ _ _ _ | show noGoQ _ _ _); refine qst ?_) | (intro hg; try exact fin2) | apply And.intro | exact fin | fail)
      refine abs_loopN (ι := Nat) (fun j => [(0, ntD o), (1, .box 0 0), (2, .box 1 0), (3, .box 2 0), (25, i64 3), (26, i64 (j : Nat))]) (fun _ => bx3) (fun j => [rwA (A ++ wpart k o e j)]) (fun j => j ≤ 3) (fun j => 3 - j) (fun _ _ => ⟨rfl, rfl⟩) 0 (by omega) (le_of rfl (by try (refine sim ?_; try exact trivial); try simp [S3]) ⟨_, rfl⟩ ⟨[], by simp [wpart, Function.comp_def]⟩) (fun j hj => ?_) (fun _ _ => by rw [hβ]; exact Nat.le_refl _)
      have hp := hpl j hj
      by_cases hlt : j < 3
      · have c3 := hin j hlt
        by_cases hm : j ∈ o
        · rw [decide_eq_true hm] at c3
          have hs2 : wpart k o e (j + 1) = wpart k o e j := by rw [wpart_succ, if_pos hm]; simp
          (refine sim ?_; try exact trivial)
          repeat' (first | (show retB _ _ _ _ _; (refine sim ?_; try exact trivial)) | refine st1 ?_ | ((first | refine abs_region fun K hK => ?_ | refine abs_draw Tryz.ty.mixed (by kernel_rfl) fun K hK => ?_ | refine abs_if ?_ | show retQ _ _ _ _ _ | refine callK (c3) ?_); (refine sim ?_; try exact trivial)) | ((first | (refine hK _ ?_; clear hK K) | show thenQ _ _ _ _ | show blockQ _ _ _ _ | show noGoQ _ _ _); refine qst ?_) | (intro hg; try exact fin2) | apply And.intro | exact fin | fail)
          all_goals exact ⟨j + 1, by omega, by omega, le_of rfl (by try (refine sim ?_; try exact trivial); try simp) ⟨_, rfl⟩ ⟨[], by rw [hs2]; rfl⟩⟩
        · rw [decide_eq_false hm] at c3
          have hs2 : wpart k o e (j + 1) = wpart k o e j ++ wsrch k (o ++ [j]) := by rw [wpart_succ, if_neg hm]
          have hrec := ih (o ++ [j]) (ord3_app o ho j hlt hm) (by simp; omega) (A ++ wpart k o e j) (by simp; omega)
          (refine sim ?_; try exact trivial)
          repeat' (first | (show retB _ _ _ _ _; (refine sim ?_; try exact trivial)) | (show Abs _ (.region 7 _ true) _ _; refine abs_le (st7 o j (A ++ wpart k o e j) (A ++ wpart k o e j ++ wsrch k (o ++ [j])) false (fun _ => false)) (le_of (l := l7 o j false false false false false false) rfl (by simp [l7, put]) ⟨[], rfl⟩ ⟨[], rfl⟩) (named_of rfl rfl) (Nat.le_of_eq hβ) (reg7 (by rfl) _ _ _ _ _ hβ o ho j _ _ hrec ?_); simp only [mkSr, List.foldr]) | refine st1 ?_ | ((first | refine abs_region fun K hK => ?_ | refine abs_draw Tryz.ty.mixed (by kernel_rfl) fun K hK => ?_ | refine abs_if ?_ | show retQ _ _ _ _ _ | refine callK (c3) ?_); (refine sim ?_; try exact trivial)) | ((first | (refine hK _ ?_; clear hK K) | show thenQ _ _ _ _ | show blockQ _ _ _ _ | show noGoQ _ _ _); refine qst ?_) | (intro hg; try exact fin2) | apply And.intro | exact fin | fail)
          all_goals exact ⟨j + 1, by omega, by omega, le_of rfl (by try (refine sim ?_; try exact trivial); try simp) ⟨_, rfl⟩ ⟨[], by rw [hs2]; simp⟩⟩
      · obtain rfl : j = 3 := by omega
        (refine sim ?_; try exact trivial)
        repeat' (first | (show retB _ _ _ _ _; (refine sim ?_; try exact trivial)) | refine st1 ?_ | ((first | refine abs_region fun K hK => ?_ | refine abs_draw Tryz.ty.mixed (by kernel_rfl) fun K hK => ?_ | refine abs_if ?_ | show retQ _ _ _ _ _); (refine sim ?_; try exact trivial)) | ((first | (refine hK _ ?_; clear hK K) | show thenQ _ _ _ _ | show blockQ _ _ _ _ | show noGoQ _ _ _); refine qst ?_) | (intro hg; try exact fin2) | apply And.intro | exact fin | fail)
        all_goals trace_state
end Go.Proofs.YtmnepfejoneghaaGreatDoor
namespace Go.Proofs.YtmnepfejoneghaaGreatDoor
open Go.Ab
attribute [local irreducible] Abs CallK CallR CallsTo CallsB IA PI.CallsE StepX
theorem CallsB.nil0 {P : Program} {f : FuncId} {ds : List D} {bx : List Bx} {rw : List Row} {K : D → List Bx → List Row → Prop} (h : CallsB P f (.list [] :: ds) bx rw K) : CallsB P f (.val (.slice none 0 0) :: ds) bx rw K := by
  unfold CallsB at h ⊢
  refine ⟨h.1, fun c st a W g args hP hg hb hr hl hrel => h.2 c st a W g args hP hg hb hr hl fun q x hx => ?_⟩
  cases q with
  | zero =>
    cases hx
    have h0 := hrel 0 _ rfl
    generalize args.getD 0 Go.undef = v at h0
    cases h0
    exact Rel.nil _ _
  | succ q => exact hrel (q + 1) x (by simpa using hx)
abbrev allP : List (List Int × Int) := wsrch 4 []
theorem allP_best : wbst allP allP.length = ([0, 1, 2], 11) := by decide +kernel
theorem allP_pos : 0 < allP.length ∧ allP.length ≤ 2000 := by decide +kernel
theorem allP_len : ∀ i, i < allP.length → (nth allP i).1.length ≤ 100 := by decide +kernel
set_option maxRecDepth 100000 in
set_option maxHeartbeats 4000000 in
theorem wbestR_ok : CallsTo Tryz.prog 24 [.agg (wrC S3 R3)] (.tup [ints [0, 1, 2], i64 11, i64 0]) := by
  have c1 := rvalid_ok S3 R3 S3_ok
  have c2 := CallsB.nil0 (search_ok 4 [] (by decide) rfl [] (by decide))
  have c3 := wbest_ok allP allP_pos.1 allP_pos.2 allP_len
  rw [allP_best] at c3
  rw [List.nil_append] at c2
  change CallsB Tryz.prog 65 [.val (.slice none 0 0), .box 0 0, .box 1 0, .box 2 0] bx3 [⟨true, 158, 2, []⟩] (fun d bx' rw' => bx' = bx3 ∧ rw' = [⟨true, 158, 2, allP.map plD⟩]) at c2
  generalize allP = PL at *
  refine calls_abs Tryz.func24 Tryz.ntmps24 Tryz.results24 Tryz.call24 rfl (by simp) fun w0 S0 M0 => ?_
  repeat' (first | (show Abs _ (.seq (.region 6 _ _) _) _ _; refine abs_adoptB 1 0 158 2 _ rfl rfl ?_; refine abs_seq ?_; refine abs_regionB 1 rfl (fun K1 hK1 => ?_); (refine sim ?_; try exact trivial)) | (refine hK1 _ (atB_intro ?_ ?_); clear hK1 K1; (refine sim ?_; try exact trivial); refine ⟨_, argsB_same, c2.mono ?_⟩; rintro d bx' rw' ⟨rfl, rfl⟩; try (refine sim ?_; try exact trivial)) | refine st1 ?_ | ((first | refine abs_region fun K hK => ?_ | refine abs_draw Tryz.ty.mixed (by kernel_rfl) fun K hK => ?_ | refine abs_if ?_ | show retQ _ _ _ _ _ | refine callK (c1) ?_ | refine callK (c3) ?_); (refine sim ?_; try exact trivial)) | ((first | (refine hK _ ?_; clear hK K) | show thenQ _ _ _ _ | show blockQ _ _ _ _ | show noGoQ _ _ _); refine qst ?_) | (intro hg; try exact fin2) | apply And.intro | exact fin | fail)
  all_goals first | (show dstOk _ _; (refine sim ?_; try exact trivial); done) | trace_state
end Go.Proofs.YtmnepfejoneghaaGreatDoor
namespace Go.Proofs.YtmnepfejoneghaaGreatDoor
open Go.Ab
attribute [local irreducible] Abs CallK CallR CallsTo CallsB IA PI.CallsE StepX
theorem bnds3 : ∃ a b c d e g h i j k l : D, bnds 4 100 st3 12 = [a, b, c, d, e, .agg [i64 75850, i64 75870], g, h, i, j, k, l] :=
  ⟨_, _, _, _, _, _, _, _, _, _, _, by rw [← bnd5.1, ← bnd5.2]; rfl⟩
theorem wn5 {a b c d e f : D} {l : List D} {k : D → Prop} : wNth (a :: b :: c :: d :: e :: f :: l) 5 k = k f := by unfold wNth; simp
set_option maxRecDepth 100000 in
set_option maxHeartbeats 4000000 in
theorem known_ok : CallsTo Tryz.prog 6 [] (.bool true) := by
  have c16 := stat_ok
  have c17 := read_ok
  have c15 := k4
  have c18 := k2
  have c20 := cM_ok
  have c19 := cB_ok
  have c22 := W_ok
  have c21 := known5a
  have c23 := L_ok
  have c11 := known5b
  have c25 := Round_ok
  have c24 := wbestR_ok
  have c26 := rsame_ok [0, 1, 2] [0, 1, 2] (by decide) (by decide)
  rw [decide_eq_true (rfl : ([0, 1, 2] : List Int) = [0, 1, 2])] at c26
  obtain ⟨x0, x1, x2, x3, x4, x6, x7, x8, x9, x10, x11, hb⟩ := bnds3
  rw [hb] at c19
  refine calls_abs Tryz.func6 Tryz.ntmps6 Tryz.results6 Tryz.call6 rfl (by simp) fun w0 S0 M0 => ?_
  repeat' (first | refine st1 ?_ | ((first | refine abs_region fun K hK => ?_ | refine abs_draw Tryz.ty.mixed (by kernel_rfl) fun K hK => ?_ | refine abs_if ?_ | show retQ _ _ _ _ _ | refine callK (c16) ?_ | refine callK (c17) ?_ | refine callK (c15) ?_ | refine callK (c18) ?_ | refine callK (c20) ?_ | refine callK (c19) ?_ | refine callK (c22) ?_ | refine callK (c21) ?_ | refine callK (c23) ?_ | refine callK (c11) ?_ | refine callK (c25) ?_ | refine callK (c24) ?_ | refine callK (c26) ?_); (refine withX (@wn5) fun hX => ?_; refine simh ?_; clear hX; try exact trivial)) | ((first | (refine hK _ ?_; clear hK K) | show thenQ _ _ _ _ | show blockQ _ _ _ _ | show noGoQ _ _ _); refine qst ?_) | (intro hg; try exact fin2) | apply And.intro | exact fin | fail)
  all_goals trace_state
end Go.Proofs.YtmnepfejoneghaaGreatDoor
/- The plain law of sheets that are copied. -/
namespace Go.Proofs.YtmnepfejoneghaaGreatDoor
open Go.Ab Go.Watch
/-- The own sheet, the first days copied where they are. -/
def cpK (l own : List Rdg) (cs : List Bool) : Nat → List Rdg
  | 0 => own
  | k + 1 => if nth cs k = true then (cpK l own cs k).set k { nth (cpK l own cs k) k with mer := (nth l k).mer } else cpK l own cs k
def many (cs : List Bool) : Nat → Nat
  | 0 => 0
  | k + 1 => many cs k + (if nth cs k = true then 1 else 0)
theorem cpK_len (l own : List Rdg) (cs : List Bool) : ∀ k, (cpK l own cs k).length = own.length
  | 0 => rfl
  | k + 1 => by
    simp only [cpK]
    split
    · rw [List.length_set, cpK_len l own cs k]
    · exact cpK_len l own cs k
theorem nth_set_same {α : Type} [Inhabited α] {xs : List α} {k : Nat} {x : α} (h : k < xs.length) : nth (xs.set k x) k = x := by
  rw [nth_eq _ _ (by simpa using h)]; simp
theorem nth_set_ne {α : Type} [Inhabited α] {xs : List α} {k i : Nat} {x : α} (h : i < xs.length) (hne : k ≠ i) : nth (xs.set k x) i = nth xs i := by
  rw [nth_eq _ _ (by simpa using h), nth_eq _ _ h]; simp [hne]
theorem cpK_at (l own : List Rdg) (cs : List Bool) : ∀ k, k ≤ own.length → ∀ i, i < own.length → nth (cpK l own cs k) i = if i < k ∧ nth cs i = true then { nth own i with mer := (nth l i).mer } else nth own i
  | 0, _, i, hi => by simp [cpK]
  | k + 1, hk, i, hi => by
    have ih := cpK_at l own cs k (by omega)
    have hlen := cpK_len l own cs k
    simp only [cpK]
    by_cases hc : nth cs k = true
    · rw [if_pos hc]
      by_cases hik : i = k
      · subst hik
        rw [nth_set_same (by omega), ih i hi, if_neg (by omega), if_pos ⟨by omega, hc⟩]
      · rw [nth_set_ne (by omega) (Ne.symm hik), ih i hi]
        by_cases h2 : i < k ∧ nth cs i = true
        · rw [if_pos h2, if_pos ⟨by omega, h2.2⟩]
        · rw [if_neg h2, if_neg (fun h => h2 ⟨by omega, h.2⟩)]
    · rw [if_neg hc, ih i hi]
      by_cases h2 : i < k ∧ nth cs i = true
      · rw [if_pos h2, if_pos ⟨by omega, h2.2⟩]
      · rw [if_neg h2, if_neg (fun h => h2 ⟨by
          rcases Nat.lt_or_eq_of_le (Nat.le_of_lt_succ h.1) with h3 | h3
          · exact h3
          · subst h3; exact absurd h.2 hc, h.2⟩)]
theorem cpK_ok {l own : List Rdg} (cs : List Bool) (hl : ShOk l) (ho : ShOk own) (hn : own.length = l.length) : ShOk (cpK l own cs own.length) := by
  intro i hi
  rw [cpK_len] at hi
  rw [cpK_at l own cs own.length (Nat.le_refl _) i hi]
  have h1 := ho i hi
  have h2 := hl i (by omega)
  split
  · exact ⟨h1.d, h1.m, h1.c, h2.q, h1.a, h1.y, h1.w⟩
  · exact h1
abbrev figs (l : List Rdg) : List Int := l.map fun r => r.mer % 10
theorem figs_at {l : List Rdg} {i : Nat} (h : i < l.length) : nth (figs l) i = (nth l i).mer % 10 := by
  rw [nth_eq _ _ (by simpa using h), nth_eq _ _ h]; simp
theorem figs_ok (odds : Int) (ho : 1 ≤ odds ∧ odds ≤ 1000000) {y l : List Rdg} (hl : y.length = l.length) (hn : y.length ≤ 18) : LogOk odds (figs y) (figs l) where
  o := ho
  l := by simp [hl]
  n := by simpa using hn
  a i hi := by rw [figs_at (by simpa using hi)]; omega
  b i hi := by simp only [List.length_map] at hi; rw [figs_at (by omega)]; omega
theorem many_le (cs : List Bool) : ∀ k, many cs k ≤ k
  | 0 => Nat.le_refl _
  | k + 1 => by
    have := many_le cs k
    simp only [many]; split <;> omega
theorem many_eqs {l own : List Rdg} (cs : List Bool) (hn : own.length = l.length) : ∀ k, k ≤ own.length → (many cs k : Int) ≤ eqs (figs (cpK l own cs own.length)) (figs l) k
  | 0, _ => by simp [many, eqs]
  | k + 1, hk => by
    have ih := many_eqs (l := l) (own := own) cs hn k (by omega)
    simp only [many, eqs]
    by_cases hc : nth cs k = true
    · rw [if_pos hc]
      have : nth (figs (cpK l own cs own.length)) k = nth (figs l) k := by
        rw [figs_at (by rw [cpK_len]; omega), figs_at (by omega), cpK_at l own cs own.length (Nat.le_refl _) k (by omega), if_pos ⟨by omega, hc⟩]
      rw [if_pos this]; omega
    · rw [if_neg hc]
      split <;> omega
/-- Convicted of copying just if as many agree as convict. -/
theorem judge_need {n m q : Nat} {o : Int} (hn : n ≤ 18) (hm : m ≤ n) : vdN n o m q = 3 ↔ needN n o ≤ m := by
  have hs := firstN_spec (fun k => exB n o (ag n k)) (n + 1) 0
  change _ ∧ _ ∧ _ ∧ _ at hs
  obtain ⟨h1, h2, h3, h4⟩ := hs
  have hex : exB n o (ag n m) = true ↔ needN n o ≤ m := by
    constructor
    · intro h
      refine Nat.le_of_not_lt fun hlt => ?_
      have := h3 m (Nat.zero_le _) hlt
      exact absurd (h.symm.trans this) (by decide)
    · intro h
      have h5 : exB n o (ag n (needN n o)) = true := h4 (by show needN n o < 0 + (n + 1); omega)
      have h6 := ag_mono hn h
      unfold exB at h5 ⊢
      simp only [decide_eq_true_eq] at h5 ⊢
      omega
  rw [← hex]
  unfold vdN
  by_cases h : exB n o (ag n m) = true
  · simp [h]
  · rw [if_neg h]
    constructor
    · intro h2; split at h2 <;> simp at h2
    · intro h2; exact absurd h2 h
theorem flat_rd : ∀ l : List Rdg, (flat (l.map rdD)).length = 10 * l.length
  | [] => rfl
  | r :: l => by
    have := flat_rd l
    show (([_, _, _, _, _, _, _, _, _, _] : List D) ++ flat (l.map rdD)).length = _
    simp [this]; omega
/-- One mercury is written. -/
theorem flat_upd {y : List Rdg} {k : Nat} (h : k < y.length) (v : Int) (U : List D) :
    (flat (y.map rdD) ++ U).take (k * 10 + 3) ++ [i64 v] ++ (flat (y.map rdD) ++ U).drop (k * 10 + 3 + 1) = flat ((y.set k { nth y k with mer := v }).map rdD) ++ U := by
  obtain ⟨A, r, B, hY, hA⟩ : ∃ A r B, y = A ++ r :: B ∧ A.length = k := ⟨y.take k, y[k], y.drop (k + 1), by rw [← List.drop_eq_getElem_cons h, List.take_append_drop], by simp; omega⟩
  subst hA
  have hr : nth y A.length = r := by rw [nth_eq _ _ h]; simp [hY]
  rw [hr]
  subst hY
  have hF := flat_rd A
  have e1 : flat ((A ++ r :: B).map rdD) = flat (A.map rdD) ++ ([i64 r.day, i64 r.min, i64 r.clk, i64 r.mer, i64 r.al, i64 r.ah, i64 r.dl, i64 r.dh, i64 r.wl, i64 r.wh] ++ flat (B.map rdD)) := by
    simp [flat, D.cells]
  have e2 : flat (((A ++ r :: B).set A.length { r with mer := v }).map rdD) = flat (A.map rdD) ++ ([i64 r.day, i64 r.min, i64 r.clk, i64 v, i64 r.al, i64 r.ah, i64 r.dl, i64 r.dh, i64 r.wl, i64 r.wh] ++ flat (B.map rdD)) := by
    simp [flat, D.cells]
  rw [e1, e2]
  generalize flat (A.map rdD) = F at *
  have hk : A.length * 10 + 3 = F.length + 3 := by omega
  rw [hk, Nat.add_assoc F.length 3 1, List.append_assoc F, List.take_length_add_append, List.drop_length_add_append]
  simp
end Go.Proofs.YtmnepfejoneghaaGreatDoor
