import Derived.Test.YthamljpomhjepaaP13
set_option linter.unusedVariables false
set_option linter.unusedSimpArgs false
namespace Go.Proofs.Ythamljpomhjepaa
open Go.Ab Go.RowKit Go
theorem abs_wp {c : Ctx} {code : Code} {Q : Exit → St → Prop} {s : St} {a : Act} {w : World} {Q' : Exit → Act → World → Prop} (hr : R c s a w) (h : Abs c code Q s) (hp : ∀ e a' w' s', R c s' a' w' → Q e s' → Q' e a' w') : code.wpIn c.F 0 c.P Q' a w :=
  wpIn_mono (h a w hr) fun e a' w' ⟨s', r, q⟩ => hp e a' w' s' r q
attribute [local irreducible] Abs CallK CallR CallsTo AbsP
set_option linter.unusedSimpArgs false

theorem swapAct {c : Ctx} {s : St} {a a' : Act} {w : World} {g : Gh} {n : Nat} {sl : Nat → D} (h : RG c s a w g) (hs : a'.tmps.size = n) (hsl : ∀ m, Rel w g (a'.tmps.getD m undef) (sl m)) (hd : a'.defers = a.defers) : RG c ⟨n, sl, s.bx, s.rw⟩ a' w g :=
  ⟨⟨hd ▸ h.df.dok, h.df.mok, h.df.m0, h.df.mfrom, h.df.anc, h.df.kp0⟩, hs, h.below, h.own0, h.good, h.from0, h.S0, h.good0, h.lβ, h.lρ, hsl, h.bx, h.fz, h.rw, h.ap⟩
theorem R_init {P : Program} {S : Addr → Prop} {M : MM} {w : World} {args : List Value} {ds : List D} {n : Nat} (hS : Go.Ab.Good w S) (hM : MOk w M) (hl : args.length = ds.length) (hn : ds.length ≤ n) (hrel : ∀ q x, ds[q]? = some x → Rel w ⟨S, [], [], M⟩ (args.getD q Go.undef) x) :
    R ⟨P, w, S, M, none, fun b => w.heap.size ≤ b, []⟩ ⟨n, ofL 0 ds, [], []⟩ { tmps := args.toArray ++ Array.replicate (n - args.toArray.size) undef, defers := [] } w := by
  refine ⟨⟨S, [], [], M⟩, ⟨⟨List.nodup_nil, fun d hd => by cases hd⟩, hM, fun _ _ h => h, fun _ _ h => .inl h, fun i b h => by simp at h, fun _ _ => rfl⟩, by simp; omega, .of (Below.refl _ _), fun _ h => h, hS, fun _ h => .inl h, fun _ h => h, hS, rfl, rfl, ?_, ?_, ?_, ?_, ?_⟩
  · intro m
    simp only
    rw [ofL_at]
    simp only [Nat.not_lt_zero, if_false, Nat.sub_zero]
    cases hd : ds[m]? with
    | none => exact .undef _ _
    | some x =>
      have hm := (List.getElem?_eq_some_iff.1 hd).1
      have := hrel m x hd
      have e : (args.toArray ++ Array.replicate (n - args.toArray.size) undef).getD m undef = args.getD m undef := by
        have : m < args.length := by omega
        simp [Array.getElem?_append, this]
      rw [e]; exact this
  · intro i cs hi; simp at hi
  · intro i cs hi; simp at hi
  · intro i cs hi; simp at hi
  · exact ⟨fun _ => .inl 0, fun i x b hi => by simp at hi, fun r row v gb hr => by simp at hr⟩

/-- What Game tells. -/
def gmT (c step : Int) (P : List (List Int)) : List D := if Tab c step P then
  (match gmR (stm c.toNat step) P with
    | none => [ints [], ints [], i64 0, i64 5]
    | some i => [ints (nth (stm c.toNat step) i), ints (nth (stm c.toNat step) (gmB (stm c.toNat step) P i).1.toNat), i64 ((gmB (stm c.toNat step) P i).2 - gmO (stm c.toNat step) P i), i64 0]) else [ints [], ints [], i64 0, i64 2]

set_option maxRecDepth 100000 in
set_option maxHeartbeats 4000000 in
theorem game_no (c step : Int) (P : List (List Int)) (h : ¬ Tab c step P) : CallsTo Try.prog 50 [.agg [i64 c, i64 step, intss P]] (.tup (gmT c step P)) := by
  have q := ptable_ok c step P
  rw [decide_eq_false h] at q
  unfold gmT
  rw [if_neg h]
  refine calls_abs Try.func50 Try.ntmps50 Try.results50 Try.call50 rfl (by simp) fun w0 S0 M0 => ?_
  repeat' (first
      | refine abs_seq ?_
      | refine abs_block ?_
      | refine abs_skip ?_
      | refine abs_exit ?_
      | refine abs_ret ?_
      | ((first | refine abs_region fun K hK => ?_ | refine abs_draw Try.ty.mixed (by kernel_rfl) fun K hK => ?_ | refine abs_if ?_); simp only [go_sem, bas, basL, Nat.reduceAdd, Nat.reduceSub, Nat.reduceMul, Nat.reduceLT, Nat.reduceLeDiff, Nat.reduceEqDiff, Nat.reduceBEq, Int.reduceLT, Int.reduceLE, Int.reduceToNat, Int.reduceAdd, Int.reduceSub, Int.reduceMul, Int.reduceNeg, Int.reduceEq, reduceCtorEq, eq_self, ne_eq, not_false_eq_true, if_true, reduceIte])
      | (refine hK _ ?_; clear hK K; simp only [thenQ, blockQ, if_true, Nat.reduceEqDiff, reduceIte])
      | (show thenQ _ _ _ _; simp only [thenQ, blockQ, if_true, Nat.reduceEqDiff, reduceIte])
      | (show blockQ _ _ _ _; simp only [thenQ, blockQ, if_true, Nat.reduceEqDiff, reduceIte])
      | (refine callK (q) ?_; try simp only [go_sem, bas, basL, Nat.reduceAdd, Nat.reduceSub, Nat.reduceMul, Nat.reduceLT, Nat.reduceLeDiff, Nat.reduceEqDiff, Nat.reduceBEq, Int.reduceLT, Int.reduceLE, Int.reduceToNat, Int.reduceAdd, Int.reduceSub, Int.reduceMul, Int.reduceNeg, Int.reduceEq, reduceCtorEq, eq_self, ne_eq, not_false_eq_true, if_true, reduceIte])
      | (show retQ _ _ _ _ _; simp only [go_sem, bas, basL, Nat.reduceAdd, Nat.reduceSub, Nat.reduceMul, Nat.reduceLT, Nat.reduceLeDiff, Nat.reduceEqDiff, Nat.reduceBEq, Int.reduceLT, Int.reduceLE, Int.reduceToNat, Int.reduceAdd, Int.reduceSub, Int.reduceMul, Int.reduceNeg, Int.reduceEq, reduceCtorEq, eq_self, ne_eq, not_false_eq_true, if_true, reduceIte])
      | (intro hg; first | (exfalso; omega) | (exfalso; contradiction) | skip)
      | apply And.intro
      | (with_reducible rfl)
      | (clear hK; omega)
      | omega)
  rfl

/-- The frame of Game, once its table is found to be one. -/
def gS (c step : Int) (P : List (List Int)) : St := mkSt 12 [(1, .box 0 0), (2, .box 1 0), (3, .box 2 0), (4, .box 3 0), (5, .box 4 0)] [.mu [i64 c, i64 step, intss P], .mu [.val (.slice none 0 0)], .mu [.val (.slice none 0 0)], .mu [i64 0], .mu [i64 0]] []
theorem gS_named (c step : Int) (P : List (List Int)) : (gS c step P).named := named_of rfl rfl

set_option maxRecDepth 100000 in
set_option maxHeartbeats 4000000 in
theorem game_yes (c step : Int) (P : List (List Int)) (h : Tab c step P) : CallsTo Try.prog 50 [.agg [i64 c, i64 step, intss P]] (.tup (gmT c step P)) := by
  have q := ptable_ok c step P
  rw [decide_eq_true h] at q
  have ql := plook_ok c step P h
  unfold gmT
  rw [if_pos h]
  generalize stm c.toNat step = Z at *
  unfold CallsTo
  refine ⟨Try.call50, fun S M w args hS hM hl hrel => ?_⟩
  refine (callsIn_wide (n := 0)).1 (callsIn_of_wp_marks Try.func50 rfl trivial ?_)
  have hr := R_init (P := Try.prog) (n := 12) hS hM hl (by simp) hrel
  have hnt : Try.f50.ntmps = 12 := rfl
  rw [hnt]
  generalize ({ tmps := args.toArray ++ Array.replicate (12 - args.toArray.size) undef, defers := [] } : Act) = a0 at hr ⊢
  refine wpIn_seq (abs_wp (c := ⟨Try.prog, w, S, M, none, fun b => w.heap.size ≤ b, []⟩) (Q := fun e s => e = .normal ∧ Le s (gS c step P)) hr (abs_region fun K hK => ?_) ?_)
  · simp only [go_sem, bas, basL, Nat.reduceAdd, Nat.reduceSub, Nat.reduceMul, Nat.reduceLT, Nat.reduceLeDiff, Nat.reduceEqDiff, Nat.reduceBEq, Int.reduceLT, Int.reduceLE, Int.reduceToNat, Int.reduceAdd, Int.reduceSub, Int.reduceMul, Int.reduceNeg, Int.reduceEq, reduceCtorEq, eq_self, ne_eq, not_false_eq_true, if_true, reduceIte]
    exact hK _ ⟨rfl, le_of rfl (by try simp only [go_sem, bas, basL, Nat.reduceAdd, Nat.reduceSub, Nat.reduceMul, Nat.reduceLT, Nat.reduceLeDiff, Nat.reduceEqDiff, Nat.reduceBEq, Int.reduceLT, Int.reduceLE, Int.reduceToNat, Int.reduceAdd, Int.reduceSub, Int.reduceMul, Int.reduceNeg, Int.reduceEq, reduceCtorEq, eq_self, ne_eq, not_false_eq_true, if_true, reduceIte]; try simp) ⟨_, rfl⟩ ⟨_, rfl⟩⟩
  rintro e a1 w1 s1 hr1 ⟨rfl, hle1⟩
  replace hr1 := hr1.le hle1 (gS_named c step P) (Nat.zero_le _)
  clear hle1 s1 hr
  show Code.wpIn _ _ _ _ _ _ _
  refine wpIn_seq (abs_wp (c := ⟨Try.prog, w, S, M, none, fun b => w.heap.size ≤ b, []⟩) (Q := fun e s => e = .normal ∧ Le s (gS c step P)) hr1 ?_ ?_)
  · simp only [gS, mkSt, List.foldr]
    repeat' (first
        | refine abs_seq ?_
        | refine abs_block ?_
        | refine abs_skip ?_
        | refine abs_exit ?_
        | refine abs_ret ?_
        | ((first | refine abs_region fun K hK => ?_ | refine abs_draw Try.ty.mixed (by kernel_rfl) fun K hK => ?_ | refine abs_if ?_); simp only [go_sem, bas, basL, Nat.reduceAdd, Nat.reduceSub, Nat.reduceMul, Nat.reduceLT, Nat.reduceLeDiff, Nat.reduceEqDiff, Nat.reduceBEq, Int.reduceLT, Int.reduceLE, Int.reduceToNat, Int.reduceAdd, Int.reduceSub, Int.reduceMul, Int.reduceNeg, Int.reduceEq, reduceCtorEq, eq_self, ne_eq, not_false_eq_true, if_true, reduceIte])
        | (refine hK _ ?_; clear hK K; simp only [thenQ, blockQ, if_true, Nat.reduceEqDiff, reduceIte])
        | (show thenQ _ _ _ _; simp only [thenQ, blockQ, if_true, Nat.reduceEqDiff, reduceIte])
        | (show blockQ _ _ _ _; simp only [thenQ, blockQ, if_true, Nat.reduceEqDiff, reduceIte])
        | (refine callK (q) ?_; try simp only [go_sem, bas, basL, Nat.reduceAdd, Nat.reduceSub, Nat.reduceMul, Nat.reduceLT, Nat.reduceLeDiff, Nat.reduceEqDiff, Nat.reduceBEq, Int.reduceLT, Int.reduceLE, Int.reduceToNat, Int.reduceAdd, Int.reduceSub, Int.reduceMul, Int.reduceNeg, Int.reduceEq, reduceCtorEq, eq_self, ne_eq, not_false_eq_true, if_true, reduceIte])
        | (show retQ _ _ _ _ _; simp only [go_sem, bas, basL, Nat.reduceAdd, Nat.reduceSub, Nat.reduceMul, Nat.reduceLT, Nat.reduceLeDiff, Nat.reduceEqDiff, Nat.reduceBEq, Int.reduceLT, Int.reduceLE, Int.reduceToNat, Int.reduceAdd, Int.reduceSub, Int.reduceMul, Int.reduceNeg, Int.reduceEq, reduceCtorEq, eq_self, ne_eq, not_false_eq_true, if_true, reduceIte])
        | (intro hg; first | (exfalso; omega) | (exfalso; contradiction) | skip)
        | apply And.intro
        | (with_reducible rfl)
        | (clear hK; omega)
        | omega)
    exact le_of (l := [(1, .box 0 0), (2, .box 1 0), (3, .box 2 0), (4, .box 3 0), (5, .box 4 0)]) rfl (by simp only [go_sem, bas, basL, Nat.reduceAdd, Nat.reduceSub, Nat.reduceMul, Nat.reduceLT, Nat.reduceLeDiff, Nat.reduceEqDiff, Nat.reduceBEq, Int.reduceLT, Int.reduceLE, Int.reduceToNat, Int.reduceAdd, Int.reduceSub, Int.reduceMul, Int.reduceNeg, Int.reduceEq, reduceCtorEq, eq_self, ne_eq, not_false_eq_true, if_true, reduceIte]; try simp) ⟨_, rfl⟩ ⟨_, rfl⟩
  rintro e a2 w2 s2 hr2 ⟨rfl, hle2⟩
  replace hr2 := hr2.le hle2 (gS_named c step P) (Nat.zero_le _)
  clear hle2 s2 hr1
  show Code.wpIn _ _ _ _ _ _ _
  obtain ⟨l, hl2⟩ : ∃ l, a2.defers = l := ⟨_, rfl⟩
  have hx2 : RX l l ⟨Try.prog, w, S, M, none, fun b => w.heap.size ≤ b, []⟩ (gS c step P) a2 w2 := ⟨hl2, by
    have : ({ a2 with defers := l } : Act) = a2 := by rw [← hl2]
    rw [this]; exact hr2⟩
  clear hr2
  -- the closure, the deferred call
  refine wpIn_seq (wpIn_region_lit ?_)
  refine rx_list (rest := [_]) (K := fun s' => s' = _) (fun s3 a3 w3 hx3 e3 => ?_) [_] _ a2 w2 rfl hx2 (by
    simp only [gS, mkSt, List.foldr]
    simp only [go_sem, bas, basL, Nat.reduceAdd, Nat.reduceSub, Nat.reduceMul, Nat.reduceLT, Nat.reduceLeDiff, Nat.reduceEqDiff, Nat.reduceBEq, Int.reduceLT, Int.reduceLE, Int.reduceToNat, Int.reduceAdd, Int.reduceSub, Int.reduceMul, Int.reduceNeg, Int.reduceEq, reduceCtorEq, eq_self, ne_eq, not_false_eq_true, if_true, reduceIte]
    exact rfl)
  subst e3
  refine list_cons rfl ⟨fun _ _ => trivial, ?_⟩
  obtain ⟨hd3, g3, hg3⟩ := hx3
  have h9 := hg3.ev (.tmp 9)
  change Rel w3 g3 (a3.eval (.tmp 9)) (.clo 90 [.box 1 0, .box 2 0, .box 3 0, .box 4 0]) at h9
  generalize hv9 : a3.eval (.tmp 9) = v9 at h9
  cases h9 with
  | clo _ _ vs _ hvl hvr =>
  obtain ⟨vs⟩ := vs
  obtain ⟨p1, p2, p3, p4, rfl⟩ : ∃ p1 p2 p3 p4, vs = [p1, p2, p3, p4] := by
    match vs, hvl with
    | [a, b, c, d], _ => exact ⟨a, b, c, d, rfl⟩
  have hp1 : Rel w3 g3 p1 (.box 1 0) := hvr 0 _ rfl
  have hp2 : Rel w3 g3 p2 (.box 2 0) := hvr 1 _ rfl
  have hp3 : Rel w3 g3 p3 (.box 3 0) := hvr 2 _ rfl
  have hp4 : Rel w3 g3 p4 (.box 4 0) := hvr 3 _ rfl
  clear hvr hvl
  obtain ⟨dd, hdd⟩ : ∃ dd : Deferred, dd = { target := .fn (.func 90) #[p1, p2, p3, p4], args := #[] } := ⟨_, rfl⟩
  have hsd : (Oper.semAt Fence.wide.round a3.eval ⟨none, .defer ⟨.value (.tmp 9), #[], #[]⟩, 0, "score.go:312", #[{ on := 0, ground := Go.Ground.data }], none⟩).run Try.prog w3 = .ok (.defer dd) w3 := by
    rw [show Fence.wide.round = none from rfl, Oper.semAt_none, hdd]
    simp [execOp, resolve, hv9, Deferred.ofValue]
  rw [hsd, Oper.uponIn_defer]
  unfold wpListIn
  show Code.wpIn _ _ _ _ _ _ _
  have hen := hg3.enterN (a' := { a3 with defers := [] }) rfl hg3.sz hg3.sl
  have hx4 : RX (dd :: l) [] ⟨Try.prog, w3, g3.S, g3.M, none, fun b => w3.heap.size ≤ b ∨ (w.heap.size ≤ b ∧ ∃ cs t fz, w3.heap[b]? = some (.cells cs t fz)), g3.β⟩ _ { a3 with defers := dd :: a3.defers } w3 := ⟨by rw [hd3], g3, hen⟩
  generalize ({ a3 with defers := dd :: a3.defers } : Act) = a4 at hx4
  have hinv : ∀ w : World, (invoke dd.target dd.args).run Try.prog w = .ok (.enter 90 #[p1, p2, p3, p4]) w := fun w => by
    rw [hdd]; simp [invoke, Try.call90]
  have hnm3 : ∀ m, Names 5 0 (put (put (put (put (put (put none' 5 (D.box 4 0)) 4 (D.box 3 0)) 3 (D.box 2 0)) 2 (D.box 1 0)) 1 (D.box 0 0)) 9 (D.clo 90 [D.box 1 0, D.box 2 0, D.box 3 0, D.box 4 0]) m) :=
    slots_names (l := [(9, D.clo 90 [D.box 1 0, D.box 2 0, D.box 3 0, D.box 4 0]), (1, D.box 0 0), (2, D.box 1 0), (3, D.box 2 0), (4, D.box 3 0), (5, D.box 4 0)]) rfl
  -- the end: whatever the boxes hold
  have fin : ∀ (s8 : St) (a8 : Act) (w8 : World) (g8 : Gh) (d1 d2 : List Int) (m e : Int), RG ⟨Try.prog, w3, g3.S, g3.M, none, fun b => w3.heap.size ≤ b ∨ (w.heap.size ≤ b ∧ ∃ cs t fz, w3.heap[b]? = some (.cells cs t fz)), g3.β⟩ s8 { a8 with defers := [] } w8 g8 →
      (resL Try.prog s8 Try.f50.results.toList fun ds => ds = [ints d1, ints d2, i64 m, i64 e]) →
      LeavesInM Fence.wide 0 Try.prog Try.f50 a8.tmps (fun e' w' => ∃ v S' M', e' = .returned v ∧ Grow w S M w' S' M' ∧ Go.Ab.Good w' S' ∧ Rel w' ⟨S', [], [], M'⟩ v (.tup [ints d1, ints d2, i64 m, i64 e])) l .returning w8 := fun s8 a8 w8 g8 d1 d2 m e h8 hres => by
    have hb := swapAct (a' := { a8 with defers := l }) (hg3.leaveN h8 hnm3) h8.sz h8.sl rfl
    exact marks_leave (c := ⟨Try.prog, w, S, M, none, fun b => w.heap.size ≤ b, []⟩) (fn := Try.f50) (ds := [ints d1, ints d2, i64 m, i64 e]) l { a8 with defers := l } w8 hb rfl hres (fun v w9 h9 hv => ⟨v, g8.S, g8.M, rfl,
      ⟨⟨h9.below.os, h9.below.tape, h9.below.output, h9.below.size, fun k hk hn => h9.below.block k hk (fun h => h.elim (fun h => absurd (show w.heap.size ≤ k from h) (Nat.not_le_of_lt hk)) hn)⟩, h9.S0, h9.from0, h9.df.m0, h9.df.mfrom, h9.df.mok⟩, h9.good, hv⟩)
  refine wpIn_seq (wpIn_region_lit ?_)
  refine rx_list (rest := [_]) (K := fun s' => s' = _) (fun s5 a5 w5 hx5 e5 => ?_) [_] _ a4 w3 rfl hx4 (by
    simp only [gS, mkSt, List.foldr]
    simp only [go_sem, bas, basL, Nat.reduceAdd, Nat.reduceSub, Nat.reduceMul, Nat.reduceLT, Nat.reduceLeDiff, Nat.reduceEqDiff, Nat.reduceBEq, Int.reduceLT, Int.reduceLE, Int.reduceToNat, Int.reduceAdd, Int.reduceSub, Int.reduceMul, Int.reduceNeg, Int.reduceEq, reduceCtorEq, eq_self, ne_eq, not_false_eq_true, if_true, reduceIte]
    exact rfl)
  subst e5
  refine list_cons rfl ⟨fun _ _ => trivial, ?_⟩
  obtain ⟨hd5, g5, hg5⟩ := hx5
  have h10 := hg5.ev (.tmp 10)
  change Rel w5 g5 (a5.eval (.tmp 10)) (.agg [i64 c, i64 step, intss P]) at h10
  have hcl := ql.2 g5.S g5.M w5 [a5.eval (.tmp 10)] hg5.good hg5.df.mok rfl (fun q x hx => by
    match q, hx with
    | 0, hx => cases hx; exact pureD_rel hg5 h10 rfl)
  have hse : (Oper.semAt Fence.wide.round a5.eval ⟨some 11, .call ⟨.value (.func 91), #[.tmp 10], #[72]⟩, 0, "score.go:321", #[{ on := 0, ground := Go.Ground.data }], none⟩).run Try.prog w5 = .ok (.enter 91 [a5.eval (.tmp 10)].toArray) w5 := by
    rw [Oper.semAt_eq _ _ _ (by intro cl h; cases h)]
    have e1 : a5.eval (.func 91) = .func (.func 91) #[] #[] := rfl
    simp [execOp, resolve, e1, Deferred.ofValue, invoke, Try.call91]
  rw [hse, Oper.uponIn_enter]
  refine ⟨fun h => (by cases h), callsIn_wide.2 (hcl.mono ?_)⟩
  rintro e' w6 ⟨S', M', hgr, hgood, ⟨hnone, v, rfl⟩ | ⟨x, cs, hsome, rfl, hx⟩⟩
  · have hg6 := hg5.grow hgr hgood
    have hgm : gmR Z P = none := by simpa using hnone
    rw [hgm]
    show wpListIn _ _ _ _ _ [] (a5.put (some 11) v) w6
    unfold wpListIn
    show Code.wpIn _ _ _ _ _ _ _
    have hx7 : RX (dd :: l) [] ⟨Try.prog, w3, g3.S, g3.M, none, fun b => w3.heap.size ≤ b ∨ (w.heap.size ≤ b ∧ ∃ cs t fz, w3.heap[b]? = some (.cells cs t fz)), g3.β⟩ _ (a5.put (some 11) v) w6 :=
      ⟨hd5, _, hg6.put (dst := some 11) (d := .undef) (v := v) (by show (_ : Nat) < 12; decide) (.undef _ _)⟩
    generalize a5.put (some 11) v = a7 at hx7
    refine wpIn_seq (wpIn_region_lit ?_)
    refine rx_list (rest := []) (K := fun s' => s' = _) (fun s8 a8 w8 hx8 e8 => ?_) [_, _, _, _] _ a7 w6 rfl hx7 (by
      simp only [St.put]
      simp only [go_sem, bas, basL, Nat.reduceAdd, Nat.reduceSub, Nat.reduceMul, Nat.reduceLT, Nat.reduceLeDiff, Nat.reduceEqDiff, Nat.reduceBEq, Int.reduceLT, Int.reduceLE, Int.reduceToNat, Int.reduceAdd, Int.reduceSub, Int.reduceMul, Int.reduceNeg, Int.reduceEq, reduceCtorEq, eq_self, ne_eq, not_false_eq_true, if_true, reduceIte]
      exact rfl)
    subst e8
    obtain ⟨hd8, g8, hg8⟩ := hx8
    unfold wpListIn
    show Code.wpIn _ _ _ _ _ _ _
    refine wpIn_ret ?_
    show LeavesInM _ _ _ _ _ _ _ _ _
    rw [hd8]
    refine ⟨by simp, .inr ⟨fun h => (by cases h), .func 90, #[p1, p2, p3, p4], 90, #[p1, p2, p3, p4], by rw [hdd], hinv _, fun _ _ => trivial, ?_⟩⟩
    refine (rec_ret #[p1, p2, p3, p4] w8 (by simp)).mono ?_
    rintro e u' w9 ⟨⟨v, rfl⟩, rfl, rfl⟩
    exact fin _ a8 _ g8 [] [] 0 5 hg8 rfl
  · have hg6 := hg5.grow hgr hgood
    obtain ⟨i, hgm, rfl⟩ : ∃ i, gmR Z P = some i ∧ gmD Z P i = cs := by simpa using hsome
    rw [hgm]
    show LeavesInM _ _ _ _ _ _ _ _ _
    rw [hd5]
    refine ⟨by simp, .inr ⟨fun h => (by cases h), .func 90, #[p1, p2, p3, p4], 90, #[p1, p2, p3, p4], by rw [hdd], hinv _, fun _ _ => trivial, ?_⟩⟩
    have kp : Keeps w3 g3 w6 ⟨S', g5.β, g5.ρ, M'⟩ := ⟨fun y hy => (hg6.df.kp0 y hy), hg6.S0, hg6.df.anc, fun r b hb => by
      have := (List.getElem?_eq_some_iff.1 hb).1
      rw [hg3.lρ] at this
      simp at this, hg6.df.m0⟩
    refine (rec_pan w3 g3.S g3.M _ g3.β _ _ w6 ⟨S', g5.β, g5.ρ, M'⟩ (.mu [i64 c, i64 step, intss P]) (nth Z i) (nth Z (gmB Z P i).1.toNat) ((gmB Z P i).2 - gmO Z P i) x p1 p2 p3 p4 ⟨c, step, P, rfl⟩ hg6 rfl rfl (hx.keep (er_up _ _ _ _ _)) (hp1.keep kp) (hp2.keep kp) (hp3.keep kp) (hp4.keep kp)).mono ?_
    rintro e u' w9 ⟨⟨v, rfl⟩, rfl, a9, g9, hg9⟩
    have hb := hg6.leaveN hg9 (slots_names (l := [(10, D.agg [i64 c, i64 step, intss P]), (9, D.clo 90 [D.box 1 0, D.box 2 0, D.box 3 0, D.box 4 0]), (1, D.box 0 0), (2, D.box 1 0), (3, D.box 2 0), (4, D.box 3 0), (5, D.box 4 0)]) rfl)
    exact fin _ a5 _ g9 (nth Z i) (nth Z (gmB Z P i).1.toNat) ((gmB Z P i).2 - gmO Z P i) 0 hb rfl
set_option maxRecDepth 100000 in
set_option maxHeartbeats 4000000 in
theorem game_ok (c step : Int) (P : List (List Int)) : CallsTo Try.prog 50 [.agg [i64 c, i64 step, intss P]] (.tup (gmT c step P)) := by
  by_cases h : Tab c step P
  · exact game_yes c step P h
  · exact game_no c step P h
end Go.Proofs.Ythamljpomhjepaa
