import Derived.Test.YtdbiiegohemahaaDoorM0
import Derived.Test.YtdbiiegohemahaaDoorAbP
set_option linter.unusedVariables false
set_option linter.unusedSimpArgs false
namespace Go.Proofs.YtdbiiegohemahaaDoor
open Go.Ab
attribute [local irreducible] Abs CallK CallR CallsTo IA
/-- What is known more closely of a station and a reading. -/
structure Finer (s : Stn) (r : Rdg) (x : Stn) (q : Rdg) : Prop where
  so : StOk x
  no : NoClash x
  ro : RdOk q
  rd : x.rd = s.rd
  d : q.day = r.day
  m : q.mer = r.mer
  g : s.gl ≤ x.gl ∧ x.gh ≤ s.gh
  h : s.hl ≤ x.hl ∧ x.hh ≤ s.hh
  a : r.al ≤ q.al ∧ q.ah ≤ r.ah
  y : r.dl ≤ q.dl ∧ q.dh ≤ r.dh
  w : r.wl ≤ q.wl ∧ q.wh ≤ r.wh
  i : ixL s r.day ≤ ixL x r.day ∧ ixH x r.day ≤ ixH s r.day
theorem Finer.tr {s x : Stn} {r q : Rdg} (h : Finer s r x q) (e : Int) : TrOk s r (endT x q e) := by
  have h1 := endT_ok h.so h.ro h.no e
  have h2 := h.rd; have h3 := h.g; have h4 := h.h; have h5 := h.a; have h6 := h.y; have h7 := h.w; have h8 := h.i
  unfold TrOk at h1 ⊢
  rw [h.d, h2] at h1
  omega
theorem Finer.e1 {s x : Stn} {r q : Rdg} (h : Finer s r x q) (t : Tru) : here q t = here r t := by unfold here mer; rw [h.m]
theorem Finer.e2 {s x : Stn} {r q : Rdg} (h : Finer s r x q) (t : Tru) : seaT q t = seaT r t := by unfold seaT; rw [h.e1]
theorem Finer.e3 {s x : Stn} {r q : Rdg} (h : Finer s r x q) (t : Tru) : hum q t = hum r t := by unfold hum; rw [h.e1]
theorem Finer.inn {s x : Stn} {r q : Rdg} (h : Finer s r x q) (hs : StOk s) (hr : RdOk r) (hn : NoClash s) :
    (here r (endT s r 0) ≤ here q (endT x q 0) ∧ here q (endT x q 1) ≤ here r (endT s r 1)) ∧
    (seaT r (endT s r 2) ≤ seaT q (endT x q 2) ∧ seaT q (endT x q 3) ≤ seaT r (endT s r 3)) ∧
    (hum r (endT s r 4) ≤ hum q (endT x q 4) ∧ hum q (endT x q 5) ≤ hum r (endT s r 5)) := by
  rw [h.e1, h.e1, h.e2, h.e2, h.e3, h.e3]
  exact ⟨⟨(holds hs hr hn (h.tr 0)).1.1, (holds hs hr hn (h.tr 1)).1.2⟩, ⟨(holds hs hr hn (h.tr 2)).2.1.1, (holds hs hr hn (h.tr 3)).2.1.2⟩, (holds hs hr hn (h.tr 4)).2.2.1.1, (holds hs hr hn (h.tr 5)).2.2.1.2⟩
/-- The part of a span. -/
def prt (a b p : Int) : Int := a + (b - a) * p / 100
theorem prt_bd {a b p : Int} (h : a ≤ b) (h0 : 0 ≤ p) (h1 : p ≤ 100) : a ≤ prt a b p ∧ prt a b p ≤ b := by
  unfold prt
  have e1 : 0 ≤ (b - a) * p := Int.mul_nonneg (by omega) h0
  have e2 : (b - a) * p ≤ (b - a) * 100 := Int.mul_le_mul_of_nonneg_left h1 (by omega)
  omega
theorem prt_le {a b p q : Int} (h : a ≤ b) (h0 : p ≤ q) : prt a b p ≤ prt a b q := by
  unfold prt
  have e2 : (b - a) * p ≤ (b - a) * q := Int.mul_le_mul_of_nonneg_left h0 (by omega)
  omega
theorem prt_spn {a b p q lo hi : Int} (h : Spn a b lo hi) (h0 : 0 ≤ p) (h1 : p ≤ q) (h2 : q ≤ 100) : Spn (prt a b p) (prt a b q) lo hi := by
  unfold Spn at h
  have := prt_bd (p := p) h.2.1 h0 (by omega); have := prt_bd (p := q) h.2.1 (by omega) h2; have := prt_le h.2.1 h1
  unfold Spn; omega
theorem stD_addM (s : Stn) (c : Ck) : stD (addC s c) = .agg [i64 s.hl, i64 s.hh, i64 s.gl, i64 s.gh, i64 s.dr, i64 s.rd, i64 s.ea, i64 s.sl, .list (s.ck.map ckD ++ [ckD c])] := by
  unfold addC
  simp only [stD, List.map_append, List.map_cons, List.map_nil]
set_option maxRecDepth 100000 in
set_option maxHeartbeats 4000000 in
theorem part_ok (a b p q : Int) (h : Spn a b (-3000) 3000) (hp : 0 ≤ p ∧ p ≤ 100) (hq : 0 ≤ q ∧ q ≤ 100) : CallsTo Tryd.prog 48 [spD a b, i64 p, i64 q] (spD (prt a b p) (prt a b q)) := by
  unfold Spn at h
  have b1 := mul_bd (A := 6000) (B := 100) (a := b - a) (b := p) (by omega) (by omega) hp.1 hp.2
  have b2 := mul_bd (A := 6000) (B := 100) (a := b - a) (b := q) (by omega) (by omega) hq.1 hq.2
  have e1 : Int.tdiv ((b - a) * p) 100 = (b - a) * p / 100 := Int.tdiv_eq_ediv_of_nonneg b1.1
  have e2 : Int.tdiv ((b - a) * q) 100 = (b - a) * q / 100 := Int.tdiv_eq_ediv_of_nonneg b2.1
  refine calls_abs Tryd.func48 Tryd.ntmps48 Tryd.results48 Tryd.call48 rfl (by simp) fun w0 S0 M0 => ?_
  repeat' (first
      | refine abs_seq ?_
      | refine abs_block ?_
      | refine abs_skip ?_
      | refine abs_scope ?_
      | refine abs_label ?_
      | refine abs_exit ?_
      | refine abs_ret ?_
      | ((first | refine abs_region fun K hK => ?_ | refine abs_draw Tryd.ty.mixed (by kernel_rfl) fun K hK => ?_ | refine abs_if ?_ | show retQ _ _ _ _ _ | refine callK (sp_ok _ _) ?_); simp (maxSteps := 10000000) -implicitDefEqProofs only [go_sem, bas, basL, Nat.reduceAdd, Nat.reduceSub, Nat.reduceMul, Nat.reduceLT, Nat.reduceLeDiff, Nat.reduceEqDiff, Nat.reduceBEq, Int.reduceLT, Int.reduceLE, Int.reduceToNat, Int.reduceAdd, Int.reduceSub, Int.reduceMul, Int.reduceNeg, Int.reduceEq, reduceCtorEq, eq_self, ne_eq, not_false_eq_true, if_true, reduceIte, e1, e2])
      | ((first | (refine hK _ ?_; clear hK K) | show thenQ _ _ _ _ | show blockQ _ _ _ _ | show noGoQ _ _ _); simp only [noGoQ, thenQ, blockQ, if_true, Nat.reduceEqDiff, reduceIte])
      | (intro hg; first | (exfalso; omega) | (exfalso; contradiction) | skip)
      | apply And.intro
      | (with_reducible rfl)
      | (clear hK; omega)
      | omega)
  rfl
set_option maxRecDepth 100000 in
set_option maxHeartbeats 4000000 in
theorem inner_ok (a b c d : Int) : CallsTo Tryd.prog 49 [spD a b, spD c d] (.bool (decide (c ≤ a ∧ b ≤ d))) := by
  refine calls_abs Tryd.func49 Tryd.ntmps49 Tryd.results49 Tryd.call49 rfl (by simp) fun w0 S0 M0 => ?_
  repeat' (first
      | refine abs_seq ?_
      | refine abs_block ?_
      | refine abs_skip ?_
      | refine abs_scope ?_
      | refine abs_label ?_
      | refine abs_exit ?_
      | refine abs_ret ?_
      | ((first | refine abs_region fun K hK => ?_ | refine abs_draw Tryd.ty.mixed (by kernel_rfl) fun K hK => ?_ | refine abs_if ?_ | show retQ _ _ _ _ _); simp (maxSteps := 10000000) -implicitDefEqProofs only [go_sem, bas, basL, Nat.reduceAdd, Nat.reduceSub, Nat.reduceMul, Nat.reduceLT, Nat.reduceLeDiff, Nat.reduceEqDiff, Nat.reduceBEq, Int.reduceLT, Int.reduceLE, Int.reduceToNat, Int.reduceAdd, Int.reduceSub, Int.reduceMul, Int.reduceNeg, Int.reduceEq, reduceCtorEq, eq_self, ne_eq, not_false_eq_true, if_true, reduceIte])
      | ((first | (refine hK _ ?_; clear hK K) | show thenQ _ _ _ _ | show blockQ _ _ _ _ | show noGoQ _ _ _); simp only [noGoQ, thenQ, blockQ, if_true, Nat.reduceEqDiff, reduceIte])
      | (intro hg; first | (exfalso; omega) | (exfalso; contradiction) | skip)
      | apply And.intro
      | (with_reducible rfl)
      | (clear hK; omega)
      | omega)
  all_goals (refine boolD ?_; simp only [decide_eq_true_eq, Bool.false_eq_true, false_iff, true_iff]; omega)
/-- Narrower spans. -/
def narS (s : Stn) (p q : Int) : Stn := ⟨prt s.hl s.hh p, prt s.hl s.hh q, prt s.gl s.gh p, prt s.gl s.gh q, s.dr, s.rd, s.ea, s.sl, s.ck⟩
def narR (r : Rdg) (p q : Int) : Rdg := ⟨r.day, r.min, r.clk, r.mer, prt r.al r.ah p, prt r.al r.ah q, prt r.dl r.dh p, prt r.dl r.dh q, prt r.wl r.wh p, prt r.wl r.wh q⟩
theorem narS_ok {s : Stn} (hs : StOk s) {p q : Int} (h0 : 0 ≤ p) (h1 : p ≤ q) (h2 : q ≤ 100) : StOk (narS s p q) :=
  ⟨prt_spn hs.h h0 h1 h2, prt_spn hs.g h0 h1 h2, hs.d, hs.r, hs.e, hs.sl, hs.n, hs.c⟩
theorem narR_ok {r : Rdg} (hr : RdOk r) {p q : Int} (h0 : 0 ≤ p) (h1 : p ≤ q) (h2 : q ≤ 100) : RdOk (narR r p q) :=
  ⟨hr.d, hr.m, hr.c, hr.q, prt_spn hr.a h0 h1 h2, prt_spn hr.y h0 h1 h2, prt_spn hr.w h0 h1 h2⟩
theorem drift_ok {s : Stn} (hs : StOk s) {n : Int} (h : 0 ≤ n ∧ n ≤ s.dr) : StOk (drift s n) :=
  ⟨hs.h, hs.g, by have := hs.d; show 0 ≤ n ∧ n ≤ 100; omega, hs.r, hs.e, hs.sl, hs.n, hs.c⟩
theorem finer_add {s : Stn} {r : Rdg} {c : Ck} (hr : RdOk r) (hx : StOk (addC s c)) (hn : NoClash (addC s c)) : Finer s r (addC s c) r := by
  refine ⟨hx, hn, hr, rfl, rfl, rfl, ?_, ?_, ?_, ?_, ?_, ?_⟩
  all_goals try exact ⟨Int.le_refl _, Int.le_refl _⟩
  rw [ixL_add, ixH_add]; omega
theorem finer_drift {s : Stn} {r : Rdg} {n : Int} (hs : StOk s) (hr : RdOk r) (h : 0 ≤ n ∧ n ≤ s.dr) (hn : NoClash (drift s n)) : Finer s r (drift s n) r := by
  refine ⟨drift_ok hs h, hn, hr, rfl, rfl, rfl, ?_, ?_, ?_, ?_, ?_, ixL_drift h.2 _, ixH_drift h.2 _⟩
  all_goals exact ⟨Int.le_refl _, Int.le_refl _⟩
theorem lowK_nar (s : Stn) (p q d : Int) : ∀ k, lowK (narS s p q) d k = lowK s d k
  | 0 => rfl
  | k + 1 => by simp only [lowK, lowK_nar s p q d k]; rfl
theorem highK_nar (s : Stn) (p q d : Int) : ∀ k, highK (narS s p q) d k = highK s d k
  | 0 => rfl
  | k + 1 => by simp only [highK, highK_nar s p q d k]; rfl
theorem finer_nar {s : Stn} {r : Rdg} {p q : Int} (hs : StOk s) (hr : RdOk r) (hn : NoClash s) (h0 : 0 ≤ p) (h1 : p ≤ q) (h2 : q ≤ 100) : Finer s r (narS s p q) (narR r p q) := by
  have b : ∀ {a b lo hi : Int}, Spn a b lo hi → a ≤ prt a b p ∧ prt a b q ≤ b := fun {a b lo hi} h => by
    unfold Spn at h
    exact ⟨(prt_bd h.2.1 h0 (by omega)).1, (prt_bd h.2.1 (by omega) h2).2⟩
  exact ⟨narS_ok hs h0 h1 h2, hn, narR_ok hr h0 h1 h2, rfl, rfl, rfl, b hs.g, b hs.h, b hr.a, b hr.y, b hr.w, Int.le_of_eq (lowK_nar s p q r.day _).symm, Int.le_of_eq (highK_nar s p q r.day _)⟩
theorem know0 {s : Stn} {r : Rdg} (hs : StOk s) (hr : RdOk r) (hn : NoClash s) : CallsTo Tryd.prog 34 [stD s, rdD r] (.tup [knD s r, i64 0]) := by
  have h := gKnow_ok s (by have := hs.n; omega) r
  rw [errN_ok ⟨hs, hr⟩ hn, if_pos rfl] at h; exact h
theorem know7 {s : Stn} {r : Rdg} (hs : StOk s) (hr : RdOk r) (hn : ¬ NoClash s) : CallsTo Tryd.prog 34 [stD s, rdD r] (.tup [.agg [i64 0, i64 0, i64 0, i64 0, i64 0, i64 0], i64 7]) := by
  have h := gKnow_ok s (by have := hs.n; omega) r
  rw [errN_rule ⟨hs, hr⟩ hn, if_neg (by omega)] at h; exact h
theorem inner_t {a b c d : Int} (h : c ≤ a ∧ b ≤ d) : CallsTo Tryd.prog 49 [spD a b, spD c d] (.bool true) := decide_eq_true h ▸ inner_ok a b c d
theorem lapp_cons' {α : Type} (a : α) (l l' : List α) : List.append (a :: l) l' = a :: List.append l l' := rfl
theorem lapp_nil' {α : Type} (l' : List α) : List.append [] l' = l' := rfl
section
variable {k : D → Prop} {a b c : D} {l : List D}
theorem wo0 : wNth (a :: l) 0 k = k a := by unfold wNth; simp
theorem wo1 : wNth (a :: b :: l) 1 k = k b := by unfold wNth; simp
theorem wo2 : wNth (a :: b :: c :: l) 2 k = k c := by unfold wNth; simp
end
set_option maxRecDepth 100000 in
set_option maxHeartbeats 4000000 in
theorem more_law (s : Stn) (hl : s.ck.length ≤ 9223372036854775807) (r : Rdg) (c : Ck) (less low high : Int) : CallsTo Tryd.prog 14 [stD s, rdD r, ckD c, i64 less, i64 low, i64 high] (.bool true) := by
  by_cases hag : StOk s ∧ NoClash s
  · have hs := hag.1
    have hn := hag.2
    have h1 := agr1 hs hn
    have hln := hs.n
    have hdr := hs.d
    by_cases hr : RdOk r
    · have d1 : CallsTo Tryd.prog 31 [rdD r] (.bool true) := decide_eq_true hr ▸ reading_ok r
      by_cases hpre : s.ck.length < 12 ∧ (0 ≤ less ∧ less ≤ s.dr) ∧ 0 ≤ low ∧ low ≤ high ∧ high ≤ 100
      · obtain ⟨hlen, hle, b1, b2, b3⟩ := hpre
        have w3000 : ∀ {a b lo hi : Int}, -3000 ≤ lo → hi ≤ 3000 → Spn a b lo hi → Spn a b (-3000) 3000 := fun h1 h2 h => by unfold Spn at *; omega
        have p1 := part_ok s.hl s.hh low high (w3000 (by decide) (by decide) hs.h) ⟨b1, by omega⟩ ⟨by omega, b3⟩
        have p2 := part_ok s.gl s.gh low high hs.g ⟨b1, by omega⟩ ⟨by omega, b3⟩
        have p3 := part_ok r.al r.ah low high (w3000 (by decide) (by decide) hr.a) ⟨b1, by omega⟩ ⟨by omega, b3⟩
        have p4 := part_ok r.dl r.dh low high (w3000 (by decide) (by decide) hr.y) ⟨b1, by omega⟩ ⟨by omega, b3⟩
        have p5 := part_ok r.wl r.wh low high (w3000 (by decide) (by decide) hr.w) ⟨b1, by omega⟩ ⟨by omega, b3⟩
        by_cases hx : StOk (addC s c)
        · have x1 : CallsTo Tryd.prog 42 [stD (addC s c)] (.bool true) := decide_eq_true hx ▸ station_ok _ (by have := hx.n; omega)
          have kk := know0 hs hr hn
          have ii := gIndex0 hs hn hr.d
          rw [stD_addM] at x1
          have hcl : (s.ck.map ckD ++ [ckD c]).length = s.ck.length + 1 := by simp
          refine calls_abs Tryd.func14 Tryd.ntmps14 Tryd.results14 Tryd.call14 rfl (by simp) fun w0 S0 M0 => ?_
          repeat' (first
              | (show Abs _ (.region 3 _ true) _ _; refine abs_keep [(3, i64 less), (4, i64 low), (5, i64 high), (6, .box 0 0), (7, .box 1 0), (8, .box 2 0)] [.mu (stC s), .mu [i64 r.day, i64 r.min, i64 r.clk, i64 r.mer, i64 r.al, i64 r.ah, i64 r.dl, i64 r.dh, i64 r.wl, i64 r.wh], .mu [i64 c.day, i64 c.lo, i64 c.hi]] [] (le_of rfl (by try simp (maxSteps := 10000000) -implicitDefEqProofs only [go_sem, bas, basL, Nat.reduceAdd, Nat.reduceSub, Nat.reduceMul, Nat.reduceLT, Nat.reduceLeDiff, Nat.reduceEqDiff, Nat.reduceBEq, Int.reduceLT, Int.reduceLE, Int.reduceToNat, Int.reduceAdd, Int.reduceSub, Int.reduceMul, Int.reduceNeg, Int.reduceEq, reduceCtorEq, eq_self, ne_eq, not_false_eq_true, if_true, reduceIte, ↓wo0, ↓wo1, ↓wo2, Int.natCast_zero, Int.natCast_one, Int.cast_ofNat_Int, lapp_cons', lapp_nil']; try simp) ⟨_, rfl⟩ ⟨_, rfl⟩) ⟨rfl, rfl⟩ rfl ?_; refine abs_drawT [(6, 13), (6, 14), (6, 15), (6, 16), (7, 13), (7, 14), (7, 15), (7, 16), (14, 13), (15, 13), (16, 13), (15, 14), (16, 14), (16, 15), (13, 14), (13, 15), (13, 16), (14, 15), (14, 16), (15, 16)] [0, 1, 2, 3] [4, 5, 6, 7] (.alt 4 (.alt 5 (.alt 6 (.alt 7 (.leaf []) (.stop)) (.alt 7 (.alt 6 (.leaf [5]) (.stop)) (.stop))) (.alt 6 (.alt 5 (.alt 7 (.leaf [4]) (.stop)) (.alt 7 (.alt 5 (.leaf [5, 4]) (.stop)) (.stop))) (.alt 7 (.alt 5 (.alt 6 (.leaf [4, 5]) (.stop)) (.alt 6 (.alt 5 (.leaf [4, 5, 4]) (.stop)) (.stop))) (.stop)))) (.alt 5 (.alt 4 (.alt 6 (.alt 7 (.leaf [3]) (.stop)) (.alt 7 (.alt 6 (.leaf [3, 5]) (.stop)) (.stop))) (.alt 6 (.alt 4 (.alt 7 (.leaf [4, 3]) (.stop)) (.alt 7 (.alt 4 (.leaf [5, 4, 3]) (.stop)) (.stop))) (.alt 7 (.alt 4 (.alt 6 (.leaf [4, 5, 3]) (.stop)) (.alt 6 (.alt 4 (.leaf [4, 5, 4, 3]) (.stop)) (.stop))) (.stop)))) (.alt 6 (.alt 4 (.alt 5 (.alt 7 (.leaf [3, 4]) (.stop)) (.alt 7 (.alt 5 (.leaf [3, 5, 4]) (.stop)) (.stop))) (.alt 5 (.alt 4 (.alt 7 (.leaf [3, 4, 3]) (.stop)) (.alt 7 (.alt 4 (.leaf [3, 5, 4, 3]) (.stop)) (.stop))) (.alt 7 (.alt 4 (.alt 5 (.leaf [4, 5, 3, 4]) (.stop)) (.alt 5 (.alt 4 (.leaf [4, 5, 3, 4, 3]) (.stop)) (.stop))) (.stop)))) (.alt 7 (.alt 4 (.alt 5 (.alt 6 (.leaf [3, 4, 5]) (.stop)) (.alt 6 (.alt 5 (.leaf [3, 4, 5, 4]) (.stop)) (.stop))) (.alt 5 (.alt 4 (.alt 6 (.leaf [3, 4, 5, 3]) (.stop)) (.alt 6 (.alt 4 (.leaf [3, 4, 5, 4, 3]) (.stop)) (.stop))) (.alt 6 (.alt 4 (.alt 5 (.leaf [3, 4, 5, 3, 4]) (.stop)) (.alt 5 (.alt 4 (.leaf [3, 4, 5, 3, 4, 3]) (.stop)) (.stop))) (.stop)))) (.stop))))) [8, 9, 10, 11] Tryd.ty.mixed (by kernel_rfl) fun K hK => ?_; simp (maxSteps := 10000000) -implicitDefEqProofs only [go_sem, bas, basL, Nat.reduceAdd, Nat.reduceSub, Nat.reduceMul, Nat.reduceLT, Nat.reduceLeDiff, Nat.reduceEqDiff, Nat.reduceBEq, Int.reduceLT, Int.reduceLE, Int.reduceToNat, Int.reduceAdd, Int.reduceSub, Int.reduceMul, Int.reduceNeg, Int.reduceEq, reduceCtorEq, eq_self, ne_eq, not_false_eq_true, if_true, reduceIte, ↓wo0, ↓wo1, ↓wo2, Int.natCast_zero, Int.natCast_one, Int.cast_ofNat_Int, lapp_cons', lapp_nil']; refine And.intro ?_ ?_; rotate_left; (repeat' (first | (refine sle_of rfl ?_ ?_ rfl) | exact slle_none | (refine slle_put ?_ ?_) | exact trivial | apply And.intro | (with_reducible rfl) | (show @Eq D _ _; simp (maxSteps := 10000000) -implicitDefEqProofs only [go_sem, bas, basL, Nat.reduceAdd, Nat.reduceSub, Nat.reduceMul, Nat.reduceLT, Nat.reduceLeDiff, Nat.reduceEqDiff, Nat.reduceBEq, Int.reduceLT, Int.reduceLE, Int.reduceToNat, Int.reduceAdd, Int.reduceSub, Int.reduceMul, Int.reduceNeg, Int.reduceEq, reduceCtorEq, eq_self, ne_eq, not_false_eq_true, if_true, reduceIte, ↓wo0, ↓wo1, ↓wo2, Int.natCast_zero, Int.natCast_one, Int.cast_ofNat_Int, lapp_cons', lapp_nil']; done) | (show @Eq (List Bx) _ _; simp (maxSteps := 10000000) -implicitDefEqProofs only [go_sem, bas, basL, Nat.reduceAdd, Nat.reduceSub, Nat.reduceMul, Nat.reduceLT, Nat.reduceLeDiff, Nat.reduceEqDiff, Nat.reduceBEq, Int.reduceLT, Int.reduceLE, Int.reduceToNat, Int.reduceAdd, Int.reduceSub, Int.reduceMul, Int.reduceNeg, Int.reduceEq, reduceCtorEq, eq_self, ne_eq, not_false_eq_true, if_true, reduceIte, ↓wo0, ↓wo1, ↓wo2, Int.natCast_zero, Int.natCast_one, Int.cast_ofNat_Int, lapp_cons', lapp_nil']; done))); skip)
              | refine abs_seq ?_
              | refine abs_block ?_
              | refine abs_skip ?_
              | refine abs_scope ?_
              | refine abs_label ?_
              | refine abs_exit ?_
              | refine abs_ret ?_
              | ((first | (show Abs _ (.region 4 _ true) _ _; refine abs_drawXT [] [6, 13] [0, 1] [2, 3, 4] (.alt 2 (.alt 3 (.alt 4 (.leaf []) .stop) .stop) (.alt 3 (.alt 2 (.alt 4 (.leaf []) .stop) (.alt 4 (.alt 2 (.leaf []) .stop) .stop)) .stop)) [5, 6, 7] Tryd.ty.mixed (by kernel_rfl) fun K hK => ?_) | (show Abs _ (.region 6 _ true) _ _; refine abs_drawD [(82, 92), (82, 93), (87, 92), (87, 93)] Tryd.ty.mixed (by kernel_rfl) fun K hK => ?_) | (show Abs _ (.region 7 _ true) _ _; refine abs_drawD [(94, 109), (94, 110), (94, 111), (99, 109), (99, 110), (99, 111), (104, 109), (104, 110), (104, 111)] Tryd.ty.mixed (by kernel_rfl) fun K hK => ?_) | (show Abs _ (.region 21 _ true) _ _; refine abs_drawD [(150, 24), (23, 24)] Tryd.ty.mixed (by kernel_rfl) fun K hK => ?_) | (show Abs _ (.region 22 _ true) _ _; refine abs_drawD [(159, 26), (161, 26)] Tryd.ty.mixed (by kernel_rfl) fun K hK => ?_) | show Sep _ _ | show Bxs _ _ | refine abs_region fun K hK => ?_ | refine abs_draw Tryd.ty.mixed (by kernel_rfl) fun K hK => ?_ | refine abs_if ?_ | show retQ _ _ _ _ _ | refine callK (h1) ?_ | refine callK (d1) ?_ | refine callK (p1) ?_ | refine callK (p2) ?_ | refine callK (p3) ?_ | refine callK (p4) ?_ | refine callK (p5) ?_ | refine callK (x1) ?_ | refine callK (kk) ?_ | refine callK (ii) ?_); simp (maxSteps := 10000000) -implicitDefEqProofs only [go_sem, bas, basL, Nat.reduceAdd, Nat.reduceSub, Nat.reduceMul, Nat.reduceLT, Nat.reduceLeDiff, Nat.reduceEqDiff, Nat.reduceBEq, Int.reduceLT, Int.reduceLE, Int.reduceToNat, Int.reduceAdd, Int.reduceSub, Int.reduceMul, Int.reduceNeg, Int.reduceEq, reduceCtorEq, eq_self, ne_eq, not_false_eq_true, if_true, reduceIte, ↓wo0, ↓wo1, ↓wo2, Int.natCast_zero, Int.natCast_one, Int.cast_ofNat_Int, lapp_cons', lapp_nil'])
              | ((first | (refine hK _ ?_; clear hK K) | show thenQ _ _ _ _ | show blockQ _ _ _ _ | show noGoQ _ _ _); simp only [noGoQ, thenQ, blockQ, if_true, Nat.reduceEqDiff, reduceIte])
              | (show SLe _ _; refine sle_of rfl ?_ ?_ rfl)
              | (show SlLe _ _; first | refine slle_none | refine slle_put ?_ ?_)
              | (show @Eq D _ _; simp (maxSteps := 10000000) -implicitDefEqProofs only [go_sem, bas, basL, Nat.reduceAdd, Nat.reduceSub, Nat.reduceMul, Nat.reduceLT, Nat.reduceLeDiff, Nat.reduceEqDiff, Nat.reduceBEq, Int.reduceLT, Int.reduceLE, Int.reduceToNat, Int.reduceAdd, Int.reduceSub, Int.reduceMul, Int.reduceNeg, Int.reduceEq, reduceCtorEq, eq_self, ne_eq, not_false_eq_true, if_true, reduceIte, ↓wo0, ↓wo1, ↓wo2, Int.natCast_zero, Int.natCast_one, Int.cast_ofNat_Int, lapp_cons', lapp_nil']; done)
              | (show @Eq (List Bx) _ _; simp (maxSteps := 10000000) -implicitDefEqProofs only [go_sem, bas, basL, Nat.reduceAdd, Nat.reduceSub, Nat.reduceMul, Nat.reduceLT, Nat.reduceLeDiff, Nat.reduceEqDiff, Nat.reduceBEq, Int.reduceLT, Int.reduceLE, Int.reduceToNat, Int.reduceAdd, Int.reduceSub, Int.reduceMul, Int.reduceNeg, Int.reduceEq, reduceCtorEq, eq_self, ne_eq, not_false_eq_true, if_true, reduceIte, ↓wo0, ↓wo1, ↓wo2, Int.natCast_zero, Int.natCast_one, Int.cast_ofNat_Int, lapp_cons', lapp_nil']; done)
              | ((intro y hy; obtain ⟨c, _, rfl⟩ := List.mem_map.1 hy; rfl))
              | (intro hg; first | (exfalso; omega) | (exfalso; contradiction) | skip)
              | apply And.intro
              | (with_reducible rfl)
              | (clear hK; omega)
              | omega)
          refine abs_loopN (ι := Nat) (fun j => [(7, .box 1 0), (16, .box 6 0), (17, .box 7 0), (19, .box 8 0),
              (21, .list [.agg [i64 s.hl, i64 s.hh, i64 s.gl, i64 s.gh, i64 s.dr, i64 s.rd, i64 s.ea, i64 s.sl, .list (s.ck.map ckD ++ [ckD c])], stD (drift s (s.dr - less)), stD (narS s low high)]), (22, i64 j)])
            (fun _ => [.mu (stC s), .mu [i64 r.day, i64 r.min, i64 r.clk, i64 r.mer, i64 r.al, i64 r.ah, i64 r.dl, i64 r.dh, i64 r.wl, i64 r.wh], .mu [i64 c.day, i64 c.lo, i64 c.hi],
              .mu [i64 s.hl, i64 s.hh, i64 s.gl, i64 s.gh, i64 s.dr, i64 s.rd, i64 s.ea, i64 s.sl, .own 0], .mu (stC (drift s (s.dr - less))), .mu (stC (narS s low high)),
              .mu [i64 r.day, i64 r.min, i64 r.clk, i64 r.mer, i64 (prt r.al r.ah low), i64 (prt r.al r.ah high), i64 (prt r.dl r.dh low), i64 (prt r.dl r.dh high), i64 (prt r.wl r.wh low), i64 (prt r.wl r.wh high)],
              .mu [i64 (here r (endT s r 0)), i64 (here r (endT s r 1)), i64 (seaT r (endT s r 2)), i64 (seaT r (endT s r 3)), i64 (hum r (endT s r 4)), i64 (hum r (endT s r 5))], .mu [i64 (ixL s r.day), i64 (ixH s r.day)]])
            (fun _ => [⟨true, 35, 3, s.ck.map ckD ++ [ckD c]⟩]) (fun j => j ≤ 3) (fun j => 3 - j) (fun _ _ => ⟨rfl, rfl⟩) 0 (Nat.zero_le _) (le_of rfl (by try simp (maxSteps := 10000000) -implicitDefEqProofs only [go_sem, bas, basL, Nat.reduceAdd, Nat.reduceSub, Nat.reduceMul, Nat.reduceLT, Nat.reduceLeDiff, Nat.reduceEqDiff, Nat.reduceBEq, Int.reduceLT, Int.reduceLE, Int.reduceToNat, Int.reduceAdd, Int.reduceSub, Int.reduceMul, Int.reduceNeg, Int.reduceEq, reduceCtorEq, eq_self, ne_eq, not_false_eq_true, if_true, reduceIte, ↓wo0, ↓wo1, ↓wo2, Int.natCast_zero, Int.natCast_one, Int.cast_ofNat_Int, lapp_cons', lapp_nil']; try simp [drift, narS]) ⟨_, rfl⟩ ⟨_, rfl⟩) (fun j hj => ?_)
          by_cases j0 : j = 0
          · subst j0
            by_cases hnx : NoClash (addC s c)
            · have f := finer_add hr hx hnx
              have g := f.inn hs hr hn
              have g0 := f.i
              have kx := know0 hx hr hnx
              have ix := gIndex0 hx hnx hr.d
              rw [stD_addM] at kx ix
              simp (maxSteps := 10000000) -implicitDefEqProofs only [go_sem, bas, basL, Nat.reduceAdd, Nat.reduceSub, Nat.reduceMul, Nat.reduceLT, Nat.reduceLeDiff, Nat.reduceEqDiff, Nat.reduceBEq, Int.reduceLT, Int.reduceLE, Int.reduceToNat, Int.reduceAdd, Int.reduceSub, Int.reduceMul, Int.reduceNeg, Int.reduceEq, reduceCtorEq, eq_self, ne_eq, not_false_eq_true, if_true, reduceIte, ↓wo0, ↓wo1, ↓wo2, Int.natCast_zero, Int.natCast_one, Int.cast_ofNat_Int, lapp_cons', lapp_nil']
              repeat' (first
                  | refine abs_seq ?_
                  | refine abs_block ?_
                  | refine abs_skip ?_
                  | refine abs_scope ?_
                  | refine abs_label ?_
                  | refine abs_exit ?_
                  | refine abs_ret ?_
                  | ((first | (show Abs _ (.region 6 _ true) _ _; refine abs_drawD [(82, 92), (82, 93), (87, 92), (87, 93), (93, 92)] Tryd.ty.mixed (by kernel_rfl) fun K hK => ?_) | (show Abs _ (.region 7 _ true) _ _; refine abs_drawD [(94, 109), (94, 110), (94, 111), (99, 109), (99, 110), (99, 111), (104, 109), (104, 110), (104, 111), (110, 109), (111, 109), (111, 110)] Tryd.ty.mixed (by kernel_rfl) fun K hK => ?_) | (show Abs _ (.region 21 _ true) _ _; refine abs_drawD [(150, 24), (23, 24)] Tryd.ty.mixed (by kernel_rfl) fun K hK => ?_) | (show Abs _ (.region 22 _ true) _ _; refine abs_drawD [(159, 26), (161, 26)] Tryd.ty.mixed (by kernel_rfl) fun K hK => ?_) | show Sep _ _ | refine abs_region fun K hK => ?_ | refine abs_draw Tryd.ty.mixed (by kernel_rfl) fun K hK => ?_ | refine abs_if ?_ | show retQ _ _ _ _ _ | refine callK (kx) ?_ | refine callK (ix) ?_ | refine callK (inner_t g.1) ?_ | refine callK (inner_t g.2.1) ?_ | refine callK (inner_t g.2.2) ?_ | refine callK (inner_t g0) ?_); simp (maxSteps := 10000000) -implicitDefEqProofs only [go_sem, bas, basL, Nat.reduceAdd, Nat.reduceSub, Nat.reduceMul, Nat.reduceLT, Nat.reduceLeDiff, Nat.reduceEqDiff, Nat.reduceBEq, Int.reduceLT, Int.reduceLE, Int.reduceToNat, Int.reduceAdd, Int.reduceSub, Int.reduceMul, Int.reduceNeg, Int.reduceEq, reduceCtorEq, eq_self, ne_eq, not_false_eq_true, if_true, reduceIte, ↓wo0, ↓wo1, ↓wo2, Int.natCast_zero, Int.natCast_one, Int.cast_ofNat_Int, lapp_cons', lapp_nil'])
                  | ((first | (refine hK _ ?_; clear hK K) | show thenQ _ _ _ _ | show blockQ _ _ _ _ | show noGoQ _ _ _); simp only [noGoQ, thenQ, blockQ, if_true, Nat.reduceEqDiff, reduceIte])
                  | (intro hg; first | (exfalso; omega) | (exfalso; contradiction) | skip)
                  | apply And.intro
                  | (with_reducible rfl)
                  | (clear hK; omega)
                  | omega)
              exact ⟨1, by omega, by omega, le_of rfl (by try simp (maxSteps := 10000000) -implicitDefEqProofs only [go_sem, bas, basL, Nat.reduceAdd, Nat.reduceSub, Nat.reduceMul, Nat.reduceLT, Nat.reduceLeDiff, Nat.reduceEqDiff, Nat.reduceBEq, Int.reduceLT, Int.reduceLE, Int.reduceToNat, Int.reduceAdd, Int.reduceSub, Int.reduceMul, Int.reduceNeg, Int.reduceEq, reduceCtorEq, eq_self, ne_eq, not_false_eq_true, if_true, reduceIte, ↓wo0, ↓wo1, ↓wo2, Int.natCast_zero, Int.natCast_one, Int.cast_ofNat_Int, lapp_cons', lapp_nil']; try simp) ⟨_, rfl⟩ ⟨_, rfl⟩⟩
            · have kx := know7 hx hr hnx
              have ix := gIndex7 hx hnx hr.d
              rw [stD_addM] at kx ix
              simp (maxSteps := 10000000) -implicitDefEqProofs only [go_sem, bas, basL, Nat.reduceAdd, Nat.reduceSub, Nat.reduceMul, Nat.reduceLT, Nat.reduceLeDiff, Nat.reduceEqDiff, Nat.reduceBEq, Int.reduceLT, Int.reduceLE, Int.reduceToNat, Int.reduceAdd, Int.reduceSub, Int.reduceMul, Int.reduceNeg, Int.reduceEq, reduceCtorEq, eq_self, ne_eq, not_false_eq_true, if_true, reduceIte, ↓wo0, ↓wo1, ↓wo2, Int.natCast_zero, Int.natCast_one, Int.cast_ofNat_Int, lapp_cons', lapp_nil']
              repeat' (first
                  | refine abs_seq ?_
                  | refine abs_block ?_
                  | refine abs_skip ?_
                  | refine abs_scope ?_
                  | refine abs_label ?_
                  | refine abs_exit ?_
                  | refine abs_ret ?_
                  | ((first | (show Abs _ (.region 6 _ true) _ _; refine abs_drawD [(82, 92), (82, 93), (87, 92), (87, 93), (93, 92)] Tryd.ty.mixed (by kernel_rfl) fun K hK => ?_) | (show Abs _ (.region 7 _ true) _ _; refine abs_drawD [(94, 109), (94, 110), (94, 111), (99, 109), (99, 110), (99, 111), (104, 109), (104, 110), (104, 111), (110, 109), (111, 109), (111, 110)] Tryd.ty.mixed (by kernel_rfl) fun K hK => ?_) | (show Abs _ (.region 21 _ true) _ _; refine abs_drawD [(150, 24), (23, 24)] Tryd.ty.mixed (by kernel_rfl) fun K hK => ?_) | (show Abs _ (.region 22 _ true) _ _; refine abs_drawD [(159, 26), (161, 26)] Tryd.ty.mixed (by kernel_rfl) fun K hK => ?_) | show Sep _ _ | refine abs_region fun K hK => ?_ | refine abs_draw Tryd.ty.mixed (by kernel_rfl) fun K hK => ?_ | refine abs_if ?_ | show retQ _ _ _ _ _ | refine callK (kx) ?_ | refine callK (ix) ?_); simp (maxSteps := 10000000) -implicitDefEqProofs only [go_sem, bas, basL, Nat.reduceAdd, Nat.reduceSub, Nat.reduceMul, Nat.reduceLT, Nat.reduceLeDiff, Nat.reduceEqDiff, Nat.reduceBEq, Int.reduceLT, Int.reduceLE, Int.reduceToNat, Int.reduceAdd, Int.reduceSub, Int.reduceMul, Int.reduceNeg, Int.reduceEq, reduceCtorEq, eq_self, ne_eq, not_false_eq_true, if_true, reduceIte, ↓wo0, ↓wo1, ↓wo2, Int.natCast_zero, Int.natCast_one, Int.cast_ofNat_Int, lapp_cons', lapp_nil'])
                  | ((first | (refine hK _ ?_; clear hK K) | show thenQ _ _ _ _ | show blockQ _ _ _ _ | show noGoQ _ _ _); simp only [noGoQ, thenQ, blockQ, if_true, Nat.reduceEqDiff, reduceIte])
                  | (intro hg; first | (exfalso; omega) | (exfalso; contradiction) | skip)
                  | apply And.intro
                  | (with_reducible rfl)
                  | (clear hK; omega)
                  | omega)
              exact ⟨1, by omega, by omega, le_of rfl (by try simp (maxSteps := 10000000) -implicitDefEqProofs only [go_sem, bas, basL, Nat.reduceAdd, Nat.reduceSub, Nat.reduceMul, Nat.reduceLT, Nat.reduceLeDiff, Nat.reduceEqDiff, Nat.reduceBEq, Int.reduceLT, Int.reduceLE, Int.reduceToNat, Int.reduceAdd, Int.reduceSub, Int.reduceMul, Int.reduceNeg, Int.reduceEq, reduceCtorEq, eq_self, ne_eq, not_false_eq_true, if_true, reduceIte, ↓wo0, ↓wo1, ↓wo2, Int.natCast_zero, Int.natCast_one, Int.cast_ofNat_Int, lapp_cons', lapp_nil']; try simp) ⟨_, rfl⟩ ⟨_, rfl⟩⟩
          · by_cases j1 : j = 1
            · subst j1
              have hle2 : 0 ≤ s.dr - less ∧ s.dr - less ≤ s.dr := by omega
              have hy := drift_ok hs hle2
              by_cases hnx : NoClash (drift s (s.dr - less))
              · have f := finer_drift hs hr hle2 hnx
                have g := f.inn hs hr hn
                have g0 := f.i
                have kx := know0 hy hr hnx
                have ix := gIndex0 hy hnx hr.d
                simp (maxSteps := 10000000) -implicitDefEqProofs only [go_sem, bas, basL, Nat.reduceAdd, Nat.reduceSub, Nat.reduceMul, Nat.reduceLT, Nat.reduceLeDiff, Nat.reduceEqDiff, Nat.reduceBEq, Int.reduceLT, Int.reduceLE, Int.reduceToNat, Int.reduceAdd, Int.reduceSub, Int.reduceMul, Int.reduceNeg, Int.reduceEq, reduceCtorEq, eq_self, ne_eq, not_false_eq_true, if_true, reduceIte, ↓wo0, ↓wo1, ↓wo2, Int.natCast_zero, Int.natCast_one, Int.cast_ofNat_Int, lapp_cons', lapp_nil']
                repeat' (first
                    | refine abs_seq ?_
                    | refine abs_block ?_
                    | refine abs_skip ?_
                    | refine abs_scope ?_
                    | refine abs_label ?_
                    | refine abs_exit ?_
                    | refine abs_ret ?_
                    | ((first | (show Abs _ (.region 6 _ true) _ _; refine abs_drawD [(82, 92), (82, 93), (87, 92), (87, 93), (93, 92)] Tryd.ty.mixed (by kernel_rfl) fun K hK => ?_) | (show Abs _ (.region 7 _ true) _ _; refine abs_drawD [(94, 109), (94, 110), (94, 111), (99, 109), (99, 110), (99, 111), (104, 109), (104, 110), (104, 111), (110, 109), (111, 109), (111, 110)] Tryd.ty.mixed (by kernel_rfl) fun K hK => ?_) | (show Abs _ (.region 21 _ true) _ _; refine abs_drawD [(150, 24), (23, 24)] Tryd.ty.mixed (by kernel_rfl) fun K hK => ?_) | (show Abs _ (.region 22 _ true) _ _; refine abs_drawD [(159, 26), (161, 26)] Tryd.ty.mixed (by kernel_rfl) fun K hK => ?_) | show Sep _ _ | refine abs_region fun K hK => ?_ | refine abs_draw Tryd.ty.mixed (by kernel_rfl) fun K hK => ?_ | refine abs_if ?_ | show retQ _ _ _ _ _ | refine callK (kx) ?_ | refine callK (ix) ?_ | refine callK (inner_t g.1) ?_ | refine callK (inner_t g.2.1) ?_ | refine callK (inner_t g.2.2) ?_ | refine callK (inner_t g0) ?_); simp (maxSteps := 10000000) -implicitDefEqProofs only [go_sem, bas, basL, Nat.reduceAdd, Nat.reduceSub, Nat.reduceMul, Nat.reduceLT, Nat.reduceLeDiff, Nat.reduceEqDiff, Nat.reduceBEq, Int.reduceLT, Int.reduceLE, Int.reduceToNat, Int.reduceAdd, Int.reduceSub, Int.reduceMul, Int.reduceNeg, Int.reduceEq, reduceCtorEq, eq_self, ne_eq, not_false_eq_true, if_true, reduceIte, ↓wo0, ↓wo1, ↓wo2, Int.natCast_zero, Int.natCast_one, Int.cast_ofNat_Int, lapp_cons', lapp_nil'])
                    | ((first | (refine hK _ ?_; clear hK K) | show thenQ _ _ _ _ | show blockQ _ _ _ _ | show noGoQ _ _ _); simp only [noGoQ, thenQ, blockQ, if_true, Nat.reduceEqDiff, reduceIte])
                    | (intro hg; first | (exfalso; omega) | (exfalso; contradiction) | skip)
                    | apply And.intro
                    | (with_reducible rfl)
                    | (clear hK; omega)
                    | omega)
                exact ⟨2, by omega, by omega, le_of rfl (by try simp (maxSteps := 10000000) -implicitDefEqProofs only [go_sem, bas, basL, Nat.reduceAdd, Nat.reduceSub, Nat.reduceMul, Nat.reduceLT, Nat.reduceLeDiff, Nat.reduceEqDiff, Nat.reduceBEq, Int.reduceLT, Int.reduceLE, Int.reduceToNat, Int.reduceAdd, Int.reduceSub, Int.reduceMul, Int.reduceNeg, Int.reduceEq, reduceCtorEq, eq_self, ne_eq, not_false_eq_true, if_true, reduceIte, ↓wo0, ↓wo1, ↓wo2, Int.natCast_zero, Int.natCast_one, Int.cast_ofNat_Int, lapp_cons', lapp_nil']; try simp) ⟨_, rfl⟩ ⟨_, rfl⟩⟩
              · have kx := know7 hy hr hnx
                have ix := gIndex7 hy hnx hr.d
                simp (maxSteps := 10000000) -implicitDefEqProofs only [go_sem, bas, basL, Nat.reduceAdd, Nat.reduceSub, Nat.reduceMul, Nat.reduceLT, Nat.reduceLeDiff, Nat.reduceEqDiff, Nat.reduceBEq, Int.reduceLT, Int.reduceLE, Int.reduceToNat, Int.reduceAdd, Int.reduceSub, Int.reduceMul, Int.reduceNeg, Int.reduceEq, reduceCtorEq, eq_self, ne_eq, not_false_eq_true, if_true, reduceIte, ↓wo0, ↓wo1, ↓wo2, Int.natCast_zero, Int.natCast_one, Int.cast_ofNat_Int, lapp_cons', lapp_nil']
                repeat' (first
                    | refine abs_seq ?_
                    | refine abs_block ?_
                    | refine abs_skip ?_
                    | refine abs_scope ?_
                    | refine abs_label ?_
                    | refine abs_exit ?_
                    | refine abs_ret ?_
                    | ((first | (show Abs _ (.region 6 _ true) _ _; refine abs_drawD [(82, 92), (82, 93), (87, 92), (87, 93), (93, 92)] Tryd.ty.mixed (by kernel_rfl) fun K hK => ?_) | (show Abs _ (.region 7 _ true) _ _; refine abs_drawD [(94, 109), (94, 110), (94, 111), (99, 109), (99, 110), (99, 111), (104, 109), (104, 110), (104, 111), (110, 109), (111, 109), (111, 110)] Tryd.ty.mixed (by kernel_rfl) fun K hK => ?_) | (show Abs _ (.region 21 _ true) _ _; refine abs_drawD [(150, 24), (23, 24)] Tryd.ty.mixed (by kernel_rfl) fun K hK => ?_) | (show Abs _ (.region 22 _ true) _ _; refine abs_drawD [(159, 26), (161, 26)] Tryd.ty.mixed (by kernel_rfl) fun K hK => ?_) | show Sep _ _ | refine abs_region fun K hK => ?_ | refine abs_draw Tryd.ty.mixed (by kernel_rfl) fun K hK => ?_ | refine abs_if ?_ | show retQ _ _ _ _ _ | refine callK (kx) ?_ | refine callK (ix) ?_); simp (maxSteps := 10000000) -implicitDefEqProofs only [go_sem, bas, basL, Nat.reduceAdd, Nat.reduceSub, Nat.reduceMul, Nat.reduceLT, Nat.reduceLeDiff, Nat.reduceEqDiff, Nat.reduceBEq, Int.reduceLT, Int.reduceLE, Int.reduceToNat, Int.reduceAdd, Int.reduceSub, Int.reduceMul, Int.reduceNeg, Int.reduceEq, reduceCtorEq, eq_self, ne_eq, not_false_eq_true, if_true, reduceIte, ↓wo0, ↓wo1, ↓wo2, Int.natCast_zero, Int.natCast_one, Int.cast_ofNat_Int, lapp_cons', lapp_nil'])
                    | ((first | (refine hK _ ?_; clear hK K) | show thenQ _ _ _ _ | show blockQ _ _ _ _ | show noGoQ _ _ _); simp only [noGoQ, thenQ, blockQ, if_true, Nat.reduceEqDiff, reduceIte])
                    | (intro hg; first | (exfalso; omega) | (exfalso; contradiction) | skip)
                    | apply And.intro
                    | (with_reducible rfl)
                    | (clear hK; omega)
                    | omega)
                exact ⟨2, by omega, by omega, le_of rfl (by try simp (maxSteps := 10000000) -implicitDefEqProofs only [go_sem, bas, basL, Nat.reduceAdd, Nat.reduceSub, Nat.reduceMul, Nat.reduceLT, Nat.reduceLeDiff, Nat.reduceEqDiff, Nat.reduceBEq, Int.reduceLT, Int.reduceLE, Int.reduceToNat, Int.reduceAdd, Int.reduceSub, Int.reduceMul, Int.reduceNeg, Int.reduceEq, reduceCtorEq, eq_self, ne_eq, not_false_eq_true, if_true, reduceIte, ↓wo0, ↓wo1, ↓wo2, Int.natCast_zero, Int.natCast_one, Int.cast_ofNat_Int, lapp_cons', lapp_nil']; try simp) ⟨_, rfl⟩ ⟨_, rfl⟩⟩
            · by_cases j2 : j = 2
              · subst j2
                have f := finer_nar hs hr hn b1 b2 b3
                have g := f.inn hs hr hn
                have g0 := f.i
                have kx := know0 f.so f.ro f.no
                have ix := gIndex0 f.so f.no hr.d
                simp (maxSteps := 10000000) -implicitDefEqProofs only [go_sem, bas, basL, Nat.reduceAdd, Nat.reduceSub, Nat.reduceMul, Nat.reduceLT, Nat.reduceLeDiff, Nat.reduceEqDiff, Nat.reduceBEq, Int.reduceLT, Int.reduceLE, Int.reduceToNat, Int.reduceAdd, Int.reduceSub, Int.reduceMul, Int.reduceNeg, Int.reduceEq, reduceCtorEq, eq_self, ne_eq, not_false_eq_true, if_true, reduceIte, ↓wo0, ↓wo1, ↓wo2, Int.natCast_zero, Int.natCast_one, Int.cast_ofNat_Int, lapp_cons', lapp_nil']
                repeat' (first
                    | refine abs_seq ?_
                    | refine abs_block ?_
                    | refine abs_skip ?_
                    | refine abs_scope ?_
                    | refine abs_label ?_
                    | refine abs_exit ?_
                    | refine abs_ret ?_
                    | ((first | (show Abs _ (.region 6 _ true) _ _; refine abs_drawD [(82, 92), (82, 93), (87, 92), (87, 93), (93, 92)] Tryd.ty.mixed (by kernel_rfl) fun K hK => ?_) | (show Abs _ (.region 7 _ true) _ _; refine abs_drawD [(94, 109), (94, 110), (94, 111), (99, 109), (99, 110), (99, 111), (104, 109), (104, 110), (104, 111), (110, 109), (111, 109), (111, 110)] Tryd.ty.mixed (by kernel_rfl) fun K hK => ?_) | (show Abs _ (.region 21 _ true) _ _; refine abs_drawD [(150, 24), (23, 24)] Tryd.ty.mixed (by kernel_rfl) fun K hK => ?_) | (show Abs _ (.region 22 _ true) _ _; refine abs_drawD [(159, 26), (161, 26)] Tryd.ty.mixed (by kernel_rfl) fun K hK => ?_) | show Sep _ _ | refine abs_region fun K hK => ?_ | refine abs_draw Tryd.ty.mixed (by kernel_rfl) fun K hK => ?_ | refine abs_if ?_ | show retQ _ _ _ _ _ | refine callK (kx) ?_ | refine callK (ix) ?_ | refine callK (inner_t g.1) ?_ | refine callK (inner_t g.2.1) ?_ | refine callK (inner_t g.2.2) ?_ | refine callK (inner_t g0) ?_); simp (maxSteps := 10000000) -implicitDefEqProofs only [go_sem, bas, basL, Nat.reduceAdd, Nat.reduceSub, Nat.reduceMul, Nat.reduceLT, Nat.reduceLeDiff, Nat.reduceEqDiff, Nat.reduceBEq, Int.reduceLT, Int.reduceLE, Int.reduceToNat, Int.reduceAdd, Int.reduceSub, Int.reduceMul, Int.reduceNeg, Int.reduceEq, reduceCtorEq, eq_self, ne_eq, not_false_eq_true, if_true, reduceIte, ↓wo0, ↓wo1, ↓wo2, Int.natCast_zero, Int.natCast_one, Int.cast_ofNat_Int, lapp_cons', lapp_nil'])
                    | ((first | (refine hK _ ?_; clear hK K) | show thenQ _ _ _ _ | show blockQ _ _ _ _ | show noGoQ _ _ _); simp only [noGoQ, thenQ, blockQ, if_true, Nat.reduceEqDiff, reduceIte])
                    | (intro hg; first | (exfalso; omega) | (exfalso; contradiction) | skip)
                    | apply And.intro
                    | (with_reducible rfl)
                    | (clear hK; omega)
                    | omega)
                exact ⟨3, by omega, by omega, le_of rfl (by try simp (maxSteps := 10000000) -implicitDefEqProofs only [go_sem, bas, basL, Nat.reduceAdd, Nat.reduceSub, Nat.reduceMul, Nat.reduceLT, Nat.reduceLeDiff, Nat.reduceEqDiff, Nat.reduceBEq, Int.reduceLT, Int.reduceLE, Int.reduceToNat, Int.reduceAdd, Int.reduceSub, Int.reduceMul, Int.reduceNeg, Int.reduceEq, reduceCtorEq, eq_self, ne_eq, not_false_eq_true, if_true, reduceIte, ↓wo0, ↓wo1, ↓wo2, Int.natCast_zero, Int.natCast_one, Int.cast_ofNat_Int, lapp_cons', lapp_nil']; try simp) ⟨_, rfl⟩ ⟨_, rfl⟩⟩
              · obtain rfl : j = 3 := by omega
                simp (maxSteps := 10000000) -implicitDefEqProofs only [go_sem, bas, basL, Nat.reduceAdd, Nat.reduceSub, Nat.reduceMul, Nat.reduceLT, Nat.reduceLeDiff, Nat.reduceEqDiff, Nat.reduceBEq, Int.reduceLT, Int.reduceLE, Int.reduceToNat, Int.reduceAdd, Int.reduceSub, Int.reduceMul, Int.reduceNeg, Int.reduceEq, reduceCtorEq, eq_self, ne_eq, not_false_eq_true, if_true, reduceIte, ↓wo0, ↓wo1, ↓wo2, Int.natCast_zero, Int.natCast_one, Int.cast_ofNat_Int, lapp_cons', lapp_nil']
                repeat' (first
                    | refine abs_seq ?_
                    | refine abs_block ?_
                    | refine abs_skip ?_
                    | refine abs_scope ?_
                    | refine abs_label ?_
                    | refine abs_exit ?_
                    | refine abs_ret ?_
                    | ((first | (show Abs _ (.region 6 _ true) _ _; refine abs_drawD [(82, 92), (82, 93), (87, 92), (87, 93), (93, 92)] Tryd.ty.mixed (by kernel_rfl) fun K hK => ?_) | (show Abs _ (.region 7 _ true) _ _; refine abs_drawD [(94, 109), (94, 110), (94, 111), (99, 109), (99, 110), (99, 111), (104, 109), (104, 110), (104, 111), (110, 109), (111, 109), (111, 110)] Tryd.ty.mixed (by kernel_rfl) fun K hK => ?_) | (show Abs _ (.region 21 _ true) _ _; refine abs_drawD [(150, 24), (23, 24)] Tryd.ty.mixed (by kernel_rfl) fun K hK => ?_) | (show Abs _ (.region 22 _ true) _ _; refine abs_drawD [(159, 26), (161, 26)] Tryd.ty.mixed (by kernel_rfl) fun K hK => ?_) | show Sep _ _ | refine abs_region fun K hK => ?_ | refine abs_draw Tryd.ty.mixed (by kernel_rfl) fun K hK => ?_ | refine abs_if ?_ | show retQ _ _ _ _ _ | refine callK (known_ok) ?_); simp (maxSteps := 10000000) -implicitDefEqProofs only [go_sem, bas, basL, Nat.reduceAdd, Nat.reduceSub, Nat.reduceMul, Nat.reduceLT, Nat.reduceLeDiff, Nat.reduceEqDiff, Nat.reduceBEq, Int.reduceLT, Int.reduceLE, Int.reduceToNat, Int.reduceAdd, Int.reduceSub, Int.reduceMul, Int.reduceNeg, Int.reduceEq, reduceCtorEq, eq_self, ne_eq, not_false_eq_true, if_true, reduceIte, ↓wo0, ↓wo1, ↓wo2, Int.natCast_zero, Int.natCast_one, Int.cast_ofNat_Int, lapp_cons', lapp_nil'])
                    | ((first | (refine hK _ ?_; clear hK K) | show thenQ _ _ _ _ | show blockQ _ _ _ _ | show noGoQ _ _ _); simp only [noGoQ, thenQ, blockQ, if_true, Nat.reduceEqDiff, reduceIte])
                    | (intro hg; first | (exfalso; omega) | (exfalso; contradiction) | skip)
                    | apply And.intro
                    | (with_reducible rfl)
                    | (clear hK; omega)
                    | omega)
        · have x1 : CallsTo Tryd.prog 42 [stD (addC s c)] (.bool false) := decide_eq_false hx ▸ station_ok _ (by simp [addC]; omega)
          rw [stD_addM] at x1
          refine calls_abs Tryd.func14 Tryd.ntmps14 Tryd.results14 Tryd.call14 rfl (by simp) fun w0 S0 M0 => ?_
          repeat' (first
              | (show Abs _ (.region 3 _ true) _ _; refine abs_keep [(3, i64 less), (4, i64 low), (5, i64 high), (6, .box 0 0), (7, .box 1 0), (8, .box 2 0)] [.mu (stC s), .mu [i64 r.day, i64 r.min, i64 r.clk, i64 r.mer, i64 r.al, i64 r.ah, i64 r.dl, i64 r.dh, i64 r.wl, i64 r.wh], .mu [i64 c.day, i64 c.lo, i64 c.hi]] [] (le_of rfl (by try simp (maxSteps := 10000000) -implicitDefEqProofs only [go_sem, bas, basL, Nat.reduceAdd, Nat.reduceSub, Nat.reduceMul, Nat.reduceLT, Nat.reduceLeDiff, Nat.reduceEqDiff, Nat.reduceBEq, Int.reduceLT, Int.reduceLE, Int.reduceToNat, Int.reduceAdd, Int.reduceSub, Int.reduceMul, Int.reduceNeg, Int.reduceEq, reduceCtorEq, eq_self, ne_eq, not_false_eq_true, if_true, reduceIte, ↓wo0, ↓wo1, ↓wo2, Int.natCast_zero, Int.natCast_one, Int.cast_ofNat_Int, lapp_cons', lapp_nil']; try simp) ⟨_, rfl⟩ ⟨_, rfl⟩) ⟨rfl, rfl⟩ rfl ?_; refine abs_drawT [(6, 13), (6, 14), (6, 15), (6, 16), (7, 13), (7, 14), (7, 15), (7, 16), (14, 13), (15, 13), (16, 13), (15, 14), (16, 14), (16, 15), (13, 14), (13, 15), (13, 16), (14, 15), (14, 16), (15, 16)] [0, 1, 2, 3] [4, 5, 6, 7] (.alt 4 (.alt 5 (.alt 6 (.alt 7 (.leaf []) (.stop)) (.alt 7 (.alt 6 (.leaf [5]) (.stop)) (.stop))) (.alt 6 (.alt 5 (.alt 7 (.leaf [4]) (.stop)) (.alt 7 (.alt 5 (.leaf [5, 4]) (.stop)) (.stop))) (.alt 7 (.alt 5 (.alt 6 (.leaf [4, 5]) (.stop)) (.alt 6 (.alt 5 (.leaf [4, 5, 4]) (.stop)) (.stop))) (.stop)))) (.alt 5 (.alt 4 (.alt 6 (.alt 7 (.leaf [3]) (.stop)) (.alt 7 (.alt 6 (.leaf [3, 5]) (.stop)) (.stop))) (.alt 6 (.alt 4 (.alt 7 (.leaf [4, 3]) (.stop)) (.alt 7 (.alt 4 (.leaf [5, 4, 3]) (.stop)) (.stop))) (.alt 7 (.alt 4 (.alt 6 (.leaf [4, 5, 3]) (.stop)) (.alt 6 (.alt 4 (.leaf [4, 5, 4, 3]) (.stop)) (.stop))) (.stop)))) (.alt 6 (.alt 4 (.alt 5 (.alt 7 (.leaf [3, 4]) (.stop)) (.alt 7 (.alt 5 (.leaf [3, 5, 4]) (.stop)) (.stop))) (.alt 5 (.alt 4 (.alt 7 (.leaf [3, 4, 3]) (.stop)) (.alt 7 (.alt 4 (.leaf [3, 5, 4, 3]) (.stop)) (.stop))) (.alt 7 (.alt 4 (.alt 5 (.leaf [4, 5, 3, 4]) (.stop)) (.alt 5 (.alt 4 (.leaf [4, 5, 3, 4, 3]) (.stop)) (.stop))) (.stop)))) (.alt 7 (.alt 4 (.alt 5 (.alt 6 (.leaf [3, 4, 5]) (.stop)) (.alt 6 (.alt 5 (.leaf [3, 4, 5, 4]) (.stop)) (.stop))) (.alt 5 (.alt 4 (.alt 6 (.leaf [3, 4, 5, 3]) (.stop)) (.alt 6 (.alt 4 (.leaf [3, 4, 5, 4, 3]) (.stop)) (.stop))) (.alt 6 (.alt 4 (.alt 5 (.leaf [3, 4, 5, 3, 4]) (.stop)) (.alt 5 (.alt 4 (.leaf [3, 4, 5, 3, 4, 3]) (.stop)) (.stop))) (.stop)))) (.stop))))) [8, 9, 10, 11] Tryd.ty.mixed (by kernel_rfl) fun K hK => ?_; simp (maxSteps := 10000000) -implicitDefEqProofs only [go_sem, bas, basL, Nat.reduceAdd, Nat.reduceSub, Nat.reduceMul, Nat.reduceLT, Nat.reduceLeDiff, Nat.reduceEqDiff, Nat.reduceBEq, Int.reduceLT, Int.reduceLE, Int.reduceToNat, Int.reduceAdd, Int.reduceSub, Int.reduceMul, Int.reduceNeg, Int.reduceEq, reduceCtorEq, eq_self, ne_eq, not_false_eq_true, if_true, reduceIte, ↓wo0, ↓wo1, ↓wo2, Int.natCast_zero, Int.natCast_one, Int.cast_ofNat_Int, lapp_cons', lapp_nil']; refine And.intro ?_ ?_; rotate_left; (repeat' (first | (refine sle_of rfl ?_ ?_ rfl) | exact slle_none | (refine slle_put ?_ ?_) | exact trivial | apply And.intro | (with_reducible rfl) | (show @Eq D _ _; simp (maxSteps := 10000000) -implicitDefEqProofs only [go_sem, bas, basL, Nat.reduceAdd, Nat.reduceSub, Nat.reduceMul, Nat.reduceLT, Nat.reduceLeDiff, Nat.reduceEqDiff, Nat.reduceBEq, Int.reduceLT, Int.reduceLE, Int.reduceToNat, Int.reduceAdd, Int.reduceSub, Int.reduceMul, Int.reduceNeg, Int.reduceEq, reduceCtorEq, eq_self, ne_eq, not_false_eq_true, if_true, reduceIte, ↓wo0, ↓wo1, ↓wo2, Int.natCast_zero, Int.natCast_one, Int.cast_ofNat_Int, lapp_cons', lapp_nil']; done) | (show @Eq (List Bx) _ _; simp (maxSteps := 10000000) -implicitDefEqProofs only [go_sem, bas, basL, Nat.reduceAdd, Nat.reduceSub, Nat.reduceMul, Nat.reduceLT, Nat.reduceLeDiff, Nat.reduceEqDiff, Nat.reduceBEq, Int.reduceLT, Int.reduceLE, Int.reduceToNat, Int.reduceAdd, Int.reduceSub, Int.reduceMul, Int.reduceNeg, Int.reduceEq, reduceCtorEq, eq_self, ne_eq, not_false_eq_true, if_true, reduceIte, ↓wo0, ↓wo1, ↓wo2, Int.natCast_zero, Int.natCast_one, Int.cast_ofNat_Int, lapp_cons', lapp_nil']; done))); skip)
              | refine abs_seq ?_
              | refine abs_block ?_
              | refine abs_skip ?_
              | refine abs_scope ?_
              | refine abs_label ?_
              | refine abs_exit ?_
              | refine abs_ret ?_
              | ((first | (show Abs _ (.region 4 _ true) _ _; refine abs_drawXT [] [6, 13] [0, 1] [2, 3, 4] (.alt 2 (.alt 3 (.alt 4 (.leaf []) .stop) .stop) (.alt 3 (.alt 2 (.alt 4 (.leaf []) .stop) (.alt 4 (.alt 2 (.leaf []) .stop) .stop)) .stop)) [5, 6, 7] Tryd.ty.mixed (by kernel_rfl) fun K hK => ?_) | (show Abs _ (.region 6 _ true) _ _; refine abs_drawD [(82, 92), (82, 93), (87, 92), (87, 93)] Tryd.ty.mixed (by kernel_rfl) fun K hK => ?_) | (show Abs _ (.region 7 _ true) _ _; refine abs_drawD [(94, 109), (94, 110), (94, 111), (99, 109), (99, 110), (99, 111), (104, 109), (104, 110), (104, 111)] Tryd.ty.mixed (by kernel_rfl) fun K hK => ?_) | (show Abs _ (.region 21 _ true) _ _; refine abs_drawD [(150, 24), (23, 24)] Tryd.ty.mixed (by kernel_rfl) fun K hK => ?_) | (show Abs _ (.region 22 _ true) _ _; refine abs_drawD [(159, 26), (161, 26)] Tryd.ty.mixed (by kernel_rfl) fun K hK => ?_) | show Sep _ _ | show Bxs _ _ | refine abs_region fun K hK => ?_ | refine abs_draw Tryd.ty.mixed (by kernel_rfl) fun K hK => ?_ | refine abs_if ?_ | show retQ _ _ _ _ _ | refine callK (h1) ?_ | refine callK (d1) ?_ | refine callK (p1) ?_ | refine callK (p2) ?_ | refine callK (p3) ?_ | refine callK (p4) ?_ | refine callK (p5) ?_ | refine callK (x1) ?_ | refine callK (known_ok) ?_); simp (maxSteps := 10000000) -implicitDefEqProofs only [go_sem, bas, basL, Nat.reduceAdd, Nat.reduceSub, Nat.reduceMul, Nat.reduceLT, Nat.reduceLeDiff, Nat.reduceEqDiff, Nat.reduceBEq, Int.reduceLT, Int.reduceLE, Int.reduceToNat, Int.reduceAdd, Int.reduceSub, Int.reduceMul, Int.reduceNeg, Int.reduceEq, reduceCtorEq, eq_self, ne_eq, not_false_eq_true, if_true, reduceIte, ↓wo0, ↓wo1, ↓wo2, Int.natCast_zero, Int.natCast_one, Int.cast_ofNat_Int, lapp_cons', lapp_nil'])
              | ((first | (refine hK _ ?_; clear hK K) | show thenQ _ _ _ _ | show blockQ _ _ _ _ | show noGoQ _ _ _); simp only [noGoQ, thenQ, blockQ, if_true, Nat.reduceEqDiff, reduceIte])
              | (show SLe _ _; refine sle_of rfl ?_ ?_ rfl)
              | (show SlLe _ _; first | refine slle_none | refine slle_put ?_ ?_)
              | (show @Eq D _ _; simp (maxSteps := 10000000) -implicitDefEqProofs only [go_sem, bas, basL, Nat.reduceAdd, Nat.reduceSub, Nat.reduceMul, Nat.reduceLT, Nat.reduceLeDiff, Nat.reduceEqDiff, Nat.reduceBEq, Int.reduceLT, Int.reduceLE, Int.reduceToNat, Int.reduceAdd, Int.reduceSub, Int.reduceMul, Int.reduceNeg, Int.reduceEq, reduceCtorEq, eq_self, ne_eq, not_false_eq_true, if_true, reduceIte, ↓wo0, ↓wo1, ↓wo2, Int.natCast_zero, Int.natCast_one, Int.cast_ofNat_Int, lapp_cons', lapp_nil']; done)
              | (show @Eq (List Bx) _ _; simp (maxSteps := 10000000) -implicitDefEqProofs only [go_sem, bas, basL, Nat.reduceAdd, Nat.reduceSub, Nat.reduceMul, Nat.reduceLT, Nat.reduceLeDiff, Nat.reduceEqDiff, Nat.reduceBEq, Int.reduceLT, Int.reduceLE, Int.reduceToNat, Int.reduceAdd, Int.reduceSub, Int.reduceMul, Int.reduceNeg, Int.reduceEq, reduceCtorEq, eq_self, ne_eq, not_false_eq_true, if_true, reduceIte, ↓wo0, ↓wo1, ↓wo2, Int.natCast_zero, Int.natCast_one, Int.cast_ofNat_Int, lapp_cons', lapp_nil']; done)
              | ((intro y hy; obtain ⟨c, _, rfl⟩ := List.mem_map.1 hy; rfl))
              | (intro hg; first | (exfalso; omega) | (exfalso; contradiction) | skip)
              | apply And.intro
              | (with_reducible rfl)
              | (clear hK; omega)
              | omega)
      · refine calls_abs Tryd.func14 Tryd.ntmps14 Tryd.results14 Tryd.call14 rfl (by simp) fun w0 S0 M0 => ?_
        repeat' (first
            | refine abs_seq ?_
            | refine abs_block ?_
            | refine abs_skip ?_
            | refine abs_scope ?_
            | refine abs_label ?_
            | refine abs_exit ?_
            | refine abs_ret ?_
            | ((first | (show Abs _ (.region 6 _ true) _ _; refine abs_drawD [(82, 92), (82, 93), (87, 92), (87, 93)] Tryd.ty.mixed (by kernel_rfl) fun K hK => ?_) | (show Abs _ (.region 7 _ true) _ _; refine abs_drawD [(94, 109), (94, 110), (94, 111), (99, 109), (99, 110), (99, 111), (104, 109), (104, 110), (104, 111)] Tryd.ty.mixed (by kernel_rfl) fun K hK => ?_) | (show Abs _ (.region 21 _ true) _ _; refine abs_drawD [(150, 24), (23, 24)] Tryd.ty.mixed (by kernel_rfl) fun K hK => ?_) | (show Abs _ (.region 22 _ true) _ _; refine abs_drawD [(159, 26), (161, 26)] Tryd.ty.mixed (by kernel_rfl) fun K hK => ?_) | show Sep _ _ | refine abs_region fun K hK => ?_ | refine abs_draw Tryd.ty.mixed (by kernel_rfl) fun K hK => ?_ | refine abs_if ?_ | show retQ _ _ _ _ _ | refine callK (h1) ?_ | refine callK (d1) ?_ | refine callK (known_ok) ?_); simp (maxSteps := 10000000) -implicitDefEqProofs only [go_sem, bas, basL, Nat.reduceAdd, Nat.reduceSub, Nat.reduceMul, Nat.reduceLT, Nat.reduceLeDiff, Nat.reduceEqDiff, Nat.reduceBEq, Int.reduceLT, Int.reduceLE, Int.reduceToNat, Int.reduceAdd, Int.reduceSub, Int.reduceMul, Int.reduceNeg, Int.reduceEq, reduceCtorEq, eq_self, ne_eq, not_false_eq_true, if_true, reduceIte, ↓wo0, ↓wo1, ↓wo2, Int.natCast_zero, Int.natCast_one, Int.cast_ofNat_Int, lapp_cons', lapp_nil'])
            | ((first | (refine hK _ ?_; clear hK K) | show thenQ _ _ _ _ | show blockQ _ _ _ _ | show noGoQ _ _ _); simp only [noGoQ, thenQ, blockQ, if_true, Nat.reduceEqDiff, reduceIte])
            | (intro hg; first | (exfalso; omega) | (exfalso; contradiction) | skip)
            | apply And.intro
            | (with_reducible rfl)
            | (clear hK; omega)
            | omega)
    · have d1 : CallsTo Tryd.prog 31 [rdD r] (.bool false) := decide_eq_false hr ▸ reading_ok r
      refine calls_abs Tryd.func14 Tryd.ntmps14 Tryd.results14 Tryd.call14 rfl (by simp) fun w0 S0 M0 => ?_
      repeat' (first
          | refine abs_seq ?_
          | refine abs_block ?_
          | refine abs_skip ?_
          | refine abs_scope ?_
          | refine abs_label ?_
          | refine abs_exit ?_
          | refine abs_ret ?_
          | ((first | (show Abs _ (.region 6 _ true) _ _; refine abs_drawD [(82, 92), (82, 93), (87, 92), (87, 93)] Tryd.ty.mixed (by kernel_rfl) fun K hK => ?_) | (show Abs _ (.region 7 _ true) _ _; refine abs_drawD [(94, 109), (94, 110), (94, 111), (99, 109), (99, 110), (99, 111), (104, 109), (104, 110), (104, 111)] Tryd.ty.mixed (by kernel_rfl) fun K hK => ?_) | (show Abs _ (.region 21 _ true) _ _; refine abs_drawD [(150, 24), (23, 24)] Tryd.ty.mixed (by kernel_rfl) fun K hK => ?_) | (show Abs _ (.region 22 _ true) _ _; refine abs_drawD [(159, 26), (161, 26)] Tryd.ty.mixed (by kernel_rfl) fun K hK => ?_) | show Sep _ _ | refine abs_region fun K hK => ?_ | refine abs_draw Tryd.ty.mixed (by kernel_rfl) fun K hK => ?_ | refine abs_if ?_ | show retQ _ _ _ _ _ | refine callK (h1) ?_ | refine callK (d1) ?_ | refine callK (known_ok) ?_); simp (maxSteps := 10000000) -implicitDefEqProofs only [go_sem, bas, basL, Nat.reduceAdd, Nat.reduceSub, Nat.reduceMul, Nat.reduceLT, Nat.reduceLeDiff, Nat.reduceEqDiff, Nat.reduceBEq, Int.reduceLT, Int.reduceLE, Int.reduceToNat, Int.reduceAdd, Int.reduceSub, Int.reduceMul, Int.reduceNeg, Int.reduceEq, reduceCtorEq, eq_self, ne_eq, not_false_eq_true, if_true, reduceIte, ↓wo0, ↓wo1, ↓wo2, Int.natCast_zero, Int.natCast_one, Int.cast_ofNat_Int, lapp_cons', lapp_nil'])
          | ((first | (refine hK _ ?_; clear hK K) | show thenQ _ _ _ _ | show blockQ _ _ _ _ | show noGoQ _ _ _); simp only [noGoQ, thenQ, blockQ, if_true, Nat.reduceEqDiff, reduceIte])
          | (intro hg; first | (exfalso; omega) | (exfalso; contradiction) | skip)
          | apply And.intro
          | (with_reducible rfl)
          | (clear hK; omega)
          | omega)
  · have h1 := agr0 hl hag
    refine calls_abs Tryd.func14 Tryd.ntmps14 Tryd.results14 Tryd.call14 rfl (by simp) fun w0 S0 M0 => ?_
    repeat' (first
        | refine abs_seq ?_
        | refine abs_block ?_
        | refine abs_skip ?_
        | refine abs_scope ?_
        | refine abs_label ?_
        | refine abs_exit ?_
        | refine abs_ret ?_
        | ((first | (show Abs _ (.region 6 _ true) _ _; refine abs_drawD [(82, 92), (82, 93), (87, 92), (87, 93)] Tryd.ty.mixed (by kernel_rfl) fun K hK => ?_) | (show Abs _ (.region 7 _ true) _ _; refine abs_drawD [(94, 109), (94, 110), (94, 111), (99, 109), (99, 110), (99, 111), (104, 109), (104, 110), (104, 111)] Tryd.ty.mixed (by kernel_rfl) fun K hK => ?_) | (show Abs _ (.region 21 _ true) _ _; refine abs_drawD [(150, 24), (23, 24)] Tryd.ty.mixed (by kernel_rfl) fun K hK => ?_) | (show Abs _ (.region 22 _ true) _ _; refine abs_drawD [(159, 26), (161, 26)] Tryd.ty.mixed (by kernel_rfl) fun K hK => ?_) | show Sep _ _ | refine abs_region fun K hK => ?_ | refine abs_draw Tryd.ty.mixed (by kernel_rfl) fun K hK => ?_ | refine abs_if ?_ | show retQ _ _ _ _ _ | refine callK (h1) ?_ | refine callK (known_ok) ?_); simp (maxSteps := 10000000) -implicitDefEqProofs only [go_sem, bas, basL, Nat.reduceAdd, Nat.reduceSub, Nat.reduceMul, Nat.reduceLT, Nat.reduceLeDiff, Nat.reduceEqDiff, Nat.reduceBEq, Int.reduceLT, Int.reduceLE, Int.reduceToNat, Int.reduceAdd, Int.reduceSub, Int.reduceMul, Int.reduceNeg, Int.reduceEq, reduceCtorEq, eq_self, ne_eq, not_false_eq_true, if_true, reduceIte, ↓wo0, ↓wo1, ↓wo2, Int.natCast_zero, Int.natCast_one, Int.cast_ofNat_Int, lapp_cons', lapp_nil'])
        | ((first | (refine hK _ ?_; clear hK K) | show thenQ _ _ _ _ | show blockQ _ _ _ _ | show noGoQ _ _ _); simp only [noGoQ, thenQ, blockQ, if_true, Nat.reduceEqDiff, reduceIte])
        | (intro hg; first | (exfalso; omega) | (exfalso; contradiction) | skip)
        | apply And.intro
        | (with_reducible rfl)
        | (clear hK; omega)
        | omega)
end Go.Proofs.YtdbiiegohemahaaDoor
