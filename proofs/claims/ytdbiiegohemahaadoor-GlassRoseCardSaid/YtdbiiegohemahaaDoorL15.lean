import Derived.Test.YtdbiiegohemahaaDoorM0
set_option linter.unusedVariables false
set_option linter.unusedSimpArgs false
namespace Go.Proofs.YtdbiiegohemahaaDoor
open Go.Ab
attribute [local irreducible] Abs CallK CallR CallsTo IA
abbrev add2 (s : Stn) (a x b y : Int) : Stn := addC (addC s ⟨a, x, x⟩) ⟨b, y, y⟩
theorem stD_add2 (s : Stn) (a x b y : Int) : stD (add2 s a x b y) = .agg [i64 s.hl, i64 s.hh, i64 s.gl, i64 s.gh, i64 s.dr, i64 s.rd, i64 s.ea, i64 s.sl, .list (s.ck.map ckD ++ [.agg [i64 a, i64 x, i64 x], .agg [i64 b, i64 y, i64 y]])] := by
  unfold add2 addC
  simp only [stD, List.map_append, List.map_cons, List.map_nil, ckD, List.append_assoc, List.cons_append, List.nil_append]
theorem ckOne {a x : Int} (ha : 0 ≤ a ∧ a ≤ 400) (h1 : -2000 ≤ x) (h2 : x ≤ 2000) : CkOk ⟨a, x, x⟩ := ⟨ha, by unfold Spn; simp only; omega⟩
theorem stOk_add2 {s : Stn} (hs : StOk s) (hlen : s.ck.length + 2 ≤ 12) {a b x y : Int} (ha : 0 ≤ a ∧ a ≤ 400) (hb : 0 ≤ b ∧ b ≤ 400)
    (h1 : -2000 ≤ x ∧ x ≤ 2000) (h2 : -2000 ≤ y ∧ y ≤ 2000) : StOk (add2 s a x b y) :=
  stOk_add (stOk_add hs (ckOne ha h1.1 h1.2) (by omega)) (ckOne hb h2.1 h2.2) (by simp [addC]; omega)
/-- Two numbers within the bounds of their days, no further apart than the index can drift: found so, the comparisons agree. -/
theorem rose_fit {s : Stn} (hs : StOk s) (hn : NoClash s) (hlen : s.ck.length + 2 ≤ 12) {a b x y : Int} (ha : 0 ≤ a ∧ a ≤ 400) (hb : 0 ≤ b ∧ b ≤ 400)
    (h1 : ixL s a ≤ x) (h2 : x ≤ ixH s a) (h3 : ixL s b ≤ y) (h4 : y ≤ ixH s b) (h5 : x - s.dr * far a b ≤ y) (h6 : y ≤ x + s.dr * far a b) : NoClash (add2 s a x b y) := by
  have b1 := ixL_bd hs ha; have b2 := ixH_bd hs ha
  have hs1 := stOk_add hs (ckOne (x := x) ha (by omega) (by omega)) (by omega)
  have hn1 := noClash_add (c := ⟨a, x, x⟩) hs hn (Int.le_refl _) h1 h2
  refine noClash_add (c := ⟨b, y, y⟩) hs1 hn1 (Int.le_refl _) ?_ ?_
  · rw [ixL_add, far_comm]; simp only; omega
  · rw [ixH_add, far_comm]; simp only; omega
theorem rose_bd {s : Stn} (hs : StOk s) (hlen : s.ck.length + 2 ≤ 12) {a b x y : Int} (ha : 0 ≤ a ∧ a ≤ 400) (hb : 0 ≤ b ∧ b ≤ 400)
    (h1 : -2000 ≤ x ∧ x ≤ 2000) (h2 : -2000 ≤ y ∧ y ≤ 2000) (h : NoClash (add2 s a x b y)) :
    ixL s a ≤ x ∧ x ≤ ixH s a ∧ ixL s b ≤ y ∧ y ≤ ixH s b ∧ x - s.dr * far a b ≤ y ∧ y ≤ x + s.dr * far a b := by
  have hs1 := stOk_add hs (ckOne ha h1.1 h1.2) (by omega)
  have hs2 := stOk_add2 hs hlen ha hb h1 h2
  obtain ⟨hn1, e1, e2⟩ := noClash_of_add hs2 h
  obtain ⟨_, e3, e4⟩ := noClash_of_add hs1 hn1
  rw [ixL_add, far_comm] at e1
  rw [ixH_add, far_comm] at e2
  simp only at e1 e2 e3 e4
  omega
set_option maxRecDepth 100000 in
set_option maxHeartbeats 4000000 in
theorem found_ok (s : Stn) (hl : s.ck.length ≤ 12) (a x b y : Int) : CallsTo Tryd.prog 40 [stD s, i64 a, i64 x, i64 b, i64 y] (stD (add2 s a x b y)) := by
  rw [stD_add2]
  refine calls_abs Tryd.func40 Tryd.ntmps40 Tryd.results40 Tryd.call40 rfl (by simp) fun w0 S0 M0 => ?_
  repeat' (first
      | refine abs_seq ?_
      | refine abs_block ?_
      | refine abs_skip ?_
      | refine abs_scope ?_
      | refine abs_label ?_
      | refine abs_exit ?_
      | refine abs_ret ?_
      | ((first | refine abs_region fun K hK => ?_ | refine abs_draw Tryd.ty.mixed (by kernel_rfl) fun K hK => ?_ | refine abs_if ?_ | show retQ _ _ _ _ _ | refine callK (sp_ok _ _) ?_); simp -implicitDefEqProofs only [go_sem, bas, basL, Nat.reduceAdd, Nat.reduceSub, Nat.reduceMul, Nat.reduceLT, Nat.reduceLeDiff, Nat.reduceEqDiff, Nat.reduceBEq, Int.reduceLT, Int.reduceLE, Int.reduceToNat, Int.reduceAdd, Int.reduceSub, Int.reduceMul, Int.reduceNeg, Int.reduceEq, reduceCtorEq, eq_self, ne_eq, not_false_eq_true, if_true, reduceIte])
      | ((first | (refine hK _ ?_; clear hK K) | show thenQ _ _ _ _ | show blockQ _ _ _ _ | show noGoQ _ _ _); simp only [noGoQ, thenQ, blockQ, if_true, Nat.reduceEqDiff, reduceIte])
      | ((intro y hy; obtain ⟨c, _, rfl⟩ := List.mem_map.1 hy; rfl))
      | (intro hg; first | (exfalso; omega) | (exfalso; contradiction) | skip)
      | apply And.intro
      | (with_reducible rfl)
      | (clear hK; omega)
      | omega)
  all_goals skip
set_option maxRecDepth 100000 in
set_option maxHeartbeats 4000000 in
theorem rose_law (s : Stn) (hl : s.ck.length ≤ 9223372036854775807) (a b : Rdg) (x y u v : Int) : CallsTo Tryd.prog 11 [stD s, rdD a, rdD b, i64 x, i64 y, i64 u, i64 v] (.bool true) := by
  by_cases hag : StOk s ∧ NoClash s
  · have hs := hag.1
    have hn := hag.2
    have h1 := agr1 hs hn
    have hln := hs.n
    have hrd := hs.r
    by_cases hra : RdOk a
    · have d1 : CallsTo Tryd.prog 31 [rdD a] (.bool true) := decide_eq_true hra ▸ reading_ok a
      by_cases hrb : RdOk b
      · have d2 : CallsTo Tryd.prog 31 [rdD b] (.bool true) := decide_eq_true hrb ▸ reading_ok b
        by_cases hrest : s.ck.length + 2 ≤ 12 ∧ (-s.rd ≤ u ∧ u ≤ s.rd) ∧ -s.rd ≤ v ∧ v ≤ s.rd
        · obtain ⟨hlen, hu, hv⟩ := hrest
          have ha := hra.d; have hb := hrb.d
          have hx := gRise_ok s hl a b
          rw [errN_ok ⟨hs, hra, hrb⟩ hn, if_pos rfl] at hx
          have hy := gRise_ok s hl b a
          rw [errN_ok ⟨hs, hrb, hra⟩ hn, if_pos rfl] at hy
          have e1 : riseL s b a = -riseH s a b := by unfold riseL riseH; omega
          have e2 : riseH s b a = -riseL s a b := by unfold riseL riseH; rw [far_comm b.day a.day]; omega
          rw [e1, e2] at hy
          have x1 : riseL s a b = b.mer - a.mer - min (ixH s b.day - ixL s a.day) (s.dr * far a.day b.day) - 2 * s.rd := by unfold riseL; rw [far_comm b.day a.day]
          have x2 : riseH s a b = b.mer - a.mer + min (ixH s a.day - ixL s b.day) (s.dr * far a.day b.day) + 2 * s.rd := rfl
          have b1 := ixL_bd hs ha; have b2 := ixH_bd hs ha; have b3 := ixL_bd hs hb; have b4 := ixH_bd hs hb
          have l1 := ix_le hs hn a.day; have l2 := ix_le hs hn b.day
          have n1 := ixL_near hs.d.1 a.day b.day; have n2 := ixL_near hs.d.1 b.day a.day
          have n3 := ixH_near hs.d.1 a.day b.day; have n4 := ixH_near hs.d.1 b.day a.day
          rw [far_comm b.day a.day] at n2 n4
          have fb := far_bd ha hb
          have fm := mul_bd (A := 100) (B := 400) (a := s.dr) (b := far a.day b.day) hs.d.1 hs.d.2 fb.1 fb.2
          have hq1 := hra.q; have hq2 := hrb.q; have hdr := hs.d
          have g1 := gIndex0 hs hn ha
          have g2 := gIndex0 hs hn hb
          have s1 : CallsTo Tryd.prog 23 [spD (ixL s a.day) (ixH s a.day), i64 (-2000), i64 2000] (.bool true) := decide_eq_true (show Spn (ixL s a.day) (ixH s a.day) (-2000) 2000 from ⟨by omega, by omega, by omega⟩) ▸ span_ok _ _ _ _
          have s2 : CallsTo Tryd.prog 23 [spD (ixL s b.day) (ixH s b.day), i64 (-2000), i64 2000] (.bool true) := decide_eq_true (show Spn (ixL s b.day) (ixH s b.day) (-2000) 2000 from ⟨by omega, by omega, by omega⟩) ▸ span_ok _ _ _ _
          have s3 : CallsTo Tryd.prog 23 [spD (riseL s a b) (riseH s a b), i64 (-200000), i64 200000] (.bool true) := decide_eq_true (show Spn (riseL s a b) (riseH s a b) (-200000) 200000 from ⟨by omega, by omega, by omega⟩) ▸ span_ok _ _ _ _
          have fit : ∀ p q, ixL s a.day ≤ p → p ≤ ixH s a.day → ixL s b.day ≤ q → q ≤ ixH s b.day → p - s.dr * far a.day b.day ≤ q → q ≤ p + s.dr * far a.day b.day →
              CallsTo Tryd.prog 22 [stD (add2 s a.day p b.day q), i64 0] (.tup [spD (ixL (add2 s a.day p b.day q) 0) (ixH (add2 s a.day p b.day q) 0), i64 0]) := fun p q c1 c2 c3 c4 c5 c6 =>
            gIndex0 (stOk_add2 hs hlen ha hb (by omega) (by omega)) (rose_fit hs hn hlen ha hb c1 c2 c3 c4 c5 c6) (by omega)
          have fu := found_ok s hln
          have hfar : max (a.day - b.day) (b.day - a.day) = far a.day b.day := rfl
          have g3 := fit (ixL s a.day) (min (ixH s b.day) (ixL s a.day + s.dr * far a.day b.day)) (by omega) (by omega) (by omega) (by omega) (by omega) (by omega)
          have g4 := fit (ixH s a.day) (max (ixL s b.day) (ixH s a.day - s.dr * far a.day b.day)) (by omega) (by omega) (by omega) (by omega) (by omega) (by omega)
          generalize riseL s a b = xl at *
          generalize riseH s a b = xh at *
          refine calls_abs Tryd.func11 Tryd.ntmps11 Tryd.results11 Tryd.call11 rfl (by simp) fun w0 S0 M0 => ?_
          repeat' (first
              | refine abs_seq ?_
              | refine abs_block ?_
              | refine abs_skip ?_
              | refine abs_scope ?_
              | refine abs_label ?_
              | refine abs_exit ?_
              | refine abs_ret ?_
              | ((first | refine abs_region fun K hK => ?_ | refine abs_draw Tryd.ty.mixed (by kernel_rfl) fun K hK => ?_ | refine abs_if ?_ | show retQ _ _ _ _ _ | refine callK (h1) ?_ | refine callK (d1) ?_ | refine callK (d2) ?_ | refine callK (hx) ?_ | refine callK (hy) ?_ | refine callK (s3) ?_ | refine callK (sp_ok _ _) ?_); simp -implicitDefEqProofs only [go_sem, bas, basL, Nat.reduceAdd, Nat.reduceSub, Nat.reduceMul, Nat.reduceLT, Nat.reduceLeDiff, Nat.reduceEqDiff, Nat.reduceBEq, Int.reduceLT, Int.reduceLE, Int.reduceToNat, Int.reduceAdd, Int.reduceSub, Int.reduceMul, Int.reduceNeg, Int.reduceEq, reduceCtorEq, eq_self, ne_eq, not_false_eq_true, if_true, reduceIte, hfar])
              | ((first | (refine hK _ ?_; clear hK K) | show thenQ _ _ _ _ | show blockQ _ _ _ _ | show noGoQ _ _ _); simp only [noGoQ, thenQ, blockQ, if_true, Nat.reduceEqDiff, reduceIte])
              | (intro hg; first | (exfalso; omega) | (exfalso; contradiction) | skip)
              | apply And.intro
              | (with_reducible rfl)
              | (clear hK; omega)
              | omega)
          refine abs_loopN (ι := Nat) (fun j => [(3, i64 x), (4, i64 y), (5, i64 u), (6, i64 v), (7, .box 0 0), (8, .box 1 0), (9, .box 2 0), (15, .box 3 0), (19, i64 j)]) (fun _ => [.mu (stC s), .mu [i64 a.day, i64 a.min, i64 a.clk, i64 a.mer, i64 a.al, i64 a.ah, i64 a.dl, i64 a.dh, i64 a.wl, i64 a.wh], .mu [i64 b.day, i64 b.min, i64 b.clk, i64 b.mer, i64 b.al, i64 b.ah, i64 b.dl, i64 b.dh, i64 b.wl, i64 b.wh], .mu [i64 xl, i64 xh]]) (fun _ => [])
            (fun j => j ≤ 2) (fun j => 2 - j) (fun _ _ => ⟨rfl, rfl⟩) 0 (Nat.zero_le _) (le_of rfl (by try simp -implicitDefEqProofs only [go_sem, bas, basL, Nat.reduceAdd, Nat.reduceSub, Nat.reduceMul, Nat.reduceLT, Nat.reduceLeDiff, Nat.reduceEqDiff, Nat.reduceBEq, Int.reduceLT, Int.reduceLE, Int.reduceToNat, Int.reduceAdd, Int.reduceSub, Int.reduceMul, Int.reduceNeg, Int.reduceEq, reduceCtorEq, eq_self, ne_eq, not_false_eq_true, if_true, reduceIte, hfar]; try simp) ⟨_, rfl⟩ ⟨_, rfl⟩) (fun j hj => ?_)
          by_cases j0 : j = 0
          · subst j0
            simp -implicitDefEqProofs only [go_sem, bas, basL, Nat.reduceAdd, Nat.reduceSub, Nat.reduceMul, Nat.reduceLT, Nat.reduceLeDiff, Nat.reduceEqDiff, Nat.reduceBEq, Int.reduceLT, Int.reduceLE, Int.reduceToNat, Int.reduceAdd, Int.reduceSub, Int.reduceMul, Int.reduceNeg, Int.reduceEq, reduceCtorEq, eq_self, ne_eq, not_false_eq_true, if_true, reduceIte, hfar]
            repeat' (first
                | refine abs_seq ?_
                | refine abs_block ?_
                | refine abs_skip ?_
                | refine abs_scope ?_
                | refine abs_label ?_
                | refine abs_exit ?_
                | refine abs_ret ?_
                | ((first | refine abs_region fun K hK => ?_ | refine abs_draw Tryd.ty.mixed (by kernel_rfl) fun K hK => ?_ | refine abs_if ?_ | show retQ _ _ _ _ _ | refine callK (g1) ?_ | refine callK (g2) ?_ | refine callK (s1) ?_ | refine callK (s2) ?_ | refine callK (fu _ _ _ _) ?_ | refine callK (g3) ?_); simp -implicitDefEqProofs only [go_sem, bas, basL, Nat.reduceAdd, Nat.reduceSub, Nat.reduceMul, Nat.reduceLT, Nat.reduceLeDiff, Nat.reduceEqDiff, Nat.reduceBEq, Int.reduceLT, Int.reduceLE, Int.reduceToNat, Int.reduceAdd, Int.reduceSub, Int.reduceMul, Int.reduceNeg, Int.reduceEq, reduceCtorEq, eq_self, ne_eq, not_false_eq_true, if_true, reduceIte, hfar])
                | ((first | (refine hK _ ?_; clear hK K) | show thenQ _ _ _ _ | show blockQ _ _ _ _ | show noGoQ _ _ _); simp only [noGoQ, thenQ, blockQ, if_true, Nat.reduceEqDiff, reduceIte])
                | (intro hg; first | (exfalso; omega) | (exfalso; contradiction) | skip)
                | apply And.intro
                | (with_reducible rfl)
                | (clear hK; omega)
                | omega)
            exact ⟨1, by omega, by omega, le_of rfl (by try simp -implicitDefEqProofs only [go_sem, bas, basL, Nat.reduceAdd, Nat.reduceSub, Nat.reduceMul, Nat.reduceLT, Nat.reduceLeDiff, Nat.reduceEqDiff, Nat.reduceBEq, Int.reduceLT, Int.reduceLE, Int.reduceToNat, Int.reduceAdd, Int.reduceSub, Int.reduceMul, Int.reduceNeg, Int.reduceEq, reduceCtorEq, eq_self, ne_eq, not_false_eq_true, if_true, reduceIte, hfar]; try simp) ⟨_, rfl⟩ ⟨_, rfl⟩⟩
          · by_cases j1 : j = 1
            · subst j1
              simp -implicitDefEqProofs only [go_sem, bas, basL, Nat.reduceAdd, Nat.reduceSub, Nat.reduceMul, Nat.reduceLT, Nat.reduceLeDiff, Nat.reduceEqDiff, Nat.reduceBEq, Int.reduceLT, Int.reduceLE, Int.reduceToNat, Int.reduceAdd, Int.reduceSub, Int.reduceMul, Int.reduceNeg, Int.reduceEq, reduceCtorEq, eq_self, ne_eq, not_false_eq_true, if_true, reduceIte, hfar]
              repeat' (first
                  | refine abs_seq ?_
                  | refine abs_block ?_
                  | refine abs_skip ?_
                  | refine abs_scope ?_
                  | refine abs_label ?_
                  | refine abs_exit ?_
                  | refine abs_ret ?_
                  | ((first | refine abs_region fun K hK => ?_ | refine abs_draw Tryd.ty.mixed (by kernel_rfl) fun K hK => ?_ | refine abs_if ?_ | show retQ _ _ _ _ _ | refine callK (g1) ?_ | refine callK (g2) ?_ | refine callK (s1) ?_ | refine callK (s2) ?_ | refine callK (fu _ _ _ _) ?_ | refine callK (g4) ?_); simp -implicitDefEqProofs only [go_sem, bas, basL, Nat.reduceAdd, Nat.reduceSub, Nat.reduceMul, Nat.reduceLT, Nat.reduceLeDiff, Nat.reduceEqDiff, Nat.reduceBEq, Int.reduceLT, Int.reduceLE, Int.reduceToNat, Int.reduceAdd, Int.reduceSub, Int.reduceMul, Int.reduceNeg, Int.reduceEq, reduceCtorEq, eq_self, ne_eq, not_false_eq_true, if_true, reduceIte, hfar])
                  | ((first | (refine hK _ ?_; clear hK K) | show thenQ _ _ _ _ | show blockQ _ _ _ _ | show noGoQ _ _ _); simp only [noGoQ, thenQ, blockQ, if_true, Nat.reduceEqDiff, reduceIte])
                  | (intro hg; first | (exfalso; omega) | (exfalso; contradiction) | skip)
                  | apply And.intro
                  | (with_reducible rfl)
                  | (clear hK; omega)
                  | omega)
              exact ⟨2, by omega, by omega, le_of rfl (by try simp -implicitDefEqProofs only [go_sem, bas, basL, Nat.reduceAdd, Nat.reduceSub, Nat.reduceMul, Nat.reduceLT, Nat.reduceLeDiff, Nat.reduceEqDiff, Nat.reduceBEq, Int.reduceLT, Int.reduceLE, Int.reduceToNat, Int.reduceAdd, Int.reduceSub, Int.reduceMul, Int.reduceNeg, Int.reduceEq, reduceCtorEq, eq_self, ne_eq, not_false_eq_true, if_true, reduceIte, hfar]; try simp) ⟨_, rfl⟩ ⟨_, rfl⟩⟩
            · have j2 : j = 2 := by omega
              subst j2
              by_cases hin : (-2000 ≤ x ∧ x ≤ 2000) ∧ -2000 ≤ y ∧ y ≤ 2000
              · have so := stOk_add2 hs hlen ha hb hin.1 hin.2
                by_cases hnc : NoClash (add2 s a.day x b.day y)
                · have g5 := gIndex0 so hnc (day := 0) (by omega)
                  have bd := rose_bd hs hlen ha hb hin.1 hin.2 hnc
                  have w : CallsTo Tryd.prog 36 [i64 (b.mer - y - v - (a.mer - x - u)), spD xl xh] (.bool true) := decide_eq_true (show xl ≤ b.mer - y - v - (a.mer - x - u) ∧ b.mer - y - v - (a.mer - x - u) ≤ xh by omega) ▸ rwithin_ok _ _ _
                  simp -implicitDefEqProofs only [go_sem, bas, basL, Nat.reduceAdd, Nat.reduceSub, Nat.reduceMul, Nat.reduceLT, Nat.reduceLeDiff, Nat.reduceEqDiff, Nat.reduceBEq, Int.reduceLT, Int.reduceLE, Int.reduceToNat, Int.reduceAdd, Int.reduceSub, Int.reduceMul, Int.reduceNeg, Int.reduceEq, reduceCtorEq, eq_self, ne_eq, not_false_eq_true, if_true, reduceIte, hfar]
                  repeat' (first
                      | refine abs_seq ?_
                      | refine abs_block ?_
                      | refine abs_skip ?_
                      | refine abs_scope ?_
                      | refine abs_label ?_
                      | refine abs_exit ?_
                      | refine abs_ret ?_
                      | ((first | refine abs_region fun K hK => ?_ | refine abs_draw Tryd.ty.mixed (by kernel_rfl) fun K hK => ?_ | refine abs_if ?_ | show retQ _ _ _ _ _ | refine callK (fu _ _ _ _) ?_ | refine callK (g5) ?_ | refine callK (w) ?_ | refine callK (known_ok) ?_); simp -implicitDefEqProofs only [go_sem, bas, basL, Nat.reduceAdd, Nat.reduceSub, Nat.reduceMul, Nat.reduceLT, Nat.reduceLeDiff, Nat.reduceEqDiff, Nat.reduceBEq, Int.reduceLT, Int.reduceLE, Int.reduceToNat, Int.reduceAdd, Int.reduceSub, Int.reduceMul, Int.reduceNeg, Int.reduceEq, reduceCtorEq, eq_self, ne_eq, not_false_eq_true, if_true, reduceIte, hfar])
                      | ((first | (refine hK _ ?_; clear hK K) | show thenQ _ _ _ _ | show blockQ _ _ _ _ | show noGoQ _ _ _); simp only [noGoQ, thenQ, blockQ, if_true, Nat.reduceEqDiff, reduceIte])
                      | (intro hg; first | (exfalso; omega) | (exfalso; contradiction) | skip)
                      | apply And.intro
                      | (with_reducible rfl)
                      | (clear hK; omega)
                      | omega)
                · have g5 := gIndex7 so hnc (day := 0) (by omega)
                  simp -implicitDefEqProofs only [go_sem, bas, basL, Nat.reduceAdd, Nat.reduceSub, Nat.reduceMul, Nat.reduceLT, Nat.reduceLeDiff, Nat.reduceEqDiff, Nat.reduceBEq, Int.reduceLT, Int.reduceLE, Int.reduceToNat, Int.reduceAdd, Int.reduceSub, Int.reduceMul, Int.reduceNeg, Int.reduceEq, reduceCtorEq, eq_self, ne_eq, not_false_eq_true, if_true, reduceIte, hfar]
                  repeat' (first
                      | refine abs_seq ?_
                      | refine abs_block ?_
                      | refine abs_skip ?_
                      | refine abs_scope ?_
                      | refine abs_label ?_
                      | refine abs_exit ?_
                      | refine abs_ret ?_
                      | ((first | refine abs_region fun K hK => ?_ | refine abs_draw Tryd.ty.mixed (by kernel_rfl) fun K hK => ?_ | refine abs_if ?_ | show retQ _ _ _ _ _ | refine callK (fu _ _ _ _) ?_ | refine callK (g5) ?_ | refine callK (known_ok) ?_); simp -implicitDefEqProofs only [go_sem, bas, basL, Nat.reduceAdd, Nat.reduceSub, Nat.reduceMul, Nat.reduceLT, Nat.reduceLeDiff, Nat.reduceEqDiff, Nat.reduceBEq, Int.reduceLT, Int.reduceLE, Int.reduceToNat, Int.reduceAdd, Int.reduceSub, Int.reduceMul, Int.reduceNeg, Int.reduceEq, reduceCtorEq, eq_self, ne_eq, not_false_eq_true, if_true, reduceIte, hfar])
                      | ((first | (refine hK _ ?_; clear hK K) | show thenQ _ _ _ _ | show blockQ _ _ _ _ | show noGoQ _ _ _); simp only [noGoQ, thenQ, blockQ, if_true, Nat.reduceEqDiff, reduceIte])
                      | (intro hg; first | (exfalso; omega) | (exfalso; contradiction) | skip)
                      | apply And.intro
                      | (with_reducible rfl)
                      | (clear hK; omega)
                      | omega)
              · simp -implicitDefEqProofs only [go_sem, bas, basL, Nat.reduceAdd, Nat.reduceSub, Nat.reduceMul, Nat.reduceLT, Nat.reduceLeDiff, Nat.reduceEqDiff, Nat.reduceBEq, Int.reduceLT, Int.reduceLE, Int.reduceToNat, Int.reduceAdd, Int.reduceSub, Int.reduceMul, Int.reduceNeg, Int.reduceEq, reduceCtorEq, eq_self, ne_eq, not_false_eq_true, if_true, reduceIte, hfar]
                repeat' (first
                    | refine abs_seq ?_
                    | refine abs_block ?_
                    | refine abs_skip ?_
                    | refine abs_scope ?_
                    | refine abs_label ?_
                    | refine abs_exit ?_
                    | refine abs_ret ?_
                    | ((first | refine abs_region fun K hK => ?_ | refine abs_draw Tryd.ty.mixed (by kernel_rfl) fun K hK => ?_ | refine abs_if ?_ | show retQ _ _ _ _ _ | refine callK (known_ok) ?_); simp -implicitDefEqProofs only [go_sem, bas, basL, Nat.reduceAdd, Nat.reduceSub, Nat.reduceMul, Nat.reduceLT, Nat.reduceLeDiff, Nat.reduceEqDiff, Nat.reduceBEq, Int.reduceLT, Int.reduceLE, Int.reduceToNat, Int.reduceAdd, Int.reduceSub, Int.reduceMul, Int.reduceNeg, Int.reduceEq, reduceCtorEq, eq_self, ne_eq, not_false_eq_true, if_true, reduceIte, hfar])
                    | ((first | (refine hK _ ?_; clear hK K) | show thenQ _ _ _ _ | show blockQ _ _ _ _ | show noGoQ _ _ _); simp only [noGoQ, thenQ, blockQ, if_true, Nat.reduceEqDiff, reduceIte])
                    | (intro hg; first | (exfalso; omega) | (exfalso; contradiction) | skip)
                    | apply And.intro
                    | (with_reducible rfl)
                    | (clear hK; omega)
                    | omega)
        · refine calls_abs Tryd.func11 Tryd.ntmps11 Tryd.results11 Tryd.call11 rfl (by simp) fun w0 S0 M0 => ?_
          repeat' (first
              | refine abs_seq ?_
              | refine abs_block ?_
              | refine abs_skip ?_
              | refine abs_scope ?_
              | refine abs_label ?_
              | refine abs_exit ?_
              | refine abs_ret ?_
              | ((first | refine abs_region fun K hK => ?_ | refine abs_draw Tryd.ty.mixed (by kernel_rfl) fun K hK => ?_ | refine abs_if ?_ | show retQ _ _ _ _ _ | refine callK (h1) ?_ | refine callK (d1) ?_ | refine callK (d2) ?_ | refine callK (known_ok) ?_); simp -implicitDefEqProofs only [go_sem, bas, basL, Nat.reduceAdd, Nat.reduceSub, Nat.reduceMul, Nat.reduceLT, Nat.reduceLeDiff, Nat.reduceEqDiff, Nat.reduceBEq, Int.reduceLT, Int.reduceLE, Int.reduceToNat, Int.reduceAdd, Int.reduceSub, Int.reduceMul, Int.reduceNeg, Int.reduceEq, reduceCtorEq, eq_self, ne_eq, not_false_eq_true, if_true, reduceIte])
              | ((first | (refine hK _ ?_; clear hK K) | show thenQ _ _ _ _ | show blockQ _ _ _ _ | show noGoQ _ _ _); simp only [noGoQ, thenQ, blockQ, if_true, Nat.reduceEqDiff, reduceIte])
              | (intro hg; first | (exfalso; omega) | (exfalso; contradiction) | skip)
              | apply And.intro
              | (with_reducible rfl)
              | (clear hK; omega)
              | omega)
      · have d2 : CallsTo Tryd.prog 31 [rdD b] (.bool false) := decide_eq_false hrb ▸ reading_ok b
        refine calls_abs Tryd.func11 Tryd.ntmps11 Tryd.results11 Tryd.call11 rfl (by simp) fun w0 S0 M0 => ?_
        repeat' (first
            | refine abs_seq ?_
            | refine abs_block ?_
            | refine abs_skip ?_
            | refine abs_scope ?_
            | refine abs_label ?_
            | refine abs_exit ?_
            | refine abs_ret ?_
            | ((first | refine abs_region fun K hK => ?_ | refine abs_draw Tryd.ty.mixed (by kernel_rfl) fun K hK => ?_ | refine abs_if ?_ | show retQ _ _ _ _ _ | refine callK (h1) ?_ | refine callK (d1) ?_ | refine callK (d2) ?_ | refine callK (known_ok) ?_); simp -implicitDefEqProofs only [go_sem, bas, basL, Nat.reduceAdd, Nat.reduceSub, Nat.reduceMul, Nat.reduceLT, Nat.reduceLeDiff, Nat.reduceEqDiff, Nat.reduceBEq, Int.reduceLT, Int.reduceLE, Int.reduceToNat, Int.reduceAdd, Int.reduceSub, Int.reduceMul, Int.reduceNeg, Int.reduceEq, reduceCtorEq, eq_self, ne_eq, not_false_eq_true, if_true, reduceIte])
            | ((first | (refine hK _ ?_; clear hK K) | show thenQ _ _ _ _ | show blockQ _ _ _ _ | show noGoQ _ _ _); simp only [noGoQ, thenQ, blockQ, if_true, Nat.reduceEqDiff, reduceIte])
            | (intro hg; first | (exfalso; omega) | (exfalso; contradiction) | skip)
            | apply And.intro
            | (with_reducible rfl)
            | (clear hK; omega)
            | omega)
    · have d1 : CallsTo Tryd.prog 31 [rdD a] (.bool false) := decide_eq_false hra ▸ reading_ok a
      refine calls_abs Tryd.func11 Tryd.ntmps11 Tryd.results11 Tryd.call11 rfl (by simp) fun w0 S0 M0 => ?_
      repeat' (first
          | refine abs_seq ?_
          | refine abs_block ?_
          | refine abs_skip ?_
          | refine abs_scope ?_
          | refine abs_label ?_
          | refine abs_exit ?_
          | refine abs_ret ?_
          | ((first | refine abs_region fun K hK => ?_ | refine abs_draw Tryd.ty.mixed (by kernel_rfl) fun K hK => ?_ | refine abs_if ?_ | show retQ _ _ _ _ _ | refine callK (h1) ?_ | refine callK (d1) ?_ | refine callK (known_ok) ?_); simp -implicitDefEqProofs only [go_sem, bas, basL, Nat.reduceAdd, Nat.reduceSub, Nat.reduceMul, Nat.reduceLT, Nat.reduceLeDiff, Nat.reduceEqDiff, Nat.reduceBEq, Int.reduceLT, Int.reduceLE, Int.reduceToNat, Int.reduceAdd, Int.reduceSub, Int.reduceMul, Int.reduceNeg, Int.reduceEq, reduceCtorEq, eq_self, ne_eq, not_false_eq_true, if_true, reduceIte])
          | ((first | (refine hK _ ?_; clear hK K) | show thenQ _ _ _ _ | show blockQ _ _ _ _ | show noGoQ _ _ _); simp only [noGoQ, thenQ, blockQ, if_true, Nat.reduceEqDiff, reduceIte])
          | (intro hg; first | (exfalso; omega) | (exfalso; contradiction) | skip)
          | apply And.intro
          | (with_reducible rfl)
          | (clear hK; omega)
          | omega)
  · have h1 := agr0 hl hag
    refine calls_abs Tryd.func11 Tryd.ntmps11 Tryd.results11 Tryd.call11 rfl (by simp) fun w0 S0 M0 => ?_
    repeat' (first
        | refine abs_seq ?_
        | refine abs_block ?_
        | refine abs_skip ?_
        | refine abs_scope ?_
        | refine abs_label ?_
        | refine abs_exit ?_
        | refine abs_ret ?_
        | ((first | refine abs_region fun K hK => ?_ | refine abs_draw Tryd.ty.mixed (by kernel_rfl) fun K hK => ?_ | refine abs_if ?_ | show retQ _ _ _ _ _ | refine callK (h1) ?_ | refine callK (known_ok) ?_); simp -implicitDefEqProofs only [go_sem, bas, basL, Nat.reduceAdd, Nat.reduceSub, Nat.reduceMul, Nat.reduceLT, Nat.reduceLeDiff, Nat.reduceEqDiff, Nat.reduceBEq, Int.reduceLT, Int.reduceLE, Int.reduceToNat, Int.reduceAdd, Int.reduceSub, Int.reduceMul, Int.reduceNeg, Int.reduceEq, reduceCtorEq, eq_self, ne_eq, not_false_eq_true, if_true, reduceIte])
        | ((first | (refine hK _ ?_; clear hK K) | show thenQ _ _ _ _ | show blockQ _ _ _ _ | show noGoQ _ _ _); simp only [noGoQ, thenQ, blockQ, if_true, Nat.reduceEqDiff, reduceIte])
        | (intro hg; first | (exfalso; omega) | (exfalso; contradiction) | skip)
        | apply And.intro
        | (with_reducible rfl)
        | (clear hK; omega)
        | omega)
end Go.Proofs.YtdbiiegohemahaaDoor
