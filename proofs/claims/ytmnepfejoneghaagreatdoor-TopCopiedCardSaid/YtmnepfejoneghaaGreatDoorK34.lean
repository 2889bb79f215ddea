import Derived.Test.YtmnepfejoneghaaGreatDoorK33
import Derived.Test.YtmnepfejoneghaaGreatDoorK32
import Derived.Test.YtmnepfejoneghaaGreatDoorK14
import Derived.Test.YtmnepfejoneghaaGreatDoorK15
import Derived.Test.YtmnepfejoneghaaGreatDoorRows
import Derived.Test.YtmnepfejoneghaaGreatDoorTie
import Derived.ProofKit
import Derived.ReadAgain
import Derived.Deep.Slices
import Derived.Deep.Strs
import Derived.LaidMore
import Derived.Lay
import Derived.OpenShut
import Derived.Stop.Joined
set_option linter.unusedVariables false
set_option linter.unusedSimpArgs false
namespace Go.Proofs.YtmnepfejoneghaaGreatDoor
open Go.Ab Go.Watch
attribute [local irreducible] Abs CallK CallR CallsTo CallsB IA PI.CallsE StepX
theorem pure_self {bx : List Bx} {rw : List Row} : ∀ cs : List D, (∀ d ∈ cs, pureA bx rw d = some d) → pureL bx rw cs = some cs
  | [], _ => rfl
  | d :: cs, h => by
    simp only [pureL, h d (List.mem_cons_self ..), pure_self cs (fun x hx => h x (List.mem_cons_of_mem _ hx)), Option.map_some]
theorem pure_rd {bx : List Bx} {rw : List Row} (y : List Rdg) (m : Nat) : pureL bx rw (flat (y.map rdD) ++ List.replicate m .undef) = some (flat (y.map rdD) ++ List.replicate m .undef) := by
  refine pure_self _ fun d hd => ?_
  rcases List.mem_append.1 hd with h | h
  · obtain ⟨x, hx, hd2⟩ := List.mem_flatMap.1 h
    obtain ⟨r, _, rfl⟩ := List.mem_map.1 hx
    simp only [D.cells, List.mem_cons, List.not_mem_nil, or_false] at hd2
    rcases hd2 with rfl | rfl | rfl | rfl | rfl | rfl | rfl | rfl | rfl | rfl <;> rfl
  · rw [List.eq_of_mem_replicate h]; rfl
structure Hid (p : Prop) : Prop where
  h : p
theorem HideA {p : Prop} (h : Hid p) : p := h.h
theorem namesL_of {nb nr : Nat} : ∀ cs : List D, (∀ d ∈ cs, namesB nb nr d = true) → namesL nb nr cs = true
  | [], _ => rfl
  | d :: cs, h => by
    simp only [namesL, h d (List.mem_cons_self ..), namesL_of cs (fun x hx => h x (List.mem_cons_of_mem _ hx)), Bool.and_self]
theorem names_rd {nb nr : Nat} (y : List Rdg) (m : Nat) : namesBx nb nr [.mu (flat (y.map rdD) ++ List.replicate m .undef)] = true := by
  simp only [namesBx, Bool.and_true]
  refine namesL_of _ fun d hd => ?_
  rcases List.mem_append.1 hd with h | h
  · obtain ⟨x, hx, hd2⟩ := List.mem_flatMap.1 h
    obtain ⟨r, _, rfl⟩ := List.mem_map.1 hx
    simp only [D.cells, List.mem_cons, List.not_mem_nil, or_false] at hd2
    rcases hd2 with rfl | rfl | rfl | rfl | rfl | rfl | rfl | rfl | rfl | rfl <;> rfl
  · rw [List.eq_of_mem_replicate h]; rfl
set_option maxRecDepth 100000 in
set_option maxHeartbeats 4000000 in
theorem copied_law (l own : List Rdg) (cs : List Bool) (odds : Int) (hl : l.length ≤ 9223372036854775807) (ho : own.length ≤ 9223372036854775807) (hc : cs.length ≤ 9223372036854775807) :
    CallsTo Tryz.prog 3 [.list (l.map rdD), .list (own.map rdD), .list (cs.map D.bool), i64 odds] (.bool true) := by
  have c6 := known_ok
  have c4 := sheet_ok l hl
  have c4b := sheet_ok own ho
  have c5 := odds_ok odds
  by_cases hall : l.length ≤ 18 ∧ own.length = l.length ∧ cs.length = l.length ∧ ShOk l ∧ ShOk own ∧ 1 ≤ odds ∧ odds ≤ 1000000
  · obtain ⟨h18, hol, hcl, hsl, hso, hod⟩ := hall
    rw [decide_eq_true hsl] at c4
    rw [decide_eq_true hso] at c4b
    rw [decide_eq_true hod] at c5
    have c7 := gprint0 l (by omega) hsl
    have c8 := gread0 l (by omega) hsl
    have c9 := sameR_ok l (by omega)
    have hyo := cpK_ok cs hsl hso hol
    have hyl : (cpK l own cs own.length).length = l.length := by rw [cpK_len]; exact hol
    have hme := many_eqs (l := l) (own := own) cs hol own.length (Nat.le_refl _)
    have hml := many_le cs own.length
    generalize hyd : cpK l own cs own.length = y at hyo hyl hme
    have hlk : ∀ i, i < l.length → 40000 ≤ (nth l i).mer ∧ (nth l i).mer ≤ 90000 := fun i hi => (hsl i hi).q
    have hy : ∀ i, i < l.length → 40000 ≤ (nth y i).mer ∧ (nth y i).mer ≤ 90000 := fun i hi => (hyo i (by omega)).q
    have d7 := gprint0 y (by omega) hyo
    have d8 := gread0 y (by omega) hyo
    have hlog := figs_ok odds hod hyl (by omega)
    have hfl : (figs y).length = l.length := by simp [hyl]
    have hb := eqs_bd (figs y) (figs l) (figs y).length
    rw [hol] at hme hml
    rw [hfl] at hb
    obtain ⟨m, hm⟩ : ∃ m : Nat, eqs (figs y) (figs l) (figs y).length = m := ⟨(eqs (figs y) (figs l) l.length).toNat, by rw [hfl]; omega⟩
    have hq0 := mostK_bd (figs y) (figs y).length 10
    obtain ⟨q, hq⟩ : ∃ q : Nat, mostK (figs y) (figs y).length 10 = q := ⟨(mostK (figs y) (figs y).length 10).toNat, by omega⟩
    have c10 := wagree_ok odds (figs y) (figs l) hlog
    have c11 := wjudge_ok odds (figs y) (figs l) hlog m q hm hq
    have c12 := need_ok l.length h18 odds hod
    have hj := judge_need (n := l.length) (m := m) (q := q) (o := odds) h18 (by rw [← hfl, hm] at hb; rw [hfl] at hb; omega)
    rw [hm, hq, hfl] at c10
    rw [hfl] at c11 hm
    rw [hm] at hme hb
    generalize vdN l.length odds m q = V at *
    generalize needN l.length odds = N at *
    generalize needF l.length odds = NF at *
    have hj1 : V = 3 → (N : Int) ≤ m := fun h => by have := hj.1 h; omega
    have hj2 : (N : Int) ≤ m → V = 3 := fun h => hj.2 (by omega)
    clear hj
    have hVN : (decide (V = 3) == decide ((N : Int) ≤ m)) = true := by rw [beq_iff_eq]; exact decide_eq_decide.2 ⟨hj1, hj2⟩
    refine calls_abs Tryz.func3 Tryz.ntmps3 Tryz.results3 Tryz.call3 rfl (by simp) fun w0 S0 M0 => ?_
    repeat' (first | (show Abs _ (.region 7 _ _) _ _; refine abs_regionX 1 (atDup _ 22 (.tmp 86) (some 87)) (fun _ _ h => StepX.dup h) rfl rfl (fun K1 hK1 => ?_); (refine sim ?_; try exact trivial)) | (refine hK1 _ ⟨(by show (87:Nat) < 245; decide), ?_⟩; clear hK1 K1; (refine sim ?_; try exact trivial)) | refine st1 ?_ | ((first | refine abs_region fun K hK => ?_ | refine abs_draw Tryz.ty.mixed (by kernel_rfl) fun K hK => ?_ | refine abs_if ?_ | show retQ _ _ _ _ _ | refine callK (c4) ?_ | refine callK (c4b) ?_ | refine callK (c5) ?_ | refine callK (c6) ?_ | refine callK (c7) ?_ | refine callK (c8) ?_ | refine callK (c9) ?_); (refine sim ?_; try exact trivial)) | ((first | (refine hK _ ?_; clear hK K) | show thenQ _ _ _ _ | show blockQ _ _ _ _ | show noGoQ _ _ _); refine qst ?_) | (intro hg; try exact fin2) | apply And.intro | exact fin | fail)
    · obtain ⟨r, _, rfl⟩ := List.mem_map.1 ‹_ ∈ List.map rdD own›; rfl
    · have hon : own = [] := by simpa using ‹List.map rdD own = []›
      have hl0 : l.length = 0 := by rw [← hol, hon]; rfl
      have hnil : y = [] := List.eq_nil_of_length_eq_zero (by omega)
      have hmn : ((many cs l.length : Nat) : Int) = 0 := by rw [hl0]; rfl
      refine abs_loopN (ι := Nat) (fun j => [(3, i64 odds), (11, .list (l.map rdD)), (13, .val (.slice none 0 0)), (14, i64 0), (15, i64 0)]) (fun _ => []) (fun _ => []) (fun j => j = 0) (fun j => j) (fun _ _ => ⟨rfl, rfl⟩) 0 rfl (le_of rfl (by try (refine sim ?_; try exact trivial); try simp) ⟨_, rfl⟩ ⟨_, rfl⟩) (fun j hj => ?_)
      (refine sim ?_; try exact trivial)
      repeat' (first | (show Abs _ (.seq (.region 15 _ _) _) _ _; refine abs_to (RTo.nilList 13 (by simp [put])) ?_; refine abs_le (mkSt 245 [(3, i64 odds), (11, .list (l.map rdD)), (13, .list (y.map rdD)), (14, i64 0)] [] []) (by exact le_of rfl (by simp [put, hnil]) ⟨_, rfl⟩ ⟨_, rfl⟩) (named_of rfl rfl) (Nat.zero_le _) ?_; simp only [mkSt, List.foldr]; refine abs_seq ?_) | refine st1 ?_ | ((first | refine abs_region fun K hK => ?_ | refine abs_draw Tryz.ty.mixed (by kernel_rfl) fun K hK => ?_ | refine abs_if ?_ | show retQ _ _ _ _ _ | refine callK (d7) ?_ | refine callK (d8) ?_); (refine sim ?_; try exact trivial)) | ((first | (refine hK _ ?_; clear hK K) | show thenQ _ _ _ _ | show blockQ _ _ _ _ | show noGoQ _ _ _); refine qst ?_) | ((show (Value.slice none 0 0).oneCell' = true; rfl)) | (intro hg; try exact fin2) | apply And.intro | exact fin | fail)
      refine abs_adoptB 0 2 3 1 _ rfl rfl ?_
      refine abs_adoptB 0 3 3 1 _ rfl rfl ?_
      refine abs_loopN (ι := Nat) (fun j => [(3, i64 odds), (11, .list (l.map rdD)), (14, i64 0), (18, .list (y.map rdD)), (20, .box 0 0), (21, i64 (j : Nat))]) (fun _ => [.mu [i64 10, i64 odds, .own 0, .own 1]]) (fun j => [⟨true, 3, 1, (figs (y.take j)).map (D.int .i64)⟩, ⟨true, 3, 1, (figs (l.take j)).map (D.int .i64)⟩]) (fun j => j ≤ l.length) (fun j => l.length - j) (fun _ _ => ⟨rfl, rfl⟩) 0 (Nat.zero_le _) (le_of rfl (by try (refine sim ?_; try exact trivial); try simp) ⟨_, rfl⟩ ⟨_, rfl⟩) (fun j hj => ?_)
      by_cases hlt : j < l.length
      · have q1 := hy j (by omega)
        have q2 := hlk j hlt
        have r1 : (nth y j).mer.tmod 10 = (nth y j).mer % 10 := Int.tmod_eq_emod_of_nonneg (by omega)
        have r2 : (nth l j).mer.tmod 10 = (nth l j).mer % 10 := Int.tmod_eq_emod_of_nonneg (by omega)
        have t1 : y.take (j + 1) = y.take j ++ [nth y j] := by rw [List.take_succ_eq_append_getElem (by omega), nth_eq y j (by omega)]
        have t2 : l.take (j + 1) = l.take j ++ [nth l j] := by rw [List.take_succ_eq_append_getElem hlt, nth_eq l j hlt]
        (refine withX (And.intro @r1 (@r2)) fun hX => ?_; refine simh ?_; clear hX; try exact trivial)
        repeat' (first | (show Abs _ (.region 25 _ true) _ _; refine HideA ?_) | refine st1 ?_ | ((first | refine abs_region fun K hK => ?_ | refine abs_draw Tryz.ty.mixed (by kernel_rfl) fun K hK => ?_ | refine abs_if ?_ | show retQ _ _ _ _ _); (refine withX (And.intro @r1 (@r2)) fun hX => ?_; refine simh ?_; clear hX; try exact trivial)) | ((first | (refine hK _ ?_; clear hK K) | show thenQ _ _ _ _ | show blockQ _ _ _ _ | show noGoQ _ _ _); refine qst ?_) | (intro hg; try exact fin2) | apply And.intro | exact fin | fail)
        all_goals refine ⟨?_⟩
        all_goals refine regG (by rfl) _ _ _ y l _ _ odds ((many cs l.length : Nat) : Int) j (by omega) hlt (by omega) h18 (by omega) (by omega) ?_ ?_ (le_of rfl (by simp [put]) ⟨_, rfl⟩ ⟨_, rfl⟩) ?_
        all_goals try (simp; omega; done)
        all_goals simp only [mkSq, List.foldr]
        repeat' (first | refine st1 ?_ | ((first | refine abs_region fun K hK => ?_ | refine abs_draw Tryz.ty.mixed (by kernel_rfl) fun K hK => ?_ | refine abs_if ?_ | show retQ _ _ _ _ _); (refine withX (And.intro @r1 (@r2)) fun hX => ?_; refine simh ?_; clear hX; try exact trivial)) | ((first | (refine hK _ ?_; clear hK K) | show thenQ _ _ _ _ | show blockQ _ _ _ _ | show noGoQ _ _ _); refine qst ?_) | (intro hg; try exact fin2) | apply And.intro | exact fin | fail)
        all_goals exact ⟨j + 1, by omega, by omega, le_of rfl (by try (refine sim ?_; try exact trivial); try simp) ⟨_, rfl⟩ ⟨[], by rw [t1, t2]; simp⟩⟩
      · obtain rfl : j = l.length := by omega
        have t1 : y.take l.length = y := List.take_of_length_le (by omega)
        simp -implicitDefEqProofs only [go_sem, bas, basL, Nat.reduceAdd, Nat.reduceSub, Nat.reduceMul, Nat.reduceLT, Nat.reduceLeDiff, Nat.reduceEqDiff, Nat.reduceBEq, Int.reduceLT, Int.reduceLE, Int.reduceToNat, Int.reduceAdd, Int.reduceSub, Int.reduceMul, Int.reduceNeg, Int.reduceEq, reduceCtorEq, eq_self, ne_eq, not_false_eq_true, if_true, reduceIte, t1, List.take_length, Tryz.underlying4]
        repeat' (first | refine st1 ?_ | ((first | refine abs_region fun K hK => ?_ | refine abs_draw Tryz.ty.mixed (by kernel_rfl) fun K hK => ?_ | refine abs_if ?_ | show retQ _ _ _ _ _ | refine callK (c10) ?_ | refine callK (c11) ?_ | refine callK (c12) ?_ | refine callK (c6) ?_); simp -implicitDefEqProofs only [go_sem, bas, basL, Nat.reduceAdd, Nat.reduceSub, Nat.reduceMul, Nat.reduceLT, Nat.reduceLeDiff, Nat.reduceEqDiff, Nat.reduceBEq, Int.reduceLT, Int.reduceLE, Int.reduceToNat, Int.reduceAdd, Int.reduceSub, Int.reduceMul, Int.reduceNeg, Int.reduceEq, reduceCtorEq, eq_self, ne_eq, not_false_eq_true, if_true, reduceIte, t1, List.take_length, Tryz.underlying4]) | ((first | (refine hK _ ?_; clear hK K) | show thenQ _ _ _ _ | show blockQ _ _ _ _ | show noGoQ _ _ _); refine qst ?_) | (intro hg; try exact fin2) | apply And.intro | exact fin | fail)
        all_goals exact absurd (hVN.symm.trans ‹(decide (V = 3) == decide ((N : Int) ≤ m)) = false›) (by decide)
    · rename_i hne mU cap
      have hcap := hg
      clear hg
      have h0 : 0 < l.length := by
        rcases Nat.eq_zero_or_pos l.length with h | h
        · exact absurd (by rw [List.eq_nil_of_length_eq_zero (by omega : own.length = 0)]; rfl) hne
        · exact h
      have hnil : True := trivial
      have hcap' : y.length ≤ cap := by omega
      refine abs_loopN (ι := Nat) (fun j => [(2, .list (cs.map D.bool)), (3, i64 odds), (11, .list (l.map rdD)), (13, .bsl 0 0 own.length cap), (14, i64 (many cs j : Nat)), (15, i64 (j : Nat))]) (fun j => [.mu (flat ((cpK l own cs j).map rdD) ++ List.replicate mU .undef)]) (fun _ => []) (fun j => j ≤ l.length) (fun j => l.length - j) (fun _ _ => ⟨rfl, names_rd _ _⟩) 0 (Nat.zero_le _) (le_of rfl (by try (refine sim ?_; try exact trivial); try simp [many, cpK]) ⟨_, rfl⟩ ⟨_, rfl⟩) (fun j hj => ?_)
      have hjm := many_le cs j
      by_cases hlt : j < l.length
      · by_cases hcj : nth cs j = true
        · have e1 : many cs (j + 1) = many cs j + 1 := by simp [many, hcj]
          have e2 : cpK l own cs (j + 1) = (cpK l own cs j).set j { nth (cpK l own cs j) j with mer := (nth l j).mer } := by simp [cpK, hcj]
          have e3 := flat_upd (y := cpK l own cs j) (k := j) (by rw [cpK_len]; omega) (nth l j).mer (List.replicate mU .undef)
          have e4 := flat_rd (cpK l own cs j)
          rw [cpK_len] at e4
          rw [← e2] at e3
          have hCl : (flat ((cpK l own cs j).map rdD) ++ List.replicate mU D.undef).length = 10 * own.length + mU := by rw [List.length_append, e4, List.length_replicate]
          generalize flat ((cpK l own cs j).map rdD) ++ List.replicate mU .undef = C at *
          (refine withX (@hcj) fun hX => ?_; refine simh ?_; clear hX; try exact trivial)
          repeat' (first | refine st1 ?_ | ((first | refine abs_region fun K hK => ?_ | refine abs_draw Tryz.ty.mixed (by kernel_rfl) fun K hK => ?_ | refine abs_if ?_ | show retQ _ _ _ _ _); (refine withX (@hcj) fun hX => ?_; refine simh ?_; clear hX; try exact trivial)) | ((first | (refine hK _ ?_; clear hK K) | show thenQ _ _ _ _ | show blockQ _ _ _ _ | show noGoQ _ _ _); refine qst ?_) | (intro hg; try exact fin2) | apply And.intro | exact fin | fail)
          all_goals first | omega | exact ⟨j + 1, by omega, by omega, le_of rfl (by try (refine sim ?_; try exact trivial); try simp [e1]) ⟨[], by rw [← e3]; simp⟩ ⟨_, rfl⟩⟩
        · have hcf : nth cs j = false := by simpa using hcj
          have e1 : many cs (j + 1) = many cs j := by simp [many, hcj]
          have e2 : cpK l own cs (j + 1) = cpK l own cs j := by simp [cpK, hcj]
          (refine withX (@hcf) fun hX => ?_; refine simh ?_; clear hX; try exact trivial)
          repeat' (first | refine st1 ?_ | ((first | refine abs_region fun K hK => ?_ | refine abs_draw Tryz.ty.mixed (by kernel_rfl) fun K hK => ?_ | refine abs_if ?_ | show retQ _ _ _ _ _); (refine withX (@hcf) fun hX => ?_; refine simh ?_; clear hX; try exact trivial)) | ((first | (refine hK _ ?_; clear hK K) | show thenQ _ _ _ _ | show blockQ _ _ _ _ | show noGoQ _ _ _); refine qst ?_) | (intro hg; try exact fin2) | apply And.intro | exact fin | fail)
          all_goals exact ⟨j + 1, by omega, by omega, le_of rfl (by try (refine sim ?_; try exact trivial); try simp [e1]) ⟨[], by rw [e2]; simp⟩ ⟨_, rfl⟩⟩
      · obtain rfl : j = l.length := by omega
        have hcy : cpK l own cs l.length = y := by rw [← hol]; exact hyd
        rw [hcy]
        (refine sim ?_; try exact trivial)
        repeat' (first | (show Abs _ (.seq (.region 15 _ _) _) _ _; refine HideA ?_) | refine st1 ?_ | ((first | refine abs_region fun K hK => ?_ | refine abs_draw Tryz.ty.mixed (by kernel_rfl) fun K hK => ?_ | refine abs_if ?_ | show retQ _ _ _ _ _); (refine sim ?_; try exact trivial)) | ((first | (refine hK _ ?_; clear hK K) | show thenQ _ _ _ _ | show blockQ _ _ _ _ | show noGoQ _ _ _); refine qst ?_) | (intro hg; try exact fin2) | apply And.intro | exact fin | fail)
        refine ⟨?_⟩
        refine abs_to (RTo.freeze 0 rfl (pure_rd _ _)) ?_
        refine abs_to (RTo.bslList 13 0 (ys := y.map rdD) (U := List.replicate mU D.undef) (cap := cap) (sz := 10) (by simp [put, hyl, hol]) rfl (fun x hx => by obtain ⟨r, _, rfl⟩ := List.mem_map.1 hx; rfl) (by simpa using hcap')) ?_
        refine abs_le (mkSt 245 [(3, i64 odds), (11, .list (l.map rdD)), (13, .list (y.map rdD)), (14, i64 ((many cs l.length : Nat) : Int))] [] []) (le_of rfl (by simp [put]) ⟨[_], rfl⟩ ⟨_, rfl⟩) (named_of rfl rfl) (Nat.zero_le _) ?_
        simp only [mkSt, List.foldr]
        repeat' (first | refine st1 ?_ | ((first | refine abs_region fun K hK => ?_ | refine abs_draw Tryz.ty.mixed (by kernel_rfl) fun K hK => ?_ | refine abs_if ?_ | show retQ _ _ _ _ _ | refine callK (d7) ?_ | refine callK (d8) ?_); (refine sim ?_; try exact trivial)) | ((first | (refine hK _ ?_; clear hK K) | show thenQ _ _ _ _ | show blockQ _ _ _ _ | show noGoQ _ _ _); refine qst ?_) | ((show (Value.slice none 0 0).oneCell' = true; rfl)) | (intro hg; try exact fin2) | apply And.intro | exact fin | fail)
        refine abs_adoptB 0 2 3 1 _ rfl rfl ?_
        refine abs_adoptB 0 3 3 1 _ rfl rfl ?_
        refine abs_loopN (ι := Nat) (fun j => [(3, i64 odds), (11, .list (l.map rdD)), (14, i64 ((many cs l.length : Nat) : Int)), (18, .list (y.map rdD)), (20, .box 0 0), (21, i64 (j : Nat))]) (fun _ => [.mu [i64 10, i64 odds, .own 0, .own 1]]) (fun j => [⟨true, 3, 1, (figs (y.take j)).map (D.int .i64)⟩, ⟨true, 3, 1, (figs (l.take j)).map (D.int .i64)⟩]) (fun j => j ≤ l.length) (fun j => l.length - j) (fun _ _ => ⟨rfl, rfl⟩) 0 (Nat.zero_le _) (le_of rfl (by try (refine sim ?_; try exact trivial); try simp) ⟨_, rfl⟩ ⟨_, rfl⟩) (fun j hj => ?_)
        by_cases hlt : j < l.length
        · have q1 := hy j (by omega)
          have q2 := hlk j hlt
          have r1 : (nth y j).mer.tmod 10 = (nth y j).mer % 10 := Int.tmod_eq_emod_of_nonneg (by omega)
          have r2 : (nth l j).mer.tmod 10 = (nth l j).mer % 10 := Int.tmod_eq_emod_of_nonneg (by omega)
          have t1 : y.take (j + 1) = y.take j ++ [nth y j] := by rw [List.take_succ_eq_append_getElem (by omega), nth_eq y j (by omega)]
          have t2 : l.take (j + 1) = l.take j ++ [nth l j] := by rw [List.take_succ_eq_append_getElem hlt, nth_eq l j hlt]
          (refine withX (And.intro @r1 (@r2)) fun hX => ?_; refine simh ?_; clear hX; try exact trivial)
          repeat' (first | (show Abs _ (.region 25 _ true) _ _; refine HideA ?_) | refine st1 ?_ | ((first | refine abs_region fun K hK => ?_ | refine abs_draw Tryz.ty.mixed (by kernel_rfl) fun K hK => ?_ | refine abs_if ?_ | show retQ _ _ _ _ _); (refine withX (And.intro @r1 (@r2)) fun hX => ?_; refine simh ?_; clear hX; try exact trivial)) | ((first | (refine hK _ ?_; clear hK K) | show thenQ _ _ _ _ | show blockQ _ _ _ _ | show noGoQ _ _ _); refine qst ?_) | (intro hg; try exact fin2) | apply And.intro | exact fin | fail)
          all_goals refine ⟨?_⟩
          all_goals refine regG (by rfl) _ _ _ y l _ _ odds ((many cs l.length : Nat) : Int) j (by omega) hlt (by omega) h18 (by omega) (by omega) ?_ ?_ (le_of rfl (by simp [put]) ⟨_, rfl⟩ ⟨_, rfl⟩) ?_
          all_goals try (simp; omega; done)
          all_goals simp only [mkSq, List.foldr]
          repeat' (first | refine st1 ?_ | ((first | refine abs_region fun K hK => ?_ | refine abs_draw Tryz.ty.mixed (by kernel_rfl) fun K hK => ?_ | refine abs_if ?_ | show retQ _ _ _ _ _); (refine withX (And.intro @r1 (@r2)) fun hX => ?_; refine simh ?_; clear hX; try exact trivial)) | ((first | (refine hK _ ?_; clear hK K) | show thenQ _ _ _ _ | show blockQ _ _ _ _ | show noGoQ _ _ _); refine qst ?_) | (intro hg; try exact fin2) | apply And.intro | exact fin | fail)
          all_goals exact ⟨j + 1, by omega, by omega, le_of rfl (by try (refine sim ?_; try exact trivial); try simp) ⟨_, rfl⟩ ⟨[], by rw [t1, t2]; simp⟩⟩
        · obtain rfl : j = l.length := by omega
          have t1 : y.take l.length = y := List.take_of_length_le (by omega)
          simp -implicitDefEqProofs only [go_sem, bas, basL, Nat.reduceAdd, Nat.reduceSub, Nat.reduceMul, Nat.reduceLT, Nat.reduceLeDiff, Nat.reduceEqDiff, Nat.reduceBEq, Int.reduceLT, Int.reduceLE, Int.reduceToNat, Int.reduceAdd, Int.reduceSub, Int.reduceMul, Int.reduceNeg, Int.reduceEq, reduceCtorEq, eq_self, ne_eq, not_false_eq_true, if_true, reduceIte, t1, List.take_length, Tryz.underlying4]
          repeat' (first | refine st1 ?_ | ((first | refine abs_region fun K hK => ?_ | refine abs_draw Tryz.ty.mixed (by kernel_rfl) fun K hK => ?_ | refine abs_if ?_ | show retQ _ _ _ _ _ | refine callK (c10) ?_ | refine callK (c11) ?_ | refine callK (c12) ?_ | refine callK (c6) ?_); simp -implicitDefEqProofs only [go_sem, bas, basL, Nat.reduceAdd, Nat.reduceSub, Nat.reduceMul, Nat.reduceLT, Nat.reduceLeDiff, Nat.reduceEqDiff, Nat.reduceBEq, Int.reduceLT, Int.reduceLE, Int.reduceToNat, Int.reduceAdd, Int.reduceSub, Int.reduceMul, Int.reduceNeg, Int.reduceEq, reduceCtorEq, eq_self, ne_eq, not_false_eq_true, if_true, reduceIte, t1, List.take_length, Tryz.underlying4]) | ((first | (refine hK _ ?_; clear hK K) | show thenQ _ _ _ _ | show blockQ _ _ _ _ | show noGoQ _ _ _); refine qst ?_) | (intro hg; try exact fin2) | apply And.intro | exact fin | fail)
          all_goals exact absurd (hVN.symm.trans ‹(decide (V = 3) == decide ((N : Int) ≤ m)) = false›) (by decide)
  · refine calls_abs Tryz.func3 Tryz.ntmps3 Tryz.results3 Tryz.call3 rfl (by simp) fun w0 S0 M0 => ?_
    repeat' (first | refine st1 ?_ | ((first | refine abs_region fun K hK => ?_ | refine abs_draw Tryz.ty.mixed (by kernel_rfl) fun K hK => ?_ | refine abs_if ?_ | show retQ _ _ _ _ _ | refine callK (c4) ?_ | refine callK (c4b) ?_ | refine callK (c5) ?_ | refine callK (c6) ?_); (refine sim ?_; try exact trivial)) | ((first | (refine hK _ ?_; clear hK K) | show thenQ _ _ _ _ | show blockQ _ _ _ _ | show noGoQ _ _ _); refine qst ?_) | (intro hg; try exact fin2) | apply And.intro | exact fin | fail)
    exact absurd ⟨by omega, by omega, by omega, ‹ShOk l›, ‹ShOk own›, ‹1 ≤ odds ∧ odds ≤ 1000000›⟩ hall
end Go.Proofs.YtmnepfejoneghaaGreatDoor
namespace Go.Ab
open Go.RowKit Go.ChangeShapes Go.WideShapes Go.Deep
/-- Every cell that there is counts. -/
def gAll (W : World) : Gh := ⟨fun x => (W.cell? x).isSome = true, [], [], fun _ => none⟩
theorem good_all (W : World) : Go.Ab.Good W (gAll W).S := fun x hx => Option.isSome_iff_exists.1 hx
theorem trodAll_carry {H : Type} {enc : TypeId × Value → H} {P : Program} {W W' : World} {base : Nat} {sp : Nat → Bool} {hd : Bool} : ∀ {ts : List TypeId} {vs : List Value} {ds : List (DataW H)} {ps : List MemPlace},
    DataW.TrodAll enc P W base sp hd ts vs ds ps → (∀ p ∈ ps, W.sameAt W' p) → DataW.TrodAll enc P W' base sp hd ts vs ds ps
  | [], [], [], _, h, _ => h
  | _ :: _, _ :: _, _ :: _, _, ⟨p, q, ⟨n, hn⟩, h2, e⟩, hs =>
    ⟨p, q, ⟨n, DataW.trod_carry n _ _ _ hn (fun x hx => hs x (by rw [e]; exact List.mem_append_left _ hx))⟩, trodAll_carry h2 (fun x hx => hs x (by rw [e]; exact List.mem_append_right _ hx)), e⟩
/-- A law's row, out of its contract. -/
theorem calls_law {H : Type} {enc : TypeId × Value → H} {P : Program} {fid : FuncId} {fn : Func} {s : ChangeSpec} {W : World} {args : Array Value} {ds gs : List (DataW H)} {before : List MemPlace} {Ds : List D} {tb : TypeId}
    (hv : s.vars = []) (hres : fn.resultTypes = #[tb]) (htb : P.underlying tb = some .bool) (hfn : (s.fn H ds).results = [.lit (.bool true)] ∧ (s.fn H ds).args = ds ∧ (s.fn H ds).vars = [])
    (hlo : laidOutB P = true) (hmr : mapsRowed P = true) (hfull : ∀ t e, t < P.types.size → P.underlying t = some (.slice e) → 0 < P.cellsOf e) (hts : ∀ t ∈ fn.params.toList, t < P.types.size)
    (hT : Tab W) (hW : DataW.Whole enc P fn.params.toList s.vars false W args.toList ds gs before) (hC : CallsTo P fid Ds (.bool true)) (hn : args.toList.length = Ds.length)
    (hR : ∀ q x, Ds[q]? = some x → Rel W (gAll W) (args.toList.getD q Go.undef) x) :
    Calls P fid args W fun e W' => ∃ v, e = .returned v ∧ s.post enc P fn false true false false W args v W' := by
  have hW' := hW
  obtain ⟨p, q, hA, hV, rfl, hfz, hnd⟩ := hW
  rw [hv] at hV
  obtain ⟨rfl, rfl⟩ := trodVars_none hV
  have hcl := hC.2 (gAll W).S (fun _ => none) W args.toList hT (good_all W) (fun b f h => by cases h) hn hR
  rw [Array.toArray_toList] at hcl
  refine hcl.mono ?_
  rintro e W' ⟨v, S', M', rfl, hg, hgood, hrel⟩
  obtain rfl := hrel.asBool
  have hblk : ∀ k, k < W.heap.size → W'.heap[k]? = W.heap[k]? := fun k hk => hg.below.at k hk rfl
  have hlt : ∀ x ∈ p ++ [], x.block < W.heap.size := fun x hx => hW'.lt x hx
  have hsame : ∀ x ∈ p, W.sameAt W' x := fun x hx => by
    have h1 := hlt x (by simpa using hx)
    cases x with
    | cell b off => exact World.cell?_of_block (hblk b h1)
    | map b => exact hblk b h1
  have hargs : ∀ sp : Nat → Bool, (∀ x ∈ p, sp x.block = true) → DataW.TrodAll enc P W' 0 sp true fn.params.toList args.toList (s.fn H (ds ++ [])).args p := fun sp hs => by
    rw [List.append_nil, hfn.2.1]
    exact trodAll_carry (DataW.TrodAll.respare (T := fun t => t < P.types.size) (kids_rows hlo hmr) hfull hts hA hs) hsame
  have hrs : ∀ (b : Nat) (sp : Nat → Bool) (hd : Bool), DataW.TrodAll enc P W' b sp hd fn.resultTypes.toList ((Value.bool true).resultList fn.resultTypes.size) (s.fn H (ds ++ [])).results [] := fun b sp hd => by
    rw [List.append_nil, hfn.1, hres]
    exact trodAll_mk1 (shut_bool htb true)
  have hvs : ∀ sp : Nat → Bool, DataW.TrodVars enc P W' sp s.vars (s.fn H (ds ++ [])).vars [] := fun sp => by
    rw [List.append_nil, hfn.2.2, hv]; rfl
  have hok : ∀ (j : Nat) (t : TypeId) (r : Value), fn.resultTypes[j]? = some t → ((Value.bool true).resultList fn.resultTypes.size)[j]? = some r → Value.okWide P W' .any 0 t r := ok_one hres rfl (okWide_bool_mk htb true)
  have hkept : W.keptBut W' (fun _ => False) := by
    refine ⟨hg.below.os, hg.below.output, fun i hi => ?_⟩
    rw [hblk i hi]
    split
    · rename_i h1 h2
      rw [h1] at h2
      simp only [Option.some.injEq, Obj.cells.injEq] at h2
      obtain ⟨rfl, rfl, rfl⟩ := h2
      exact ⟨rfl, rfl, rfl, fun _ _ => rfl⟩
    · rename_i h1 h2
      rw [h1] at h2
      simp only [Option.some.injEq, Obj.map.injEq] at h2
      exact Or.inr ⟨h2.1.symm, h2.2.symm⟩
    · rfl
  have hold : ∀ x ∈ p, (fun b => decide (b < W.heap.size)) x.block = true := fun x hx => by simpa using hlt x (by simpa using hx)
  refine ⟨_, rfl, ds, [], p ++ [], [], p, [], hW', hrs _ _ _, hargs _ hold, hvs _, World.keptBut_mono (fun _ h => h.elim) hkept, fun _ => ?_⟩
  refine ⟨hok, _, _, ([] ++ p) ++ [], ⟨[] ++ p, [], trodAll_append (hargs _ (fun _ _ => rfl)) (hrs _ _ _), hvs _, rfl, ?_, ?_⟩, ?_⟩
  · intro b off hp
    have hp' : MemPlace.cell b off ∈ p ++ [] := by simpa using hp
    have h1 := hfz b off hp'
    have h2 : b < W.heap.size := hlt _ hp'
    unfold World.frozen? at h1 ⊢
    simp only at h1 ⊢
    rw [hblk b h2]
    exact h1
  · intro ha
    simpa using hnd ha
  · intro x hx _
    simpa using hx
section
variable {H : Type} {enc : TypeId × Value → H} {P : Program} {W : World}
/-- Every value of this type is so many cells, which read as something that Q holds of. -/
def ReadsN (enc : TypeId × Value → H) (P : Program) (W : World) (t : TypeId) (n : Nat) (Q : List D → Prop) : Prop :=
  ∀ (fuel : Nat) (cs : List Value) (x : DataW H × List MemPlace), DataW.trod enc P W 0 (fun _ => true) true fuel t cs = some x →
    cs.length = n ∧ ∃ ds : List D, ds.length = n ∧ Q ds ∧ ∀ (q : Nat) (d : D), ds[q]? = some d → d.cells = [d] ∧ (cs.getD q Go.undef).oneCell' = true ∧ Rel W (gAll W) (cs.getD q Go.undef) d
theorem readsN_int {t : TypeId} (ht : P.underlying t = some (.int .i64)) : ReadsN enc P W t 1 (fun ds => ∃ n : Int, ds = [.int .i64 n]) := by
  intro fuel cs x h
  obtain ⟨n, rfl, _, _⟩ := DataW.trod_int ht h
  refine ⟨rfl, [.int .i64 n], rfl, ⟨n, rfl⟩, fun q d hd => ?_⟩
  match q, hd with
  | 0, hd => cases hd; exact ⟨rfl, rfl, .int _ _ _⟩
  | q + 1, hd => simp at hd
theorem readsN_bool {t : TypeId} (ht : P.underlying t = some .bool) : ReadsN enc P W t 1 (fun ds => ∃ b : Bool, ds = [.bool b]) := by
  intro fuel cs x h
  cases fuel with
  | zero => simp [DataW.trod] at h
  | succ n =>
    unfold DataW.trod at h
    rw [ht] at h
    split at h <;> simp_all
    rename_i b
    refine ⟨[.bool b], rfl, by cases b <;> simp, fun q d hd => ?_⟩
    match q, hd with
    | 0, hd => cases hd; exact ⟨rfl, rfl, .bool _ _⟩
    | q + 1, hd => simp at hd
/-- Fields, one behind the other. -/
inductive FR (enc : TypeId × Value → H) (P : Program) (W : World) : Nat → List Field → Nat → (List D → Prop) → Prop
  | nil (k : Nat) : FR enc P W k [] k (fun ds => ds = [])
  | cons (k n m : Nat) (f : Field) (fs : List Field) (Q R : List D → Prop) (ho : f.offset = k) (hc : P.cellsOf f.type = n) (h : ReadsN enc P W f.type n Q) (hr : FR enc P W (k + n) fs m R) :
      FR enc P W k (f :: fs) m (fun ds => ∃ a b, Q a ∧ R b ∧ ds = a ++ b)
theorem FR.le {k m : Nat} {fs : List Field} {Q : List D → Prop} (h : FR enc P W k fs m Q) : k ≤ m := by
  induction h with
  | nil k => exact Nat.le_refl _
  | cons k n m f fs Q R ho hc h hr ih => omega
theorem FR.read {k m : Nat} {fs : List Field} {Q : List D → Prop} (h : FR enc P W k fs m Q) : ∀ (fuel : Nat) (cs : List Value), cs.length = m → (∀ f ∈ fs, ∃ x, DataW.trod enc P W 0 (fun _ => true) true fuel f.type ((cs.drop f.offset).take (P.cellsOf f.type)) = some x) →
    ∃ ds : List D, ds.length + k = m ∧ Q ds ∧ ∀ (q : Nat) (d : D), ds[q]? = some d → d.cells = [d] ∧ (cs.getD (k + q) Go.undef).oneCell' = true ∧ Rel W (gAll W) (cs.getD (k + q) Go.undef) d := by
  induction h with
  | nil k => intro fuel cs _ _; exact ⟨[], by simp, rfl, fun q d hd => by simp at hd⟩
  | cons k n m f fs Q R ho hc h hr ih =>
    intro fuel cs hl hf
    obtain ⟨x, hx⟩ := hf f (List.mem_cons_self ..)
    obtain ⟨l1, a, l2, hQ, hrel⟩ := h _ _ _ hx
    obtain ⟨b, l3, hR, hrel2⟩ := ih fuel cs hl (fun g hg => hf g (List.mem_cons_of_mem _ hg))
    rw [ho, hc] at hrel
    refine ⟨a ++ b, by simp; omega, ⟨a, b, hQ, hR, rfl⟩, fun q d hd => ?_⟩
    rcases Nat.lt_or_ge q a.length with hq | hq
    · rw [List.getElem?_append_left hq] at hd
      have := hrel q d hd
      have e : ((cs.drop k).take n).getD q Go.undef = cs.getD (k + q) Go.undef := by
        simp only [List.getD_eq_getElem?_getD, List.getElem?_take, List.getElem?_drop]
        rw [if_pos (by omega)]
      rw [e] at this; exact this
    · rw [List.getElem?_append_right hq] at hd
      have := hrel2 _ d hd
      rw [show k + n + (q - a.length) = k + q by omega] at this
      exact this
theorem readsN_struct {t : TypeId} {fs : Array Field} {m : Nat} {Q : List D → Prop} (ht : P.underlying t = some (.struct fs)) (hc : P.cellsOf t = m) (h : FR enc P W 0 fs.toList m Q) : ReadsN enc P W t m Q := by
  intro fuel cs x hx
  obtain ⟨xs, n, rfl, _, hl, hs, hf⟩ := DataW.trod_struct ht hx
  have hlm : cs.length = m := hl.trans hc
  obtain ⟨ds, h1, h2, h3⟩ := h.read n cs hlm (fun f hm => by
    obtain ⟨i, hi, rfl⟩ := List.getElem_of_mem hm
    have hi' : i < fs.size := by simpa using hi
    have := hf i fs[i] (by simp [hi'])
    rw [List.getElem?_eq_getElem (by omega)] at this
    exact ⟨_, by simpa using this⟩)
  exact ⟨hlm, ds, by omega, h2, fun q d hd => by have := h3 q d hd; rw [Nat.zero_add] at this; exact this⟩
theorem mapM_range {α : Type} {f : Nat → Option α} : ∀ {n : Nat} {l : List α}, (List.range n).mapM f = some l → l.length = n ∧ ∀ i, i < n → f i = l[i]? := by
  intro n l h
  refine ⟨by simpa using Lib.mapM_length h, fun i hi => ?_⟩
  obtain ⟨b, hb, hf⟩ := Lib.mapM_at h i i (by simp [hi])
  rw [hb, hf]
theorem flat_get {n : Nat} : ∀ {xs : List D}, (∀ x ∈ xs, x.cells.length = n) → 0 < n → ∀ {q : Nat} {d : D}, (flat xs)[q]? = some d → ∃ x, xs[q / n]? = some x ∧ x.cells[q % n]? = some d := by
  intro xs hx hn q d hd
  have hl := flat_length n xs hx
  have hq := (List.getElem?_eq_some_iff.1 hd).1
  rw [hl] at hq
  have hi : q / n < xs.length := Nat.div_lt_of_lt_mul (by rw [Nat.mul_comm]; exact hq)
  have := flat_at n xs (q / n) xs[q / n] hx (List.getElem?_eq_getElem hi) (q % n) (Nat.mod_lt _ hn)
  rw [show q / n * n + q % n = q by rw [Nat.mul_comm]; exact Nat.div_add_mod q n] at this
  exact ⟨_, List.getElem?_eq_getElem hi, by rw [← this]; exact hd⟩
theorem add_add_addr (a : Addr) (i j : Nat) : (a.add i).add j = a.add (i + j) := by
  by_cases hi : i = 0 <;> by_cases hj : j = 0 <;> simp [Addr.add, hi, hj, Nat.add_assoc]
theorem readsN_list {t e : TypeId} {n : Nat} {α : Type} [Inhabited α] {f : α → D} {Q : List D → Prop} (ht : P.underlying t = some (.slice e)) (hn : P.cellsOf e = n) (hn0 : 0 < n) (he : ReadsN enc P W e n Q) (hQ : ∀ ds, Q ds → ds.length = n → ∃ a, (f a).cells = ds) :
    ReadsN enc P W t 1 (fun ds => ∃ xs : List α, ds = [.list (xs.map f)] ∧ xs.length ≤ 9223372036854775807) := by
  intro fuel cs x h
  rcases open_slice ht h with ⟨rfl, hx⟩ | ⟨a, len, cap, m, k, DD, Pl, rfl, hb, hl, hm, hmm, hx, hcell⟩
  · refine ⟨rfl, [.list []], rfl, ⟨[], rfl, by simp⟩, fun q d hd => ?_⟩
    match q, hd with
    | 0, hd => cases hd; exact ⟨rfl, rfl, .nil _ _⟩
    | q + 1, hd => simp at hd
  · simp only [if_true] at hmm
    subst hmm
    have each : ∀ i, i < len → ∃ y : α, (f y).cells.length = n ∧ ∀ j d, (f y).cells[j]? = some d → ∃ v, W.cell? (a.add (i * n + j)) = some v ∧ d.cells = [d] ∧ v.oneCell' = true ∧ Rel W (gAll W) v d := fun i hi => by
      obtain ⟨cs', h1, h2⟩ := hcell i (by omega)
      rw [hn] at h1
      unfold World.cells? at h1
      rw [if_pos (Nat.zero_le _)] at h1
      obtain ⟨g1, g2⟩ := mapM_range h1
      obtain ⟨l1, ds, l2, hq, hrel⟩ := he _ _ _ h2
      obtain ⟨y, hy⟩ := hQ ds hq l2
      refine ⟨y, by rw [hy, l2], fun j d hd => ?_⟩
      rw [hy] at hd
      have hj : j < n := by have := (List.getElem?_eq_some_iff.1 hd).1; omega
      obtain ⟨r1, r2, r3⟩ := hrel j d hd
      have hc := g2 j hj
      rw [List.getElem?_eq_getElem (by omega), add_add_addr] at hc
      rw [List.getD_eq_getElem?_getD, List.getElem?_eq_getElem (by omega), Option.getD_some] at r2 r3
      exact ⟨_, hc, r1, r2, r3⟩
    obtain ⟨y, hy⟩ := choose_lt each
    have hxs : ∀ x ∈ (((List.range len).map y).map f), x.cells.length = n := fun x hx => by
      obtain ⟨z, hz, rfl⟩ := List.mem_map.1 hx
      obtain ⟨i, hi, rfl⟩ := List.mem_map.1 hz
      exact (hy i (List.mem_range.1 hi)).1
    have hlen : (((List.range len).map y).map f).length = len := by simp
    have hfl := flat_length n _ hxs
    rw [hlen] at hfl
    have key : ∀ (q : Nat) (d : D), (flat (((List.range len).map y).map f))[q]? = some d → ∃ v, W.cell? (a.add q) = some v ∧ d.cells = [d] ∧ v.oneCell' = true ∧ Rel W (gAll W) v d := fun q d hd => by
      obtain ⟨x, h1, h2⟩ := flat_get hxs hn0 hd
      have hi : q / n < len := by have := (List.getElem?_eq_some_iff.1 h1).1; omega
      simp only [List.getElem?_map, List.getElem?_range hi, Option.map_some, Option.some.injEq] at h1
      subst h1
      have := (hy (q / n) hi).2 (q % n) d h2
      rw [show q / n * n + q % n = q by rw [Nat.mul_comm]; exact Nat.div_add_mod q n] at this
      exact this
    refine ⟨rfl, [.list (((List.range len).map y).map f)], rfl, ⟨_, rfl, by simp only [maxLen] at hm; simp; omega⟩, fun q d hd => ?_⟩
    match q, hd with
    | q + 1, hd => simp at hd
    | 0, hd =>
    cases hd
    refine ⟨rfl, rfl, .list _ _ _ _ _ n (fun q => (W.cell? (a.add q)).getD Go.undef) hlen.symm hxs hl (fun q hq => ?_) (fun q d hd => ?_)⟩
    · obtain ⟨v, h1, _, h3, _⟩ := key q _ (List.getElem?_eq_getElem hq)
      exact ⟨a, rfl, by rw [h1]; rfl, by show (W.cell? _).isSome = true; rw [h1]; rfl, by rw [h1]; exact h3⟩
    · obtain ⟨v, h1, _, _, h4⟩ := key q d hd
      show Rel W _ ((W.cell? (a.add q)).getD Go.undef) d
      rw [h1]; exact h4
/-- An argument of one cell. -/
theorem relN_one {t : TypeId} {v : Value} {d : DataW H} {ps : List MemPlace} {Q : List D → Prop} (hr : ReadsN enc P W t 1 Q) (hv : v.cells.toList = [v]) (h : DataW.Trod enc P W 0 (fun _ => true) true t v d ps) : ∃ x, Q [x] ∧ Rel W (gAll W) v x := by
  obtain ⟨fuel, hf⟩ := h
  obtain ⟨l1, ds, l2, hq, hrel⟩ := hr _ _ _ hf
  match ds, l2 with
  | [x], _ =>
    have := (hrel 0 x rfl).2.2
    rw [hv] at this
    exact ⟨x, hq, this⟩
end
end Go.Ab
set_option maxRecDepth 100000
namespace Go.Proofs.YtmnepfejoneghaaGreatDoor
open Go.ChangeShapes Go.WideShapes Go.ChangeAt Go.RowKit Go.Ab
theorem own : ownKnob Tryz.prog.godebug = none := by kernel_rfl
theorem laid_ok : laidOutB Tryz.prog = true := by kernel_rfl
theorem maps_ok : mapsRowed Tryz.prog = true := by kernel_rfl
theorem full_ok : ∀ t e, t < Tryz.prog.types.size → Tryz.prog.underlying t = some (.slice e) → 0 < Tryz.prog.cellsOf e := slices_full_of Tryz.prog (by kernel_rfl)
abbrev laid5 : List (String × DataW Unit) := [("math/bits.deBruijn32tab", Rows.laid_math_bits_deBruijn32tab), ("math/bits.deBruijn64tab", Rows.laid_math_bits_deBruijn64tab), ("internal/strconv.uint64pow10", Rows.laid_internal_strconv_uint64pow10), ("unicode/utf8.acceptRanges", Rows.laid_unicode_utf8_acceptRanges), ("unicode/utf8.first", Rows.laid_unicode_utf8_first)]
section
variable {H : Type} {enc : TypeId × Value → H} {W : World}
theorem rd_span : ReadsN enc Tryz.prog W 35 2 (fun ds => ∃ a b : Int, ds = [i64 a, i64 b]) := by
  intro fuel cs x h
  have := readsN_struct (enc := enc) (W := W) (P := Tryz.prog) (t := 35) (m := 2) Tryz.underlying35 (by kernel_rfl) (.cons 0 1 2 _ _ _ _ rfl (by kernel_rfl) (readsN_int Tryz.underlying3) (.cons 1 1 2 _ _ _ _ rfl (by kernel_rfl) (readsN_int Tryz.underlying3) (.nil 2))) fuel cs x h
  obtain ⟨l1, ds, l2, ⟨a, b, ⟨n, rfl⟩, ⟨c, d, ⟨k, rfl⟩, rfl, rfl⟩, rfl⟩, h3⟩ := this
  exact ⟨l1, _, l2, ⟨n, k, rfl⟩, h3⟩
theorem rd_int : ReadsN enc Tryz.prog W 3 1 (fun ds => ∃ n : Int, ds = [i64 n]) := readsN_int Tryz.underlying3
theorem rd_rd : ReadsN enc Tryz.prog W 37 10 (fun ds => ∃ r : Rdg, ds = [i64 r.day, i64 r.min, i64 r.clk, i64 r.mer, i64 r.al, i64 r.ah, i64 r.dl, i64 r.dh, i64 r.wl, i64 r.wh]) := by
  intro fuel cs x h
  have rd_clk : ReadsN enc Tryz.prog W 33 1 (fun ds => ∃ n : Int, ds = [i64 n]) := readsN_int Tryz.underlying33
  have := readsN_struct (enc := enc) (W := W) (P := Tryz.prog) (t := 37) (m := 10) Tryz.underlying37 (by kernel_rfl) (.cons 0 1 10 _ _ _ _ rfl (by kernel_rfl) rd_int (.cons 1 1 10 _ _ _ _ rfl (by kernel_rfl) rd_int (.cons 2 1 10 _ _ _ _ rfl (by kernel_rfl) rd_clk
    (.cons 3 1 10 _ _ _ _ rfl (by kernel_rfl) rd_int (.cons 4 2 10 _ _ _ _ rfl (by kernel_rfl) rd_span (.cons 6 2 10 _ _ _ _ rfl (by kernel_rfl) rd_span (.cons 8 2 10 _ _ _ _ rfl (by kernel_rfl) rd_span (.nil 10)))))))) fuel cs x h
  obtain ⟨l1, ds, l2, ⟨_, _, ⟨a, rfl⟩, ⟨_, _, ⟨b, rfl⟩, ⟨_, _, ⟨c, rfl⟩, ⟨_, _, ⟨d, rfl⟩, ⟨_, _, ⟨e, f, rfl⟩, ⟨_, _, ⟨g, k, rfl⟩, ⟨_, _, ⟨l, m, rfl⟩, rfl, rfl⟩, rfl⟩, rfl⟩, rfl⟩, rfl⟩, rfl⟩, rfl⟩, h3⟩ := this
  exact ⟨l1, _, l2, ⟨⟨a, b, c, d, e, f, g, k, l, m⟩, rfl⟩, h3⟩
theorem rd_rds : ReadsN enc Tryz.prog W 22 1 (fun ds => ∃ l : List Rdg, ds = [.list (l.map rdD)] ∧ l.length ≤ 9223372036854775807) :=
  readsN_list Tryz.underlying22 (by kernel_rfl) (by decide) rd_rd (fun ds ⟨c, h⟩ _ => ⟨c, h.symm⟩)
theorem arg_rds {base : Nat} {v : Value} {d : DataW H} {ps : List MemPlace} (hval : Value.okWide Tryz.prog W .any base 22 v) (h : DataW.Trod enc Tryz.prog W 0 (fun _ => true) true 22 v d ps) : ∃ l : List Rdg, l.length ≤ 9223372036854775807 ∧ Rel W (gAll W) v (.list (l.map rdD)) := by
  obtain ⟨a0, l0, c0, rfl⟩ := okWide_slice Tryz.underlying22 hval
  obtain ⟨x, ⟨l, hx, hl⟩, hr⟩ := relN_one rd_rds rfl h
  cases hx
  exact ⟨l, hl, hr⟩
theorem rd_bools : ReadsN enc Tryz.prog W 23 1 (fun ds => ∃ l : List Bool, ds = [.list (l.map D.bool)] ∧ l.length ≤ 9223372036854775807) :=
  readsN_list Tryz.underlying23 (by kernel_rfl) (by decide) (readsN_bool Tryz.underlying4) (fun ds ⟨c, h⟩ _ => ⟨c, h.symm⟩)
theorem arg_bools {base : Nat} {v : Value} {d : DataW H} {ps : List MemPlace} (hval : Value.okWide Tryz.prog W .any base 23 v) (h : DataW.Trod enc Tryz.prog W 0 (fun _ => true) true 23 v d ps) : ∃ l : List Bool, l.length ≤ 9223372036854775807 ∧ Rel W (gAll W) v (.list (l.map D.bool)) := by
  obtain ⟨a0, l0, c0, rfl⟩ := okWide_slice Tryz.underlying23 hval
  obtain ⟨x, ⟨l, hx, hl⟩, hr⟩ := relN_one rd_bools rfl h
  cases hx
  exact ⟨l, hl, hr⟩
theorem arg_int {base : Nat} {v : Value} {d : DataW H} {ps : List MemPlace} (hval : Value.okWide Tryz.prog W .any base 3 v) (h : DataW.Trod enc Tryz.prog W 0 (fun _ => true) true 3 v d ps) : ∃ n : Int, Rel W (gAll W) v (i64 n) := by
  obtain ⟨n, rfl, _⟩ := open_int Tryz.underlying3 hval h
  exact ⟨n, .int _ _ _⟩
theorem all_met (os : Os) (args : Array Value) : laidMetH Tryz.prog laid5 ((World.laidAll Tryz.prog os laid5).forCall (fun _ _ => 0) ⟨#[], args, []⟩).memory := by
  rw [MakeChecks.laidMetH_plain _ _ _ (by kernel_rfl)]; exact laidMet_laidAll _ (by kernel_rfl) (by kernel_rfl)
theorem tab_of_laid {W : World} (h : laidMetH Tryz.prog laid5 W) : Tab W := by
  rw [MakeChecks.laidMetH_plain _ _ _ (by kernel_rfl)] at h
  obtain ⟨ps, ⟨g0, t0, cs0, f0, p0, q0, hg0, ht0, hv0, hd0, ⟨g1, t1, cs1, f1, p1, q1, hg1, ht1, hv1, hd1, ⟨g2, t2, cs2, f2, p2, q2, hg2, ht2, hv2, hd2, _, _⟩, _⟩, _⟩, _, _⟩ := h
  have gN : Tryz.prog.globalNamed "internal/strconv.uint64pow10" = some 1 := by kernel_rfl
  obtain rfl := Option.some.inj (gN.symm.trans hg2)
  have hT : ∃ t n e, (Tryz.prog.globals[1]?).map (·.type) = some t ∧ Tryz.prog.underlying t = some (.array n e) ∧ Tryz.prog.underlying e = some (.int .u64) ∧ Tryz.prog.cellsOf e = 1 ∧ Tryz.prog.cellsOf t = n := ⟨261, 20, 250, by kernel_rfl, by kernel_rfl, by kernel_rfl, by kernel_rfl, by kernel_rfl⟩
  obtain ⟨t, n, e, a1, a2, a3, a4, a5⟩ := hT
  obtain rfl := Option.some.inj (a1.symm.trans ht2)
  have hcs := Lib.cells_of_tab (zs := Lib.pow10Tab) a2 a3 a4 a5 hd2
  intro b vs hv
  unfold tabOf at hv
  split at hv
  · cases hv
    unfold World.var? at hv2
    rw [gN] at hv2
    simp only [Option.bind_some] at hv2
    split at hv2
    · rename_i cs tt fz hh
      cases hv2
      refine ⟨tt, fz, ?_⟩
      rw [hh, ← hcs]
    · cases hv2
  · cases hv
end
end Go.Proofs.YtmnepfejoneghaaGreatDoor
