import Derived.Test.YtmnepfejoneghaaGreatDoorK30
import Derived.Test.YtmnepfejoneghaaGreatDoorK11
import Derived.Test.YtmnepfejoneghaaGreatDoorK22
import Derived.Test.YtmnepfejoneghaaGreatDoorK28
import Derived.Test.YtmnepfejoneghaaGreatDoorK14
set_option linter.unusedVariables false
set_option linter.unusedSimpArgs false
namespace Go.Proofs.YtmnepfejoneghaaGreatDoor
open Go.Ab Go.RowKit Go
attribute [local irreducible] Abs CallK CallR CallsTo CallsB IA PI.CallsE AbsX
theorem res112 (tmps : Array Value) (w : World) : (results Tryz.f112 tmps).run Tryz.prog w = .ok (.tuple #[]) w := by
  rw [results_eq, show Tryz.f112.results = #[] from rfl]
  simp
set_option maxRecDepth 100000 in
theorem rec_ret112 (args : Array Value) (w : World) (hn : args.size ≤ 2) : CallsDIn Fence.wide 0 Tryz.prog 112 args .returning w (fun e u' w' => (∃ v, e = .returned v) ∧ u' = .returning ∧ w' = w) := by
  refine callsDIn_of_wpSIn Tryz.func112 rfl trivial fun c0 cs hu => ?_
  refine wpSIn_seq (wpSIn_region (recover_op (fun _ => trivial) ?_))
  have hrec : recoverD (c0 :: cs) = none := by simp [recoverD, hu]
  rw [hrec]
  show Code.wpSIn _ _ _ _ _ _ _ _
  refine wpSIn_of_wpIn rfl ?_
  have hnt : Tryz.f112.ntmps = 11 := rfl
  generalize ha : (Act.put { tmps := args ++ Array.replicate (Tryz.f112.ntmps - args.size) undef, defers := [] } (some 5) .nilIface : Act) = a
  have hsz : a.tmps.size = 11 := by rw [← ha]; simp [Act.put, hnt]; omega
  have h7 : a.eval (.tmp 5) = .nilIface := by rw [← ha]; simp [Act.put, Act.eval, hnt]; omega
  have hd : a.defers = [] := by rw [← ha]; rfl
  refine wpIn_block (wpIn_seq (wpIn_region_lit (list_cons rfl ⟨fun _ _ => trivial, ?_⟩)))
  rw [Oper.semAt_eq _ _ _ (by intro cl h; cases h), eq_nil h7, Oper.uponIn_value]
  show Code.wpIn _ _ _ _ _ _ _
  have h9 : (a.put (some 7) (.bool true)).eval (.tmp 7) = .bool true := by simp [Act.put, Act.eval, hsz]
  refine wpIn_cond_split h9 (fun _ => ?_) (fun h => by cases h)
  refine wpIn_region_lit (list_cons rfl ⟨fun _ _ => trivial, ?_⟩)
  have h4 : (execOp (a.put (some 7) (.bool true)).eval ⟨some 2, .assign (.tmp 5), 20, "round.go:122", #[], none⟩).run Tryz.prog w = .ok (.value ((a.put (some 7) (.bool true)).eval (.tmp 5))) w := by simp [execOp]
  rw [Oper.semAt_eq _ _ _ (by intro cl h; cases h), h4, Oper.uponIn_value]
  unfold wpListIn
  simp only [Exit.inBlock, bodyPostS]
  refine ⟨hd, c0.mode, rfl, .tuple #[], res112 _ _, ⟨_, rfl⟩, hu, trivial⟩
theorem eq_held {a : Act} {w : World} {t : TypeId} {x : Value} (ha : a.eval (.tmp 5) = .iface t x) {dst : Option Tmp} {ty : TypeId} {pos : String} {aft : Array Edge} : (execOp a.eval ⟨dst, .binOp .eql 20 (.tmp 5) (.const .nilIface) 20, ty, pos, aft, none⟩).run Tryz.prog w = .ok (.value (.bool false)) w := by
  have h1 : a.eval (.const Value.nilIface) = .nilIface := rfl
  simp [execOp, ha, h1, eqGuard, run_eql_held_nil (P := Tryz.prog) w 20 t x if20]
theorem run_assert {P : Program} {t : TypeId} (h : aggO P t = some true) (x : Value) (u : TypeId) (w : World) : (Instr.typeAssert (.iface t x) u t true).run P w = .ok (.tuple #[x, .bool true]) w := by
  unfold aggO at h
  split at h <;> first | (cases h; done) | (rename_i hu; simp [Instr.typeAssert, run_underlying hu])
theorem rxbool {l1 l2 : List Deferred} {c : Ctx} {s : St} {a : Act} {w : World} {x : Operand} {b : Bool} (h : RX l1 l2 c s a w) (hs : s.ev x = .bool b) : a.eval x = .bool b := by
  obtain ⟨_, g, hg⟩ := h
  have hv := hg.ev x
  rw [hs] at hv
  exact hv.asBool
set_option maxRecDepth 100000 in
set_option maxHeartbeats 4000000 in
theorem rec_pan (W0 : World) (S0 : Addr → Prop) (M0 : MM) (own0 : Nat → Prop) (β00 : List Nat) (st : St) (a : Act) (W : World) (g : Gh) (x : Int) (p1 p2 : Value) (C0 : List D) (e0 : Int)
    (hg : RG ⟨Tryz.prog, W0, S0, M0, none, own0, β00⟩ st a W g) (hbx : st.bx = [.mu C0, .mu [i64 e0], .mu [.bool false]]) (hrw : st.rw = [])
    (h1 : Rel W g p1 (.box 1 0)) (h2 : Rel W g p2 (.box 2 0)) :
    CallsDIn Fence.wide 0 Tryz.prog 112 #[p1, p2] (.panicking (PI.pchain 204 x)) W (fun e u' w' => (∃ v, e = .returned v) ∧ u' = .panicking [{ v := .iface 204 (.agg #[.int .i64 x]), recovered := true }] ∧
      ∃ s2 a2 g2, s2.bx = [.mu C0, .mu [i64 0], .mu [.bool false], .mu [i64 x]] ∧ s2.rw = [] ∧ RG ⟨Tryz.prog, W, g.S, g.M, none, fun b => W.heap.size ≤ b ∨ (own0 b ∧ ∃ cs t fz, W.heap[b]? = some (.cells cs t fz)), g.β⟩ s2 a2 w' g2) := by
  refine callsDIn_of_wpSIn Tryz.func112 rfl trivial fun c0 cs hu => ?_
  refine wpSIn_seq (wpSIn_region (recover_op (fun _ => trivial) ?_))
  have hrec : recoverD (c0 :: cs) = some (.iface 204 (.agg #[.int .i64 x]), { c0 with mode := .panicking [{ v := .iface 204 (.agg #[.int .i64 x]), recovered := true }] } :: cs) := by simp [recoverD, hu, PI.pchain]
  rw [hrec]
  show Code.wpSIn _ _ _ _ _ _ _ _
  refine wpSIn_of_wpIn rfl ?_
  have hnt : Tryz.f112.ntmps = 11 := rfl
  generalize ha : (Act.put { tmps := #[p1, p2] ++ Array.replicate (Tryz.f112.ntmps - #[p1, p2].size) undef, defers := [] } (some 5) (.iface 204 (.agg #[.int .i64 x])) : Act) = a0
  have hsz : a0.tmps.size = 11 := by rw [← ha]; simp [Act.put, hnt]
  have h5 : a0.eval (.tmp 5) = .iface 204 (.agg #[.int .i64 x]) := by rw [← ha]; simp [Act.put, Act.eval, hnt]
  have hd : a0.defers = [] := by rw [← ha]; rfl
  have hp : a0.tmps.getD 0 undef = p1 ∧ a0.tmps.getD 1 undef = p2 := by rw [← ha]; refine ⟨?_, ?_⟩ <;> simp [Act.put, hnt]
  refine wpIn_block (wpIn_seq (wpIn_region_lit (list_cons rfl ⟨fun _ _ => trivial, ?_⟩)))
  rw [Oper.semAt_eq _ _ _ (by intro cl h; cases h), eq_held h5, Oper.uponIn_value]
  show Code.wpIn _ _ _ _ _ _ _
  have h7 : (a0.put (some 7) (.bool false)).eval (.tmp 7) = .bool false := by simp [Act.put, Act.eval, hsz]
  refine wpIn_cond_split h7 (fun h => by cases h) (fun _ => ?_)
  refine wpIn_seq (wpIn_region_lit (list_cons rfl ⟨fun _ _ => trivial, ?_⟩))
  have h5' : (a0.put (some 7) (.bool false)).eval (.tmp 5) = .iface 204 (.agg #[.int .i64 x]) := by
    have := h5
    simp [Act.put, Act.eval, hsz] at this ⊢
    exact this
  have h10 : (execOp (a0.put (some 7) (.bool false)).eval ⟨some 8, .typeAssert (.tmp 5) 20 204 true, 0, "round.go:122", #[], none⟩).run Tryz.prog W = .ok (.value (.tuple #[.agg #[.int .i64 x], .bool true])) W := by
    simp [execOp, h5', run_assert (P := Tryz.prog) (t := 204) (by kernel_rfl)]
  rw [Oper.semAt_eq _ _ _ (by intro cl h; cases h), h10, Oper.uponIn_value]
  generalize ha1 : (a0.put (some 7) (.bool false)).put (some 8) (.tuple #[.agg #[.int .i64 x], .bool true]) = a1
  have hsz1 : a1.tmps.size = 11 := by rw [← ha1]; simp [Act.put, hsz]
  have hd1 : a1.defers = [] := by rw [← ha1]; exact hd
  have hg1 := hg.enterN (a' := a1) (n := 11) (sl := fun k => match k with | 0 => .box 1 0 | 1 => .box 2 0 | 8 => .tup [.agg [i64 x], .bool true] | _ => .undef) hd1 hsz1 (fun k => by
    have hget : ∀ k, k ≠ 7 → k ≠ 8 → a1.tmps.getD k undef = a0.tmps.getD k undef := fun k h9 h10 => by
      rw [← ha1]
      simp [Act.put, Array.getElem?_setIfInBounds, Ne.symm h9, Ne.symm h10]
    split
    · rw [hget 0 (by decide) (by decide), hp.1]; exact h1
    · rw [hget 1 (by decide) (by decide), hp.2]; exact h2
    · have : a1.tmps.getD 8 undef = .tuple #[.agg #[.int .i64 x], .bool true] := by rw [← ha1]; simp [Act.put, hsz]
      rw [this]
      refine .tup _ _ _ rfl (fun q d hd => ?_)
      match q, hd with
      | 0, hd => cases hd; exact .agg _ _ _ rfl (fun q hq => by
          match q, hq with
          | 0, _ => rfl
          | q + 1, hq => simp at hq) (fun q d hd => by
          match q, hd with
          | 0, hd => cases hd; exact .int _ _ _)
      | 1, hd => cases hd; exact .bool _ _
    · exact .undef _ _)
  rw [hbx, hrw] at hg1
  have hr1 : RX [] [] ⟨Tryz.prog, W, g.S, g.M, none, fun b => W.heap.size ≤ b ∨ (own0 b ∧ ∃ cs t fz, W.heap[b]? = some (.cells cs t fz)), g.β⟩ _ a1 W := ⟨hd1, g, by
    have : ({ a1 with defers := [] } : Act) = a1 := by rw [← hd1]
    rw [this]; exact hg1⟩
  generalize hsl : (fun k => match k with | 0 => D.box 1 0 | 1 => .box 2 0 | 8 => .tup [.agg [i64 x], .bool true] | _ => .undef : Nat → D) = sl0 at hr1
  have s0 : sl0 0 = .box 1 0 := congrFun hsl.symm 0
  have s1 : sl0 1 = .box 2 0 := congrFun hsl.symm 1
  have s8 : sl0 8 = .tup [.agg [i64 x], .bool true] := congrFun hsl.symm 8
  refine rx_list (rest := []) (K := fun s' => s' = _) (fun s2' a2 w2 hr2 e2 => ?_) [_, _] _ a1 W rfl hr1 (by
    (refine withX (And.intro @s0 (And.intro @s1 (@s8))) fun hX => ?_; refine simh ?_; clear hX; try exact trivial)
    exact rfl)
  subst e2
  unfold wpListIn
  show Code.wpIn _ _ _ _ _ _ _
  have h11 := rxbool hr2 (x := .tmp 9) (b := true) rfl
  refine wpIn_cond_split h11 (fun _ => ?_) (fun h => by cases h)
  refine wpIn_seq (wpIn_region_lit ?_)
  refine rx_list (rest := []) (K := fun s' => s' = _) (fun s3' a3 w3 hr3 e3 => ?_) [_, _] _ a2 w2 rfl hr2 (by
    (refine withX (And.intro @s0 (And.intro @s1 (@s8))) fun hX => ?_; refine simh ?_; clear hX; try exact trivial)
    exact rfl)
  subst e3
  unfold wpListIn
  show Code.wpIn _ _ _ _ _ _ _
  refine wpIn_region_lit ?_
  refine rx_list (rest := []) (K := fun s' => s' = _) (fun s4' a4 w4 hr4 e4 => ?_) [_, _] _ a3 w3 rfl hr3 (by
    (refine withX (And.intro @s0 (And.intro @s1 (@s8))) fun hX => ?_; refine simh ?_; clear hX; try exact trivial)
    first | exact rfl | exact ⟨rfl, rfl⟩)
  subst e4
  unfold wpListIn
  obtain ⟨hd4, g4, hg4⟩ := hr4
  have e4 : ({ a4 with defers := [] } : Act) = a4 := by rw [← hd4]
  rw [e4] at hg4
  simp only [Exit.inBlock, bodyPostS]
  exact ⟨hd4, .panicking [{ v := .iface 204 (.agg #[.int .i64 x]), recovered := true }], rfl, .tuple #[], res112 _ _, ⟨_, rfl⟩, rfl, _, a4, g4, rfl, rfl, hg4⟩
def uS (C : List D) (o : List Nat) : St := mkSt 11 [(1, ntD o), (2, .box 0 0), (4, .box 1 0), (5, .box 2 0)] [.mu C, .mu [i64 0], .mu [.bool false]] []
theorem uS_named (S : List (Int × Int)) (R : List (List (Int × Int))) (o : List Nat) : (uS (wrC S R) o).named := named_of rfl rfl
theorem uN (o : List Nat) : ∀ m, Names 3 0 (put (put (put (put (put none' 5 (D.box 2 0)) 4 (D.box 1 0)) 2 (D.box 0 0)) 1 (ntD o)) 6 (D.clo 112 [D.box 1 0, D.box 2 0]) m) :=
  slots_names (l := [(6, D.clo 112 [D.box 1 0, D.box 2 0]), (1, ntD o), (2, D.box 0 0), (4, D.box 1 0), (5, D.box 2 0)]) rfl
/-- What 'sure' says of an order. -/
def sureL : Option Int → List D
  | some n => [i64 n, .bool true]
  | none => [i64 0, .bool false]
set_option maxRecDepth 100000 in
set_option maxHeartbeats 4000000 in
theorem wsure_ok (S : List (Int × Int)) (R : List (List (Int × Int))) (o : List Nat) (res : Option Int) (hR : PI.CallsE Tryz.prog 113 [.agg (wrC S R), ntD o] 204 (res.map i64)) : CallsTo Tryz.prog 66 [.agg (wrC S R), ntD o] (.tup (sureL res)) := by
  have hcalls := Tryz.call66
  unfold CallsTo
  refine ⟨hcalls, fun S0 M w args hT hS hM hl hrel => ?_⟩
  refine (callsIn_wide (n := 0)).1 (callsIn_of_wp_marks Tryz.func66 rfl trivial ?_)
  have hr := R_init (P := Tryz.prog) (n := 11) hT hS hM hl (by simp) hrel
  have hnt : Tryz.f66.ntmps = 11 := rfl
  rw [hnt]
  generalize ({ tmps := args.toArray ++ Array.replicate (11 - args.toArray.size) undef, defers := [] } : Act) = a0 at hr ⊢
  refine wpIn_seq (abs_wp (c := ⟨Tryz.prog, w, S0, M, none, fun b => w.heap.size ≤ b, []⟩) (Q := fun e s => e = .normal ∧ Le s (uS (wrC S R) o)) hr (abs_region fun K hK => ?_) ?_)
  · (refine sim ?_; try exact trivial)
    exact hK _ ⟨rfl, le_of rfl (by try (refine sim ?_; try exact trivial); try simp) ⟨_, rfl⟩ ⟨_, rfl⟩⟩
  rintro e a2 w2 s1 hr1 ⟨rfl, hle1⟩
  replace hr1 := hr1.le hle1 (uS_named S R o) (Nat.zero_le _)
  clear hle1 s1 hr
  show Code.wpIn _ _ _ _ _ _ _
  obtain ⟨l, hl2⟩ : ∃ l, a2.defers = l := ⟨_, rfl⟩
  have hx2 : RX l l ⟨Tryz.prog, w, S0, M, none, fun b => w.heap.size ≤ b, []⟩ (uS (wrC S R) o) a2 w2 := ⟨hl2, by
    have : ({ a2 with defers := l } : Act) = a2 := by rw [← hl2]
    rw [this]; exact hr1⟩
  clear hr1
  refine wpIn_seq (wpIn_region_lit ?_)
  refine rx_list (rest := [_]) (K := fun s' => s' = _) (fun s3 a3 w3 hx3 e3 => ?_) [_] _ a2 w2 rfl hx2 (by
    simp only [uS, mkSt, List.foldr]
    (refine sim ?_; try exact trivial)
    exact rfl)
  subst e3
  refine list_cons rfl ⟨fun _ _ => trivial, ?_⟩
  obtain ⟨hd3, g3, hg3⟩ := hx3
  have h9 := hg3.ev (.tmp 6)
  change Rel w3 g3 (a3.eval (.tmp 6)) (.clo 112 [.box 1 0, .box 2 0]) at h9
  generalize hv9 : a3.eval (.tmp 6) = v9 at h9
  cases h9 with
  | clo _ _ vs _ hvl hvr =>
  obtain ⟨vs⟩ := vs
  obtain ⟨p1, p2, rfl⟩ : ∃ p1 p2, vs = [p1, p2] := by
    match vs, hvl with
    | [a, b], _ => exact ⟨a, b, rfl⟩
  have hp1 : Rel w3 g3 p1 (.box 1 0) := hvr 0 _ rfl
  have hp2 : Rel w3 g3 p2 (.box 2 0) := hvr 1 _ rfl
  clear hvr hvl
  obtain ⟨dd, hdd⟩ : ∃ dd : Deferred, dd = { target := .fn (.func 112) #[p1, p2], args := #[] } := ⟨_, rfl⟩
  have hsd : (Oper.semAt Fence.wide.round a3.eval ⟨none, .defer ⟨.value (.tmp 6), #[], #[]⟩, 0, "round.go:121", #[{ on := 0, ground := Go.Ground.data }], none⟩).run Tryz.prog w3 = .ok (.defer dd) w3 := by
    rw [show Fence.wide.round = none from rfl, Oper.semAt_none, hdd]
    simp [execOp, resolve, hv9, Deferred.ofValue]
  rw [hsd, Oper.uponIn_defer]
  unfold wpListIn
  show Code.wpIn _ _ _ _ _ _ _
  have hen := hg3.enterN (a' := { a3 with defers := [] }) rfl hg3.sz hg3.sl
  have hx4 : RX (dd :: l) [] ⟨Tryz.prog, w3, g3.S, g3.M, none, fun b => w3.heap.size ≤ b ∨ (w.heap.size ≤ b ∧ ∃ cs t fz, w3.heap[b]? = some (.cells cs t fz)), g3.β⟩ _ { a3 with defers := dd :: a3.defers } w3 := ⟨by rw [hd3], g3, hen⟩
  generalize ({ a3 with defers := dd :: a3.defers } : Act) = a4 at hx4
  have hinv : ∀ w : World, (invoke dd.target dd.args).run Tryz.prog w = .ok (.enter 112 #[p1, p2]) w := fun w => by
    rw [hdd]; simp [invoke, Tryz.call112]
  have fin : ∀ (s8 : St) (a8 : Act) (w8 : World) (g8 : Gh), RG ⟨Tryz.prog, w3, g3.S, g3.M, none, fun b => w3.heap.size ≤ b ∨ (w.heap.size ≤ b ∧ ∃ cs t fz, w3.heap[b]? = some (.cells cs t fz)), g3.β⟩ s8 { a8 with defers := [] } w8 g8 →
      (resL Tryz.prog s8 Tryz.f66.results.toList fun ds => ds = sureL res) →
      LeavesInM Fence.wide 0 Tryz.prog Tryz.f66 a8.tmps (fun e' w' => ∃ v S' M', e' = .returned v ∧ Grow w S0 M w' S' M' ∧ Go.Ab.Good w' S' ∧ Rel w' ⟨S', [], [], M'⟩ v (.tup (sureL res))) l .returning w8 := fun s8 a8 w8 g8 h8 hres => by
    have hb := swapAct (a' := { a8 with defers := l }) (hg3.leaveN h8 (uN o)) h8.sz h8.sl rfl
    have hds : resD (sureL res) = .tup (sureL res) := by cases res <;> rfl
    exact marks_leave (c := ⟨Tryz.prog, w, S0, M, none, fun b => w.heap.size ≤ b, []⟩) (fn := Tryz.f66) (ds := sureL res) l { a8 with defers := l } w8 hb rfl hres (fun v w9 h9 hv => ⟨v, g8.S, g8.M, rfl,
      ⟨⟨h9.below.os, h9.below.tape, h9.below.output, h9.below.size, fun k hk hn => h9.below.block k hk (fun h => h.elim (fun h => absurd (show w.heap.size ≤ k from h) (Nat.not_le_of_lt hk)) hn)⟩, h9.S0, h9.from0, h9.df.m0, h9.df.mfrom, h9.df.mok⟩, h9.good, hds ▸ hv⟩)
  cases res with
  | some e =>
    have hC := hR.calls
    refine absx_wp (c := ⟨Tryz.prog, w3, g3.S, g3.M, none, fun b => w3.heap.size ≤ b ∨ (w.heap.size ≤ b ∧ ∃ cs t fz, w3.heap[b]? = some (.cells cs t fz)), g3.β⟩) (Q := fun e' s8 => e' = .ret ∧ resL Tryz.prog s8 Tryz.f66.results.toList fun ds => ds = sureL (some e)) hx4 ?_ ?_
    · refine absx_seq (absx_region rfl fun K hK => ?_)
      simp only [uS, mkSt, List.foldr]
      (refine sim ?_; try exact trivial)
      refine callK hC ?_
      (refine sim ?_; try exact trivial)
      refine hK _ ?_; clear hK K; simp only [thenQ]
      refine absx_seq (absx_region rfl fun K hK => ?_)
      (refine sim ?_; try exact trivial)
      refine hK _ ?_; clear hK K; simp only [thenQ]
      refine absx_ret ?_
      refine ⟨rfl, ?_⟩
      show resL Tryz.prog _ [ResultVar.cell 4 3, ResultVar.cell 5 4] _
      (refine sim ?_; try exact trivial)
      rfl
    · rintro e a8 w8 s8 ⟨hd8, g8, hg8⟩ ⟨rfl, hres⟩
      show LeavesInM _ _ _ _ _ _ _ _ _
      rw [hd8]
      refine ⟨by simp, .inr ⟨fun h => (by cases h), .func 112, #[p1, p2], 112, #[p1, p2], by rw [hdd], hinv _, fun _ _ => trivial, ?_⟩⟩
      refine (rec_ret112 #[p1, p2] w8 (by simp)).mono ?_
      rintro e u' w9 ⟨⟨v, rfl⟩, rfl, rfl⟩
      exact fin s8 a8 _ g8 hg8 hres
  | none =>
    refine wpIn_seq (wpIn_region_lit ?_)
    refine rx_list (rest := [_, _]) (K := fun s' => s' = _) (fun s5 a5 w5 hx5 e5 => ?_) [_, _] _ a4 w3 rfl hx4 (by
      simp only [uS, mkSt, List.foldr]
      (refine sim ?_; try exact trivial)
      exact rfl)
    subst e5
    refine list_cons rfl ⟨fun _ _ => trivial, ?_⟩
    obtain ⟨hd5, g5, hg5⟩ := hx5
    have h10 := hg5.ev (.tmp 7)
    change Rel w5 g5 (a5.eval (.tmp 7)) (.agg (wrC S R)) at h10
    have h11 := hg5.ev (.tmp 8)
    change Rel w5 g5 (a5.eval (.tmp 8)) (ntD o) at h11
    unfold PI.CallsE at hR
    have hcl := hR.2 g5.S g5.M w5 [a5.eval (.tmp 7), a5.eval (.tmp 8)] (hg5.df.tab.at hg5.below) hg5.good hg5.df.mok rfl (fun q x hx => by
      match q, hx with
      | 0, hx => cases hx; exact pureD_rel hg5 h10 rfl
      | 1, hx => cases hx; exact pureD_rel hg5 h11 rfl)
    have hse : (Oper.semAt Fence.wide.round a5.eval ⟨some 9, .call ⟨.value (.func 113), #[.tmp 7, .tmp 8], #[84, 38]⟩, 3, "round.go:130", #[{ on := 0, ground := Go.Ground.data }, { on := 1, ground := Go.Ground.data }], none⟩).run Tryz.prog w5 = .ok (.enter 113 [a5.eval (.tmp 7), a5.eval (.tmp 8)].toArray) w5 := by
      rw [Oper.semAt_eq _ _ _ (by intro cl h; cases h)]
      have e1 : a5.eval (.func 113) = .func (.func 113) #[] #[] := rfl
      simp [execOp, resolve, e1, Deferred.ofValue, invoke, Tryz.call113]
    rw [hse, Oper.uponIn_enter]
    refine ⟨fun h => (by cases h), callsIn_wide.2 (hcl.mono ?_)⟩
    rintro e' w6 ⟨S', M', hgr, hgood, ⟨v, d, hnone, rfl, _⟩ | ⟨_, x, rfl⟩⟩
    · cases hnone
    have hg6 := hg5.grow hgr hgood
    show LeavesInM _ _ _ _ _ _ _ _ _
    rw [hd5]
    refine ⟨by simp, .inr ⟨fun h => (by cases h), .func 112, #[p1, p2], 112, #[p1, p2], by rw [hdd], hinv _, fun _ _ => trivial, ?_⟩⟩
    have kp : Keeps w3 g3 w6 ⟨S', g5.β, g5.ρ, M'⟩ := ⟨fun y hy => (hg6.df.kp0 y hy), hg6.S0, hg6.df.anc, fun r b hb => by
      have := (List.getElem?_eq_some_iff.1 hb).1
      rw [hg3.lρ] at this
      simp [uS, mkSt] at this, hg6.df.m0⟩
    refine (rec_pan w3 g3.S g3.M _ g3.β _ _ w6 ⟨S', g5.β, g5.ρ, M'⟩ x p1 p2 (wrC S R) 0 hg6 rfl rfl (hp1.keep kp) (hp2.keep kp)).mono ?_
    rintro e u' w9 ⟨⟨v, rfl⟩, rfl, s9, a9, g9, hb9, hw9, hg9⟩
    have hb := hg6.leaveN hg9 (slots_names (l := [(8, ntD o), (7, .agg (wrC S R)), (6, D.clo 112 [D.box 1 0, D.box 2 0]), (1, ntD o), (2, D.box 0 0), (4, D.box 1 0), (5, D.box 2 0)]) rfl)
    rw [hb9, hw9] at hb
    exact fin _ a5 _ g9 hb rfl
end Go.Proofs.YtmnepfejoneghaaGreatDoor
namespace Go.Proofs.YtmnepfejoneghaaGreatDoor
open Go.Ab
attribute [local irreducible] Abs CallK CallR CallsTo CallsB IA
abbrev rwN (o : List Nat) : Row := ⟨true, 3, 1, o.map wnt⟩
theorem nt_cells (o : List Nat) : ∀ x ∈ o.map wnt, x.cells ≠ [] := fun x hx => by
  obtain ⟨y, _, rfl⟩ := List.mem_map.1 hx; simp [D.cells]
theorem nt_len (o : List Nat) : ∀ x ∈ o.map wnt, x.cells.length = 1 := fun x hx => by
  obtain ⟨y, _, rfl⟩ := List.mem_map.1 hx; rfl
set_option maxRecDepth 100000 in
set_option maxHeartbeats 4000000 in
theorem clone_ok (o : List Nat) (hn : o.length ≤ 100) : CallsTo Tryz.prog 67 [ntD o] (ntD o) := by
  refine calls_abs Tryz.func67 Tryz.ntmps67 Tryz.results67 Tryz.call67 rfl (by simp) fun w0 S0 M0 => ?_
  repeat' (first | (show Abs _ (.region 1 _ _) _ _; refine abs_regionX 1 (atNil _ 38 (.tmp 3) (some 4)) (fun _ _ h => StepX.nil h) rfl rfl (fun K1 hK1 => ?_); (refine sim ?_; try exact trivial)) | (refine hK1 _ ⟨(by show (4:Nat) < 8; decide), (by kernel_rfl), _, rfl, fun hnil => ?_, fun _ => ?_, nt_cells o⟩ <;> clear hK1 K1 <;> (refine sim ?_; try exact trivial)) | (refine abs_region_row0 (t := 38) (e := 3) (by kernel_rfl) (by rw [show szOf Tryz.prog 3 = 1 from by kernel_rfl]; decide) (by show (5:Nat) < 8; decide) fun K hK => ?_; rw [show szOf Tryz.prog 3 = 1 from by kernel_rfl]; (refine sim ?_; try exact trivial)) | refine st1 ?_ | ((first | refine abs_region fun K hK => ?_ | refine abs_draw Tryz.ty.mixed (by kernel_rfl) fun K hK => ?_ | refine abs_if ?_ | show retQ _ _ _ _ _); (refine sim ?_; try exact trivial)) | ((first | (refine hK _ ?_; clear hK K) | show thenQ _ _ _ _ | show blockQ _ _ _ _ | show noGoQ _ _ _); refine qst ?_) | (intro hg; try exact fin2) | apply And.intro | exact fin | fail)
  all_goals first
    | exact hnil.symm ▸ rfl
    | exact congrArg D.list hnil.symm
    | exact nt_len o _ (by assumption)
theorem get_last (rw : List Row) (x : Row) : (rw ++ [x])[rw.length]? = some x := by simp
theorem set_last (rw : List Row) (x y : Row) : (rw ++ [x]).set rw.length y = rw ++ [y] := by simp
theorem arm_end {o : List Nat} {bx : List Bx} {rw : List Row} {n : Nat} {sl : Nat → D} {K : St → Prop} (h : o.map wnt = []) :
    thenQ K (retB Tryz.prog #[ResultVar.tmp 2] (fun d bx' rw' => d = .own rw.length ∧ bx' = bx ∧ rw' = rw ++ [rwN o])) .ret ⟨n, put sl 2 (.own rw.length), bx, rw ++ [⟨true, 3, 1, []⟩]⟩ :=
  ⟨by simp [resD, put], rfl, congrArg (fun l => rw ++ [(⟨true, 3, 1, l⟩ : Row)]) h.symm⟩
set_option maxRecDepth 100000 in
set_option maxHeartbeats 4000000 in
theorem clone_row (o : List Nat) (hn : o.length ≤ 100) (bx : List Bx) (rw : List Row) (hb : bx.map (purgeB rw.length) = bx) : CallsB Tryz.prog 67 [ntD o] bx rw (fun d bx' rw' => d = .own rw.length ∧ bx' = bx ∧ rw' = rw ++ [rwN o]) := by
  refine callsB_abs Tryz.func67 Tryz.ntmps67 Tryz.results67 Tryz.call67 rfl (by simp) fun W0 S0 M0 own β hβ => ?_
  repeat' (first | (show Abs _ .ret _ ⟨_, put _ 2 (D.val _), _, _⟩; refine abs_to (RTo.push 2 3 1 (put_same _ _ _)) ?_; refine abs_ret ?_; exact arm_end hnil) | (show Abs _ (.region 1 _ _) _ _; refine abs_regionX 1 (atNil _ 38 (.tmp 3) (some 4)) (fun _ _ h => StepX.nil h) rfl rfl (fun K1 hK1 => ?_); simp -implicitDefEqProofs only [go_sem, bas, basL, Nat.reduceAdd, Nat.reduceSub, Nat.reduceMul, Nat.reduceLT, Nat.reduceLeDiff, Nat.reduceEqDiff, Nat.reduceBEq, Int.reduceLT, Int.reduceLE, Int.reduceToNat, Int.reduceAdd, Int.reduceSub, Int.reduceMul, Int.reduceNeg, Int.reduceEq, reduceCtorEq, eq_self, ne_eq, not_false_eq_true, if_true, reduceIte, get_last, set_last, beq_self_eq_true, hb, wOpt, List.length_nil, List.nil_append, List.append_nil, Nat.zero_add]) | (refine hK1 _ ⟨(by show (4:Nat) < 8; decide), (by kernel_rfl), _, rfl, fun hnil => ?_, fun _ => ?_, nt_cells o⟩ <;> clear hK1 K1 <;> simp -implicitDefEqProofs only [go_sem, bas, basL, Nat.reduceAdd, Nat.reduceSub, Nat.reduceMul, Nat.reduceLT, Nat.reduceLeDiff, Nat.reduceEqDiff, Nat.reduceBEq, Int.reduceLT, Int.reduceLE, Int.reduceToNat, Int.reduceAdd, Int.reduceSub, Int.reduceMul, Int.reduceNeg, Int.reduceEq, reduceCtorEq, eq_self, ne_eq, not_false_eq_true, if_true, reduceIte, get_last, set_last, beq_self_eq_true, hb, wOpt, List.length_nil, List.nil_append, List.append_nil, Nat.zero_add]) | (refine abs_region_row0 (t := 38) (e := 3) (by kernel_rfl) (by rw [show szOf Tryz.prog 3 = 1 from by kernel_rfl]; decide) (by show (5:Nat) < 8; decide) fun K hK => ?_; rw [show szOf Tryz.prog 3 = 1 from by kernel_rfl]; simp -implicitDefEqProofs only [go_sem, bas, basL, Nat.reduceAdd, Nat.reduceSub, Nat.reduceMul, Nat.reduceLT, Nat.reduceLeDiff, Nat.reduceEqDiff, Nat.reduceBEq, Int.reduceLT, Int.reduceLE, Int.reduceToNat, Int.reduceAdd, Int.reduceSub, Int.reduceMul, Int.reduceNeg, Int.reduceEq, reduceCtorEq, eq_self, ne_eq, not_false_eq_true, if_true, reduceIte, get_last, set_last, beq_self_eq_true, hb, wOpt, List.length_nil, List.nil_append, List.append_nil, Nat.zero_add]) | (show retB _ _ _ _ _; simp -implicitDefEqProofs only [go_sem, bas, basL, Nat.reduceAdd, Nat.reduceSub, Nat.reduceMul, Nat.reduceLT, Nat.reduceLeDiff, Nat.reduceEqDiff, Nat.reduceBEq, Int.reduceLT, Int.reduceLE, Int.reduceToNat, Int.reduceAdd, Int.reduceSub, Int.reduceMul, Int.reduceNeg, Int.reduceEq, reduceCtorEq, eq_self, ne_eq, not_false_eq_true, if_true, reduceIte, get_last, set_last, beq_self_eq_true, hb, wOpt, List.length_nil, List.nil_append, List.append_nil, Nat.zero_add]) | refine st1 ?_ | ((first | refine abs_region fun K hK => ?_ | refine abs_draw Tryz.ty.mixed (by kernel_rfl) fun K hK => ?_ | refine abs_if ?_ | show retQ _ _ _ _ _); simp -implicitDefEqProofs only [go_sem, bas, basL, Nat.reduceAdd, Nat.reduceSub, Nat.reduceMul, Nat.reduceLT, Nat.reduceLeDiff, Nat.reduceEqDiff, Nat.reduceBEq, Int.reduceLT, Int.reduceLE, Int.reduceToNat, Int.reduceAdd, Int.reduceSub, Int.reduceMul, Int.reduceNeg, Int.reduceEq, reduceCtorEq, eq_self, ne_eq, not_false_eq_true, if_true, reduceIte, get_last, set_last, beq_self_eq_true, hb, wOpt, List.length_nil, List.nil_append, List.append_nil, Nat.zero_add]) | ((first | (refine hK _ ?_; clear hK K) | show thenQ _ _ _ _ | show blockQ _ _ _ _ | show noGoQ _ _ _); refine qst ?_) | (intro hg; try exact fin2) | apply And.intro | exact fin | fail)
  all_goals first
    | exact nt_len o _ (by assumption)
    | trace_state
end Go.Proofs.YtmnepfejoneghaaGreatDoor
