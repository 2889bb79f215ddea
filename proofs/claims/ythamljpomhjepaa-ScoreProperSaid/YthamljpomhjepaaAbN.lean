import Derived.Test.YthamljpomhjepaaAbM
set_option linter.unusedVariables false
set_option linter.unusedSimpArgs false
namespace Go.Ab
open Go.RowKit

theorem run_append_pin (P : Program) {w : World} (t ty e : TypeId) (i : TypeInfo) (z : Value) (bytes : Nat) (ht : P.underlying t = some (.slice e)) (hi : P.info? e = some i) (hz : i.zero = some z)
    (hsize : i.size = 1) (hby : i.bytes = bytes) (hzs : z.cells.size = 1) (v : Value) (xs : List Int) (hp : Pin w e v xs) (ad : Addr) (q : Nat) (n : Int) (hc : w.cell? (ad.add 0) = some (.int .i64 n))
    (h63 : xs.length + 1 ≤ maxLen) (hbytes : (xs.length + 1) * bytes ≤ 140737488355328) :
    ∃ v' w', (Builtin.append_ #[t, t] ty #[v, .slice (some ad) 1 q]).run P w = .ok v' w' ∧ Pin w' e v' (xs ++ [n]) ∧
      ((∃ g, v.ownBlock = some g ∧ v'.ownBlock = some g ∧ w.grownBy w' (some g) ∧ Pin w' e v xs ∧ ∀ w2, Pin w2 e v' (xs ++ [n]) → Pin w2 e v xs) ∨ (v'.ownBlock = some w.heap.size ∧ w.grownBy w' none)) := by
  have hnews : ∀ j u, [Value.int .i64 n][j]? = some u → w.cell? (ad.add j) = some u := fun j u hj => by
    match j with
    | 0 => simp at hj; subst hj; exact hc
    | j + 1 => simp at hj
  have h1 : ∀ u ∈ [Value.int .i64 n], u.oneCell' = true := fun u hu => by
    rw [List.mem_singleton.1 hu]; rfl
  have hany := run_append_any (w := w) P 0 t ty e i z 1 bytes ht hi hz hsize hby hzs (by decide) v xs.length _ hp (some ad) 1 q [.int .i64 n] rfl (fun _ => ⟨ad, rfl, hnews⟩) h1 h63 hbytes (Nat.zero_le _)
  have hmap : (xs ++ [n]).map (Value.int .i64) = xs.map (Value.int .i64) ++ [.int .i64 n] := by simp
  have hlen : (xs ++ [n]).length = xs.length + 1 := by simp
  have hgen : ¬ (∃ g cap cur, v = .slice (some ⟨g, 0, none⟩) xs.length cap ∧ w.heap[g]? = some (.cells cur e (0, 0)) ∧ xs.length + 1 ≤ cap ∧ cur.size = cap * 1) →
      ∃ v' w', (Builtin.append_ #[t, t] ty #[v, .slice (some ad) 1 q]).run P w = .ok v' w' ∧ Pin w' e v' (xs ++ [n]) ∧ (v'.ownBlock = some w.heap.size ∧ w.grownBy w' none) := fun hno => by
    obtain ⟨v', w', hrun, hown, hgr, hblk⟩ := hany
    refine ⟨v', w', hrun, by unfold Pin; rw [hlen, hmap]; exact hown, ?_⟩
    rcases hblk with hb | hb
    · exfalso
      rcases hp.2 with ⟨rfl, _⟩ | ⟨g, cap, cur, rfl, _, hg, hnc, _, hcs, _⟩
      · rcases hown.2 with ⟨rfl, h0⟩ | ⟨g, cap, cur, rfl, _⟩
        · omega
        · simp [Value.ownBlock] at hb
      · refine hno ⟨g, cap, cur, rfl, hg, ?_, hcs⟩
        rcases Nat.lt_or_ge cap (xs.length + 1) with hlt | hge
        · exfalso
          have holds : ∀ j u, (xs.map (Value.int .i64))[j]? = some u → w.cell? ((⟨g, 0, none⟩ : Addr).add j) = some u := World.ownsRow.cells hp (g := g) rfl
          have hr2 := run_append_grow (P := P) w t ty e i z ht hi hz ⟨g, 0, none⟩ xs.length cap (xs.map (Value.int .i64)) (by rw [hsize]; simp) holds ad 1 q [.int .i64 n] (by rw [hsize]; rfl) hnews (by omega)
            (by simp only [maxLen] at h63; omega) (growslice_fits (by omega) (by rw [hby]; exact hbytes))
          rw [hr2] at hrun
          cases hrun
          have : w.heap.size = g := by simpa [Value.ownBlock] using hb
          have := (Array.getElem?_eq_some_iff.1 hg).1
          omega
        · exact hge
    · exact hb
  by_cases hroom : ∃ g cap cur, v = .slice (some ⟨g, 0, none⟩) xs.length cap ∧ w.heap[g]? = some (.cells cur e (0, 0)) ∧ xs.length + 1 ≤ cap ∧ cur.size = cap * 1
  · clear hgen hany
    obtain ⟨g, cap, cur, rfl, hg, hnc, hcs⟩ := hroom
    have hr2 := run_append_room (P := P) w t ty e i ht hi g xs.length cap cur hg ad 1 q [.int .i64 n] (by rw [hsize]; rfl) hnews h1 hnc (by rw [hsize, hcs]; simp; omega)
    rw [hsize, Nat.mul_one] at hr2
    have hcap : cap ≤ maxLen ∧ cur.toList.take (xs.length * 1) = xs.map (Value.int .i64) := by
      rcases hp.2 with ⟨h, _⟩ | ⟨g', cap', cur', h, _, hg', _, hm, _, ht⟩
      · cases h
      · cases h; rw [hg] at hg'; cases hg'; exact ⟨hm, ht⟩
    have htk : cur.toList.take xs.length = xs.map (Value.int .i64) := by simpa using hcap.2
    have hheap := setRow_heap w g cur (cur.toList.take xs.length ++ [Value.int .i64 n] ++ cur.toList.drop (xs.length + [Value.int .i64 n].length)).toArray e (0, 0) hg
    have hsz : (cur.toList.take xs.length ++ [Value.int .i64 n] ++ cur.toList.drop (xs.length + [Value.int .i64 n].length)).toArray.size = cap * 1 := by
      simp; omega
    refine ⟨_, _, hr2, ?_, .inl ⟨g, rfl, rfl, setRow_grown w g _, ?_, fun w2 hw2 => ?_⟩⟩
    · refine ⟨by simp, .inr ⟨g, cap, _, by rw [hlen], Nat.zero_le _, hheap, by rw [hlen]; exact hnc, hcap.1, hsz, ?_⟩⟩
      rw [htk, hlen, hmap]
      have : (xs.length + 1) * 1 = (xs.map (Value.int .i64) ++ [Value.int .i64 n]).length := by simp
      rw [this]
      exact List.take_left
    · refine ⟨by simp, .inr ⟨g, cap, _, rfl, Nat.zero_le _, hheap, by omega, hcap.1, hsz, ?_⟩⟩
      rw [htk, List.append_assoc]
      have : xs.length * 1 = (xs.map (Value.int .i64)).length := by simp
      rw [this]
      exact List.take_left
    · rcases hw2.2 with ⟨h, _⟩ | ⟨g', cap', cur', h, _, hg', h3, hm, h4, ht⟩
      · cases h
      · simp only [Value.slice.injEq, Option.some.injEq, Addr.mk.injEq] at h
        obtain ⟨⟨h5, _⟩, _, h6⟩ := h
        subst h5; subst h6
        refine ⟨by simp, .inr ⟨g, cap, cur', rfl, Nat.zero_le _, hg', by omega, hm, h4, ?_⟩⟩
        rw [hlen, hmap] at ht
        have e1 : cur'.toList.take (xs.length * 1) = (cur'.toList.take ((xs.length + 1) * 1)).take (xs.length * 1) := by
          rw [List.take_take]; congr 1; omega
        rw [e1, ht]
        have : xs.length * 1 = (xs.map (Value.int .i64)).length := by simp
        rw [this]
        exact List.take_left
  · obtain ⟨v', w', h1, h2, h3⟩ := hgen hroom
    exact ⟨v', w', h1, h2, .inr h3⟩

/-- The list that a search goes on with. -/
theorem rs_append {E : SEnv} (hE : E.Ok) {o : Oper} {x y : Operand} {t : TypeId} {n : Int} {i : Ix} {s : St} {a : Act} {w : World} {N : Act → World → Prop} {Q : Exit → Act → World → Prop}
    (ho : o.op = .call ⟨.builtin .append, #[x, y], #[t, t]⟩) (hr : RS E none i s a w) (hx : s.ev x = .val E.v) (hy : s.ev y = .list [.int .i64 n]) (he : elemOf E.c.P t = some E.e) (hz : szOf E.c.P E.e = 1) (hzz : (zeroD E.c.P E.e).isSome = true)
    (hl : E.xs.length + 1 ≤ 9223372036854775807) (hbytes : (E.xs.length + 1) * bytesOf E.c.P E.e ≤ 140737488355328) (hdst : dstOk s o.dst)
    (hN : ∀ (v : Value) a' w', RS E (some (v, E.xs ++ [n])) i (s.put o.dst (.val v)) a' w' → N a' w') : o.wpIn Fence.wide 0 E.c.P a w N Q := by
  obtain ⟨T, U, S, M, hJ, hir, hs, hU, hp, _⟩ := hr
  have hir0 := hir
  obtain ⟨lt, ut, g, rfl, rfl, hg⟩ := hir
  have hxr := hg.ev x
  rw [hx] at hxr
  have hyr := hg.ev y
  rw [hy] at hyr
  obtain ⟨A, cy, szy, uy, hyv, hszy, hmy, hry⟩ := hyr.list_inv
  obtain ⟨ad, rfl, hc, _, _⟩ := hmy 0 (by simp [flat, D.cells])
  have hu0 : uy 0 = .int .i64 n := by
    have := hry 0 (.int .i64 n) (by simp [flat, D.cells])
    generalize uy 0 = u0 at this
    cases this; rfl
  rw [hu0] at hc
  obtain ⟨zs, hzs⟩ := Option.isSome_iff_exists.1 hzz
  have ⟨ti, z, hi, hiz, hzc, hisz⟩ : ∃ i z, E.c.P.info? E.e = some i ∧ i.zero = some z ∧ z.cells.size = 1 ∧ i.size = 1 := by
    unfold zeroD at hzs
    split at hzs
    · rename_i i hi
      split at hzs
      · rename_i z hz'
        split at hzs
        · rename_i hc
          simp only [Bool.and_eq_true, beq_iff_eq] at hc
          have : i.size = 1 := by rw [← hz]; simp [szOf, Program.cellsOf, hi]
          exact ⟨i, z, hi, hz', by rw [hc.2, this], this⟩
        · cases hzs
      · cases hzs
    · cases hzs
  have hvx : a.eval x = E.v := by
    generalize a.eval x = vx at hxr
    cases hxr; rfl
  obtain ⟨v', w', hrun, hp', hcase⟩ := run_append_pin E.c.P (w := w) t o.type E.e ti z (bytesOf E.c.P E.e) (elemOf_u he) hi hiz hisz (by simp [bytesOf, hi]) hzc E.v E.xs hp ad cy n hc (by simp only [maxLen]; exact hl) hbytes
  have hsem : (o.semAt Fence.wide.round a.eval).run E.c.P w = .ok (.value v') w' := by
    rw [Oper.semAt_eq _ _ _ (by rw [ho]; intro cl h; cases h)]
    simp only [List.length_cons, List.length_nil, Nat.zero_add] at hyv
    simp [execOp, ho, resolve, invoke, builtin, hvx, hyv, hrun]
  refine ⟨fun _ _ => trivial, ?_⟩
  rw [hsem, Oper.uponIn_value]
  -- what is left to show, once the blocks are named
  have key : ∀ T' : Nat → Prop, (∀ b, T b → T' b) → (∀ b, T' b → T b ∨ w.heap.size ≤ b) → (∀ b, T' b → b < w'.heap.size ∧ g.M b = none) → w.heap.size ≤ w'.heap.size → w'.os = w.os → w'.tape = w.tape → w'.output = w.output →
      (∀ b, b < w.heap.size → E.v.ownBlock ≠ some b → w'.heap[b]? = w.heap[b]?) → Pin w' E.e E.v E.xs → (E.v.ownBlock = v'.ownBlock → ∀ w2, Pin w2 E.e v' (E.xs ++ [n]) → Pin w2 E.e E.v E.xs) →
      (∀ gb, v'.ownBlock = some gb → T' gb ∧ ¬ U gb ∧ (∀ x, g.S x → x.block ≠ gb) ∧ (E.T0 gb → E.v.ownBlock = some gb)) → N (a.put o.dst v') w' := fun T' t1 t2 lt' hsz e1 e2 e3 hb hpv hpre htp => by
    have hvb : ∀ gb, E.v.ownBlock = some gb → T gb ∧ ¬ U gb ∧ ∀ x, g.S x → x.block ≠ gb := fun gb hgb => by
      obtain ⟨q1, q2⟩ := hE.hv gb hgb
      exact ⟨hs.t1 _ q1, hU _ q1, fun x hx e => q2 x (hs.s3 x hx (e ▸ q1)) e⟩
    have hcell : ∀ x, g.S x → w'.cell? x = w.cell? x := fun x hx => World.cell?_of_block (hb _ (hg.good.lt hx) (fun e => (hvb _ e).2.2 x hx rfl))
    have hgood : Good w' g.S := fun x hx => by
      obtain ⟨u, hu⟩ := hg.good x hx
      exact ⟨u, (hcell x hx).trans hu⟩
    have hmok : MOk w' g.M := fun b f hf => by
      obtain ⟨es, cl, q1, q2⟩ := hg.df.mok b f hf
      refine ⟨es, cl, (hb b (Array.getElem?_eq_some_iff.1 q1).1 (fun e => ?_)).trans q1, q2⟩
      have := (lt b (hvb b e).1).2
      rw [this] at hf; cases hf
    have hi : IGrow T g.S g.M w T' g.S g.M w' := ⟨⟨e1, e2, e3, hsz, fun k hk hn => hb k hk (fun e => hn (.inl (hvb k e).1))⟩, t2, lt', fun _ h => h, fun _ h => .inl h, hcell, fun _ _ h => h, fun _ _ h => .inl h, hmok, hgood⟩
    obtain ⟨_, ut', g2, f1, f2, hg2⟩ := hir0.move lt' (fun b hb => t1 b (ut b hb)) (fun b hb' => hb b (lt b (ut b hb')).1 (fun e => (hvb b e).2.1 hb')) hcell (fun _ h => h) (fun _ h _ => h) (fun _ _ h => h) hmok hgood
    refine hN v' _ _ ⟨T', U, g.S, g.M, hE.ok.ab i _ _ _ _ _ _ _ _ hJ hi, ⟨lt', ut', g2, f1, f2, hg2.put hdst (.val _ _)⟩, ⟨e1.trans hs.os, e2.trans hs.tape, e3.trans hs.output, Nat.le_trans hs.size hsz, fun b hb => t1 b (hs.t1 b hb),
      fun b hb' hn => (hb b (lt b (hs.t1 b hb')).1 hn).trans (hs.keep b hb' hn), hs.s1, hs.s3, fun x hx => (hcell x (hs.s1 x hx)).trans (hs.cell x hx), hs.m1⟩, hU, hpv, ?_⟩
    rintro v ys e
    cases e
    exact ⟨hp', hpre, htp⟩
  rcases hcase with ⟨gb, hb1, hb2, hgr, hpv, hpre⟩ | ⟨hb1, hgr⟩
  · obtain ⟨q1, q2⟩ := hE.hv gb hb1
    refine key T (fun _ h => h) (fun _ h => .inl h) (fun b hb => ⟨Nat.lt_of_lt_of_le (lt b hb).1 hgr.size, (lt b hb).2⟩) hgr.size hgr.os hgr.tape hgr.output (fun b hb hn => hgr.block b hb (fun e => hn (by rw [hb1]; exact e.symm))) hpv (fun _ => hpre) (fun g' hg' => ?_)
    rw [hb2] at hg'
    cases hg'
    exact ⟨hs.t1 _ q1, hU _ q1, fun x hx e => q2 x (hs.s3 x hx (e ▸ q1)) e, fun _ => hb1⟩
  · have hnew : w.heap.size < w'.heap.size := by
      rcases hp'.2 with ⟨rfl, _⟩ | ⟨g2, cap, cur, rfl, _, hg2, _⟩
      · simp [Value.ownBlock] at hb1
      · simp [Value.ownBlock] at hb1
        subst hb1
        exact (Array.getElem?_eq_some_iff.1 hg2).1
    have hMn : g.M w.heap.size = none := by
      cases hm : g.M w.heap.size with
      | none => rfl
      | some f =>
        obtain ⟨es, cl, q1, _⟩ := hg.df.mok _ f hm
        have := (Array.getElem?_eq_some_iff.1 q1).1
        omega
    refine key (fun b => T b ∨ b = w.heap.size) (fun _ h => .inl h) (fun b h => h.elim .inl (fun h => .inr (Nat.le_of_eq h.symm))) (fun b hb => ?_) hgr.size hgr.os hgr.tape hgr.output (fun b hb _ => hgr.block b hb (by simp)) ?_ (fun e => ?_) (fun g' hg' => ?_)
    · rcases hb with hb | rfl
      · exact ⟨Nat.lt_of_lt_of_le (lt b hb).1 hgr.size, (lt b hb).2⟩
      · exact ⟨hnew, hMn⟩
    · exact hp.kept (fun gb hgb => hgr.block gb (lt gb (hs.t1 _ (hE.hv gb hgb).1)).1 (by simp))
    · exfalso
      have := (lt _ (hs.t1 _ (hE.hv _ (e.trans hb1)).1)).1
      omega
    · rw [hb1] at hg'
      cases hg'
      refine ⟨.inr rfl, fun hu => ?_, fun x hx e => ?_, fun ht => ?_⟩
      · have := (lt _ (ut _ hu)).1; omega
      · have := hg.good.lt hx; omega
      · have := (lt _ (hs.t1 _ ht)).1; omega

/-- A call of a function that searches. -/
def SearchC (c : IC) (f : FuncId) (e : TypeId) (lb : List Value) (cs : List D) (xs : List Int) (left : Int) (out : List (List D)) : Prop :=
  ∀ (T : Nat → Prop) (S : Addr → Prop) (M : MM) (w : World) (k : Nat) (v : Value), JX c.J c.Jx (true, k) T S M w → (∀ b, T b → b < w.heap.size ∧ M b = none) → MOk w M → Good w S → Pin w e v xs →
    (∀ g, v.ownBlock = some g → T g ∧ ∀ x, S x → x.block ≠ g) → (∀ q x, cs[q]? = some x → Rel w ⟨S, [], [], M⟩ (lb.getD q Go.undef) x) → (∀ q, q < out.length → c.xs[k + q]? = out[q]?) →
    Calls c.P f (v :: .int .i64 left :: lb).toArray w fun e' w' => ∃ b k' T' S' M', e' = .returned (.bool b) ∧ JX c.J c.Jx (b, k') T' S' M' w' ∧ (b = true → k' = k + out.length) ∧ SG T S M w T' S' M' w' v.ownBlock ∧ Pin w' e v xs ∧
      (∀ b, T' b → b < w'.heap.size ∧ M' b = none) ∧ MOk w' M' ∧ Good w' S'

theorem rs_call {E : SEnv} (hE : E.Ok) {o : Oper} {fx x y : Operand} {at_ : Array TypeId} {f : FuncId} {lb : List Value} {cs : List D} {v : Value} {ys : List Int} {left : Int} {out : List (List D)} {k : Nat} {s : St} {a : Act} {w : World}
    {N : Act → World → Prop} {Q : Exit → Act → World → Prop} (ho : o.op = .call ⟨.value fx, #[x, y], at_⟩) (hr : RS E (some (v, ys)) (true, k) s a w) (hf : s.ev fx = .val (.func (.func f) #[] ⟨lb⟩)) (hx : s.ev x = .val v) (hy : s.ev y = .int .i64 left)
    (hcf : ∀ (args : Array Value) (w : World), (callFunc f args).run E.c.P w = .ok (.enter f args) w) (hS : SearchC E.c f E.e lb cs ys left out) (hlb : ∀ q x, cs[q]? = some x → Rel E.w0 ⟨E.S0, [], [], E.M0⟩ (lb.getD q Go.undef) x)
    (hxs : ∀ q, q < out.length → E.c.xs[k + q]? = out[q]?) (hdst : dstOk s o.dst) (hN : ∀ (b : Bool) k' a' w', (b = true → k' = k + out.length) → RS E none (b, k') (s.put o.dst (.bool b)) a' w' → N a' w') : o.wpIn Fence.wide 0 E.c.P a w N Q := by
  obtain ⟨T, U, S, M, hJ, hir, hs, hU, hp, htp⟩ := hr
  obtain ⟨hpv, hpre, hvb⟩ := htp v ys rfl
  have hir0 := hir
  obtain ⟨lt, ut, g, rfl, rfl, hg⟩ := hir
  have e1 := hg.ev fx
  rw [hf] at e1
  have e2 := hg.ev x
  rw [hx] at e2
  have e3 := hg.ev y
  rw [hy] at e3
  generalize hv1 : a.eval fx = v1 at e1
  generalize hv2 : a.eval x = v2 at e2
  generalize hv3 : a.eval y = v3 at e3
  cases e1; cases e2; cases e3
  have hcl := hS T g.S g.M w k v hJ lt hg.df.mok hg.good hpv (fun gb hgb => ⟨(hvb gb hgb).1, (hvb gb hgb).2.2.1⟩) (fun q x hx => (hlb q x hx).keep ⟨hs.cell, hs.s1, fun _ _ h => h, fun _ _ h => h, hs.m1⟩) hxs
  refine ⟨fun _ _ => trivial, ?_⟩
  have hsem : (o.semAt Fence.wide.round a.eval).run E.c.P w = .ok (.enter f (v :: .int .i64 left :: lb).toArray) w := by
    rw [Oper.semAt_eq _ _ _ (by rw [ho]; intro cl h; cases h)]
    simp [execOp, ho, resolve, hv1, hv2, hv3, Deferred.ofValue, invoke, hcf]
  rw [hsem, Oper.uponIn_enter]
  refine ⟨fun h => (by cases h), callsIn_wide.2 (hcl.mono ?_)⟩
  rintro e' w' ⟨b, k', T', S', M', rfl, hJ', hk', hs', hpv', lt', hmok, hgood⟩
  obtain ⟨_, ut', g2, f1, f2, hg2⟩ := hir0.move lt' (fun b hb => hs'.t1 b (ut b hb)) (fun b hb => hs'.keep b (ut b hb) (fun e => (hvb b e).2.1 hb)) hs'.cell hs'.s1 (fun x hx hu => hs'.s3 x hx (ut _ hu)) hs'.m1 hmok hgood
  refine hN b k' _ _ hk' ⟨T', U, S', M', hJ', ⟨lt', ut', g2, f1, f2, hg2.put hdst (.bool _ _)⟩, ⟨hs'.os.trans hs.os, hs'.tape.trans hs.tape, hs'.output.trans hs.output, Nat.le_trans hs.size hs'.size, fun b hb => hs'.t1 b (hs.t1 b hb),
    fun b hb hn => (hs'.keep b (hs.t1 b hb) (fun e => hn ((hvb b e).2.2.2 hb))).trans (hs.keep b hb hn), fun x hx => hs'.s1 x (hs.s1 x hx), fun x hx hb => hs.s3 x (hs'.s3 x hx (hs.t1 _ hb)) hb, fun x hx => (hs'.cell x (hs.s1 x hx)).trans (hs.cell x hx), fun b f hb => hs'.m1 b f (hs.m1 b f hb)⟩,
    hU, ?_, fun _ _ h => by cases h⟩
  by_cases heq : E.v.ownBlock = v.ownBlock
  · exact hpre heq w' hpv'
  · refine hp.kept (fun gb hgb => hs'.keep gb (hs.t1 _ (hE.hv gb hgb).1) (fun e => heq (by rw [hgb, e])))
end Go.Ab
