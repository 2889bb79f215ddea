import Derived.Test.YthamljpomhjepaaAbK
set_option linter.unusedVariables false
set_option linter.unusedSimpArgs false
namespace Go.Ab
open Go.RowKit

/-- A relation of states to worlds that the plain layer's steps keep. -/
def ROk (P : Program) {ι : Type} (RR : ι → St → Act → World → Prop) : Prop :=
  ∀ i s a w, RR i s a w → ∃ (w0 : World) (S0 : Addr → Prop) (M0 : MM) (own : Nat → Prop), R ⟨P, w0, S0, M0, none, own, []⟩ s a w ∧ ∀ s' a' w', R ⟨P, w0, S0, M0, none, own, []⟩ s' a' w' → RR i s' a' w'

/-- A statement on code over such a relation. -/
def GA (P : Program) {ι : Type} (RR : ι → St → Act → World → Prop) (code : Code) (Q : Exit → ι → St → Prop) (i : ι) (s : St) : Prop :=
  ∀ a w, RR i s a w → code.wpIn Fence.wide 0 P (fun e a' w' => ∃ i' s', RR i' s' a' w' ∧ Q e i' s') a w

section
variable {P : Program} {ι : Type} {RR : ι → St → Act → World → Prop} {Q : Exit → ι → St → Prop} {i : ι} {s : St}

theorem ROk.le (h : ROk P RR) {s' : St} {a : Act} {w : World} (hr : RR i s a w) (hl : Le s s') (hn : s'.named) : RR i s' a w := by
  obtain ⟨w0, S0, M0, own, h1, h2⟩ := h i s a w hr
  exact h2 _ _ _ (h1.le hl hn (Nat.zero_le _))

theorem ga_abs (hok : ROk P RR) {code : Code} (h : ∀ (w0 : World) (S0 : Addr → Prop) (M0 : MM) (own : Nat → Prop), Abs ⟨P, w0, S0, M0, none, own, []⟩ code (fun e s' => Q e i s') s) : GA P RR code Q i s := by
  intro a w hr
  obtain ⟨w0, S0, M0, own, h1, h2⟩ := hok i s a w hr
  refine wpIn_mono (h w0 S0 M0 own a w h1) ?_
  rintro e a' w' ⟨s', hr', hq⟩
  exact ⟨i, s', h2 _ _ _ hr', hq⟩

theorem ga_skip (h : Q .normal i s) : GA P RR .skip Q i s := fun _ _ hr => wpIn_skip ⟨i, s, hr, h⟩
theorem ga_exit {id : Nat} (h : Q (.exit id) i s) : GA P RR (.exit id) Q i s := fun _ _ hr => wpIn_exit ⟨i, s, hr, h⟩
theorem ga_ret (h : Q .ret i s) : GA P RR .ret Q i s := fun _ _ hr => wpIn_ret ⟨i, s, hr, h⟩

def thenG (K : ι → St → Prop) (Q : Exit → ι → St → Prop) : Exit → ι → St → Prop
  | .normal, i, s => K i s
  | e, i, s => Q e i s
def blockG (id : Nat) (Q : Exit → ι → St → Prop) : Exit → ι → St → Prop
  | .exit id', i, s => if id' = id then Q .normal i s else Q (.exit id') i s
  | e, i, s => Q e i s

theorem ga_seq {x y : Code} (h : GA P RR x (thenG (GA P RR y Q) Q) i s) : GA P RR (.seq x y) Q i s := by
  intro a w hr
  refine wpIn_seq (wpIn_mono (h a w hr) ?_)
  rintro e a' w' ⟨i', s', r, q⟩
  cases e with
  | normal => exact q a' w' r
  | exit id => exact ⟨i', s', r, q⟩
  | goto l => exact ⟨i', s', r, q⟩
  | ret => exact ⟨i', s', r, q⟩
  | panic ch => exact ⟨i', s', r, q⟩
  | outgrown => exact ⟨i', s', r, q⟩

theorem ga_block {id : Nat} {x : Code} (h : GA P RR x (blockG id Q) i s) : GA P RR (.block id x) Q i s := by
  intro a w hr
  refine wpIn_block (wpIn_mono (h a w hr) ?_)
  rintro e a' w' ⟨i', s', r, q⟩
  cases e with
  | normal => exact ⟨i', s', r, q⟩
  | exit id' =>
    simp only [blockG] at q
    simp only [Exit.inBlock]
    split at q
    · rw [if_pos (by assumption)]; exact ⟨i', s', r, q⟩
    · rw [if_neg (by assumption)]; exact ⟨i', s', r, q⟩
  | goto l => exact ⟨i', s', r, q⟩
  | ret => exact ⟨i', s', r, q⟩
  | panic ch => exact ⟨i', s', r, q⟩
  | outgrown => exact ⟨i', s', r, q⟩

theorem ga_if (hok : ROk P RR) {x : Operand} {t e : Code} (h : wBool (s.ev x) fun b => (b = true → GA P RR t Q i s) ∧ (b = false → GA P RR e Q i s)) : GA P RR (.cond x t e) Q i s := by
  intro a w hr
  cases hs : s.ev x <;> rw [hs] at h <;> simp only [wBool] at h
  obtain ⟨w0, S0, M0, own, ⟨g, hg⟩, _⟩ := hok i s a w hr
  have hv := hg.ev x
  rw [hs] at hv
  exact wpIn_cond_split hv.asBool (fun hb => h.1 hb a w hr) (fun hb => h.2 hb a w hr)

theorem ga_loop (hok : ROk P RR) {body : Code} {κ : Type} {n : Nat} (l : κ → List (Nat × D)) (ix : κ → ι) (p : κ → Prop) (μ : κ → Nat) (hn : ∀ j, p j → ((l j).all fun q => namesB 0 0 q.2) = true)
    (j0 : κ) (h0 : p j0) (hi : ix j0 = i) (hle : Le s (mkSt n (l j0) [] []))
    (round : ∀ j, p j → GA P RR body (thenG (fun i' s' => ∃ j', p j' ∧ μ j' < μ j ∧ ix j' = i' ∧ Le s' (mkSt n (l j') [] [])) Q) (ix j) ⟨n, (l j).foldr (fun p f => put f p.1 p.2) none', [], []⟩) : GA P RR (.loop body) Q i s := by
  intro a w hr
  subst hi
  have hnm : ∀ j, p j → (mkSt n (l j) [] []).named := fun j hj => named_of (hn j hj) rfl
  refine wp_loop_ix (fun j a w => p j ∧ RR (ix j) (mkSt n (l j) [] []) a w) μ (fun j a w ⟨hp, hr⟩ => ?_) j0 ⟨h0, hok.le hr hle (hnm j0 h0)⟩
  refine wpIn_mono (round j hp a w hr) ?_
  rintro e a' w' ⟨i', s', r, q⟩
  cases e with
  | normal =>
    obtain ⟨j', hj, hlt, rfl, hl⟩ := q
    exact ⟨j', ⟨hj, hok.le r hl (hnm j' hj)⟩, hlt⟩
  | exit id => exact ⟨i', s', r, q⟩
  | goto l => exact ⟨i', s', r, q⟩
  | ret => exact ⟨i', s', r, q⟩
  | panic ch => exact ⟨i', s', r, q⟩
  | outgrown => exact ⟨i', s', r, q⟩

/-- One plain operation. -/
theorem ga_step (hok : ROk P RR) {o : Oper} {a : Act} {w : World} {K : St → Prop} {Q' : Exit → Act → World → Prop} {N : Act → World → Prop} (hr : RR i s a w) (hst : stepOp P o s K) (hN : ∀ s' a' w', RR i s' a' w' → K s' → N a' w') : o.wpIn Fence.wide 0 P a w N Q' := by
  obtain ⟨w0, S0, M0, own, ⟨g, hg⟩, h2⟩ := hok i s a w hr
  have hd := step_nodefer hst
  refine op_in (c := ⟨P, w0, S0, M0, none, own, []⟩) hd ?_
  exact Oper.wp_mono (fun a' w' ⟨s', hr', hk'⟩ => hN s' a' w' (h2 _ _ _ hr') hk') (step_sound hg hst)
theorem ga_tick (hok : ROk P RR) {a : Act} {w : World} (hr : RR i s a w) : RR i s a { w with drawn := w.drawn + 1 } := by
  obtain ⟨w0, S0, M0, own, hg, h2⟩ := hok i s a w hr
  exact h2 _ _ _ (RG.drewTick hg)
end

/-- A region that draws its order: what holds with these operations done, and no others. -/
theorem any_flow {P : Program} {ops : Array Oper} {Q : Exit → Act → World → Prop} (Inv : (Nat → Bool) → Act → World → Prop)
    (hord : ∀ (i : Nat) (o : Oper), ops[i]? = some o → ∀ e ∈ o.after, Region.binds .any e = true → e.on < i) (hgd : ∀ (i : Nat) (o : Oper), ops[i]? = some o → o.guard = none)
    (step : ∀ (L : Nat → Bool) (i : Nat) (o : Oper), ops[i]? = some o → L i = false → (∀ e ∈ o.after, Region.binds .any e = true → L e.on = true) → ∀ a w, Inv L a w →
      o.wpIn Fence.wide 0 P a w (Inv (fun j => decide (j = i) || L j)) Q)
    (done : ∀ (L : Nat → Bool) a w, (∀ i, i < ops.size → L i = true) → Inv L a w → Q .normal a w) :
    ∀ (fuel : Nat) (listed : Array Bool) (a : Act) (w : World), listed.size = ops.size → ((List.range ops.size).filter fun j => !listed.getD j false).length ≤ fuel → Inv (fun j => listed.getD j false) a w →
      wpAnyIn Fence.wide 0 P .any ops Q fuel listed a w := by
  have hsame : ∀ (listed : Array Bool) (j : Nat), listed.size = ops.size → j < ops.size → listed.getD j true = listed.getD j false := fun listed j hs hj => by
    simp [hs, hj]
  have hall : ∀ listed : Array Bool, listed.size = ops.size → Region.ready .any ops listed = [] → ∀ i, i < ops.size → listed.getD i false = true := fun listed hs hr => by
    intro i
    induction i using Nat.strongRecOn with
    | _ i ih =>
      intro hi
      cases hl : listed.getD i false with
      | true => rfl
      | false =>
        exfalso
        have : i ∈ Region.ready .any ops listed := mem_ready.2 ⟨by rw [hsame listed i hs hi]; exact hl, ops[i], by simp [hi], fun e he hb => ih e.on (hord i _ (by simp [hi]) e he hb) (Nat.lt_trans (hord i _ (by simp [hi]) e he hb) hi)⟩
        rw [hr] at this; cases this
  intro fuel
  induction fuel with
  | zero =>
    intro listed a w hs hc hI
    have hnil : ((List.range ops.size).filter fun j => !listed.getD j false) = [] := List.length_eq_zero_iff.1 (Nat.le_zero.1 hc)
    have hL : ∀ i, i < ops.size → listed.getD i false = true := fun i hi => by
      cases hl : listed.getD i false with
      | true => rfl
      | false =>
        have : i ∈ ((List.range ops.size).filter fun j => !listed.getD j false) := List.mem_filter.2 ⟨List.mem_range.2 hi, by rw [hl]; rfl⟩
        rw [hnil] at this; cases this
    refine ⟨?_, done _ a w hL hI⟩
    refine List.eq_nil_iff_forall_not_mem.2 fun i hi => ?_
    obtain ⟨h1, o, ho, _⟩ := mem_ready.1 hi
    have hi' := (Array.getElem?_eq_some_iff.1 ho).1
    rw [hsame listed i hs hi', hL i hi'] at h1
    cases h1
  | succ fuel ih =>
    intro listed a w hs hc hI
    refine ⟨fun h0 => done _ a w (hall listed hs h0) hI, fun i hi => ?_⟩
    obtain ⟨h1, o, ho, h2⟩ := mem_ready.1 hi
    have hi' := (Array.getElem?_eq_some_iff.1 ho).1
    have hl : listed.getD i false = false := by rw [← hsame listed i hs hi']; exact h1
    unfold wpOpIn
    rw [ho]
    simp only
    rw [if_pos (by simp [Region.wanted, hgd i o ho])]
    refine Oper.wpIn_mono (fun a' w' hI' => ?_) (step (fun j => listed.getD j false) i o ho hl (fun e he hb => h2 e he hb) a w hI)
    refine ih (listed.setIfInBounds i true) a' w' (by simpa using hs) ?_ ?_
    · have hlt : ((List.range ops.size).filter fun j => !(listed.setIfInBounds i true).getD j false).length < ((List.range ops.size).filter fun j => !listed.getD j false).length := by
        have hsub : ((List.range ops.size).filter fun j => !(listed.setIfInBounds i true).getD j false) = (((List.range ops.size).filter fun j => !listed.getD j false).filter fun j => decide (j ≠ i)) := by
          rw [List.filter_filter]
          refine List.filter_congr fun j hj => ?_
          by_cases hji : j = i
          · subst hji
            simp [hs, hi']
          · simp [Array.getElem?_setIfInBounds, Ne.symm hji, hji]
        rw [hsub]
        refine List.length_filter_lt_length_iff_exists.2 ⟨i, List.mem_filter.2 ⟨List.mem_range.2 hi', by rw [hl]; rfl⟩, by simp⟩
      omega
    · have e : (fun j => (listed.setIfInBounds i true).getD j false) = fun j => decide (j = i) || listed.getD j false := by
        funext j
        by_cases hji : j = i
        · subst hji; simp [hs, hi']
        · simp [Array.getElem?_setIfInBounds, Ne.symm hji, hji]
      rw [e]; exact hI'

theorem wpIn_region_flow {P : Program} {ops : Array Oper} {Q : Exit → Act → World → Prop} {id : Nat} {a : Act} {w : World} (hm : P.follows .mixedOrders = true) (Inv : (Nat → Bool) → Act → World → Prop)
    (hord : ∀ (i : Nat) (o : Oper), ops[i]? = some o → ∀ e ∈ o.after, Region.binds .any e = true → e.on < i) (hgd : ∀ (i : Nat) (o : Oper), ops[i]? = some o → o.guard = none)
    (step : ∀ (L : Nat → Bool) (i : Nat) (o : Oper), ops[i]? = some o → L i = false → (∀ e ∈ o.after, Region.binds .any e = true → L e.on = true) → ∀ a w, Inv L a w →
      o.wpIn Fence.wide 0 P a w (Inv (fun j => decide (j = i) || L j)) Q)
    (done : ∀ (L : Nat → Bool) a w, (∀ i, i < ops.size → L i = true) → Inv L a w → Q .normal a w)
    (h0 : Inv (fun _ => false) a { w with drawn := w.drawn + 1 }) : (Code.region id ops true).wpIn Fence.wide 0 P Q a w := by
  refine wpIn_region_any hm (any_flow Inv hord hgd step done ops.size _ a _ (by simp) ?_ ?_)
  · exact Nat.le_trans (List.length_filter_le _ _) (by simp)
  · have e : (fun j => (Array.replicate ops.size false).getD j false) = fun _ => false := by
      funext j
      by_cases hj : j < ops.size <;> simp [hj]
    rw [e]; exact h0
end Go.Ab
namespace Go.Ab
def flowB (ops : Array Oper) : Bool := (List.range ops.size).all fun i => match ops[i]? with | some o => o.after.all (fun e => !Region.binds .any e || decide (e.on < i)) && o.guard.isNone | none => true
theorem flowB_of {ops : Array Oper} (h : flowB ops = true) {i : Nat} {o : Oper} (ho : ops[i]? = some o) : (∀ e ∈ o.after, Region.binds .any e = true → e.on < i) ∧ o.guard = none := by
  have hi := (Array.getElem?_eq_some_iff.1 ho).1
  have h1 := List.all_eq_true.1 h i (List.mem_range.2 hi)
  rw [ho] at h1
  simp only [Bool.and_eq_true] at h1
  refine ⟨fun e he hb => ?_, by simpa using h1.2⟩
  have := Array.all_eq_true'.1 h1.1 e he
  simpa [hb] using this
theorem wpIn_region_flowB {P : Program} {ops : Array Oper} {Q : Exit → Act → World → Prop} {id : Nat} {a : Act} {w : World} (hm : P.follows .mixedOrders = true) (hB : flowB ops = true) (Inv : (Nat → Bool) → Act → World → Prop)
    (h0 : Inv (fun _ => false) a { w with drawn := w.drawn + 1 })
    (step : ∀ (L : Nat → Bool) (i : Nat) (o : Oper), ops[i]? = some o → L i = false → (∀ e ∈ o.after, Region.binds .any e = true → L e.on = true) → ∀ a w, Inv L a w →
      o.wpIn Fence.wide 0 P a w (Inv (fun j => decide (j = i) || L j)) Q)
    (done : ∀ (L : Nat → Bool) a w, (∀ i, i < ops.size → L i = true) → Inv L a w → Q .normal a w) : (Code.region id ops true).wpIn Fence.wide 0 P Q a w :=
  wpIn_region_flow hm Inv (fun i o ho => (flowB_of hB ho).1) (fun i o ho => (flowB_of hB ho).2) step done h0
end Go.Ab
namespace Go.Ab
/-- The operations of the region of this number. -/
def codeOps (n : Nat) : Code → List (Array Oper)
  | .region i ops _ => if i == n then [ops] else []
  | .seq a b => codeOps n a ++ codeOps n b
  | .cond _ a b => codeOps n a ++ codeOps n b
  | .block _ b => codeOps n b
  | .loop b => codeOps n b
  | .rangeFunc _ _ a b => codeOps n a ++ codeOps n b
  | .scope b => codeOps n b
  | _ => []
def opsAt (f : Func) (n : Nat) : Array Oper := (((f.body.map (codeOps n)).getD [])).headD #[]
end Go.Ab
