import Derived.Test.YthamljpomhjepaaAbP
set_option linter.unusedVariables false
set_option linter.unusedSimpArgs false
namespace Go.Ab
open Go.RowKit

/-- What a call is handed, exact values kept (a nil slice stays one). -/
def pureDV (bx : List Bx) (rw : List Row) : D → Option D
  | .val v => some (.val v)
  | d => pureD bx rw d
def pureDsV (bx : List Bx) (rw : List Row) : List D → Option (List D)
  | [] => some []
  | d :: ds => match pureDV bx rw d with | some d' => (pureDsV bx rw ds).map (d' :: ·) | none => none
theorem pureDsV_get {bx : List Bx} {rw' : List Row} : ∀ {ds ds' : List D}, pureDsV bx rw' ds = some ds' → ds'.length = ds.length ∧ ∀ (q : Nat) (d' : D), ds'[q]? = some d' → ∃ d, ds[q]? = some d ∧ pureDV bx rw' d = some d'
  | [], ds', h => by simp [pureDsV] at h; subst h; simp
  | d :: ds, ds', h => by
    simp only [pureDsV] at h
    split at h
    · rename_i d1 h1
      simp only [Option.map_eq_some_iff] at h
      obtain ⟨l, hl, rfl⟩ := h
      obtain ⟨e1, e2⟩ := pureDsV_get hl
      refine ⟨by simp [e1], fun q d' hq => ?_⟩
      cases q with
      | zero => simp at hq; subst hq; exact ⟨d, rfl, h1⟩
      | succ q => exact e2 q d' (by simpa using hq)
    · cases h

section
variable {c : Ctx} {s : St} {a : Act} {w : World} {g : Gh}
theorem pureDV_rel {v : Value} {d d' : D} (h : RG c s a w g) (hr : Rel w g v d) (hp : pureDV s.bx s.rw d = some d') : Rel w g.er v d' := by
  unfold pureDV at hp
  split at hp
  · cases hp; exact hr.erase trivial
  · exact pureD_rel h hr hp

/-- What is done at a call of a function that is named. -/
theorem s_enter {o : Oper} {f : FuncId} {xs : Array Operand} {at_ : Array TypeId} {ds : List D} (ho : o.op = .call { callee := .value (.func f), args := xs, argTypes := at_ }) (h : RG c s a w g)
    (hp : pureDsV s.bx s.rw (xs.toList.map s.ev) = some ds) (hcf : ∀ (args : Array Value) (w : World), (callFunc f args).run c.P w = .ok (.enter f args) w) :
    (execOp a.eval o).run c.P w = .ok (.enter f (xs.toList.map a.eval).toArray) w ∧ (xs.toList.map a.eval).length = ds.length ∧ ∀ q x, ds[q]? = some x → Rel w ⟨g.S, [], [], g.M⟩ ((xs.toList.map a.eval).getD q Go.undef) x := by
  obtain ⟨e1, e2⟩ := pureDsV_get hp
  refine ⟨?_, by rw [e1]; simp, fun q x hx => ?_⟩
  · have : a.eval (.func f) = .func (.func f) #[] #[] := rfl
    simp [execOp, ho, resolve, this, Deferred.ofValue, invoke]
    rw [hcf]
    simp
    rw [← Array.toList_map, Array.toArray_toList]
  · obtain ⟨y, hy, hpy⟩ := e2 q x hx
    refine pureDV_rel h ?_ hpy
    simp only [List.getElem?_map, Option.map_eq_some_iff] at hy
    obtain ⟨z, hz, rfl⟩ := hy
    rw [List.getD_eq_getElem?_getD]
    simp only [List.getElem?_map, hz, Option.map_some, Option.getD_some]
    exact h.ev z

/-- A region with a call that is handed exact values. -/
theorem abs_regionV {Q : Exit → St → Prop} {id : Nat} {l : List Oper} (n : Nat) {f : FuncId} {xs : Array Operand} {dst : Option Tmp} {at_ : Array TypeId} {ty : TypeId} {pos : String} {aft : Array Edge} {d : D} {ds : List D}
    (hl : l = l.take n ++ ⟨dst, .call ⟨.value (.func f), xs, at_⟩, ty, pos, aft, none⟩ :: l.drop (n + 1)) (hC : CallsTo c.P f ds d)
    (h : ∀ K1 : St → Prop, (∀ s1, pureDsV s1.bx s1.rw (xs.toList.map s1.ev) = some ds → dstOk s1 dst → evOps c.P l (l.drop (n + 1)) (s1.put dst d) (fun s2 => Q .normal s2) → K1 s1) → evOps c.P l (l.take n) s K1) :
    Abs c (.region id l.toArray false) Q s := by
  intro a w hr
  refine wpIn_region_lit ?_
  rw [hl]
  rw [hl] at h
  have hl1 : (l.take n ++ (⟨dst, .call ⟨.value (.func f), xs, at_⟩, ty, pos, aft, none⟩ : Oper) :: l.drop (n + 1)).take n = l.take n := by rw [← hl]
  have hl2 : (l.take n ++ (⟨dst, .call ⟨.value (.func f), xs, at_⟩, ty, pos, aft, none⟩ : Oper) :: l.drop (n + 1)).drop (n + 1) = l.drop (n + 1) := by rw [← hl]
  rw [hl1, hl2] at h
  generalize l.take n = l1 at *
  generalize l.drop (n + 1) = l2 at *
  obtain ⟨y, hy⟩ : ∃ y : Oper, y = ⟨dst, .call ⟨.value (.func f), xs, at_⟩, ty, pos, aft, none⟩ := ⟨_, rfl⟩
  rw [← hy] at h ⊢
  refine evOps_pre (c := c) (fun s1 a1 w1 hr1 hk1 => ?_) l1 s a w hr (h (fun s1 => pureDsV s1.bx s1.rw (xs.toList.map s1.ev) = some ds ∧ dstOk s1 dst ∧ evOps c.P (l1 ++ y :: l2) l2 (s1.put dst d) (fun s2 => Q .normal s2)) (fun s1 h1 h2 h3 => ⟨h1, h2, h3⟩))
  obtain ⟨h1, h2, h3⟩ := hk1
  obtain ⟨g1, hg1⟩ := hr1
  obtain ⟨q1, q2, q3⟩ := s_enter (o := y) (by rw [hy]) hg1 h1 hC.1
  have hcl := hC.2 g1.S g1.M w1 _ hg1.good hg1.df.mok q2 q3
  show wpListIn c.F 0 c.P _ _ (y :: l2) a1 w1
  unfold wpListIn
  rw [if_pos (by rw [hy]; simp [Region.wanted])]
  refine op_in (by rw [hy]; intro cl h; cases h) ?_
  unfold Oper.wp
  rw [q1]
  refine hcl.mono ?_
  rintro e w' ⟨v, S', M', rfl, hgr, hgood, hrel⟩
  have hyd : y.dst = dst := by rw [hy]
  show wpListIn _ _ _ _ _ l2 (a1.put y.dst v) w'
  rw [hyd]
  exact evOps_sound (c := c) (K := fun s2 => Q .normal s2) (fun s3 a3 w3 hr3 hk3 => ⟨s3, hr3, hk3⟩) l2 _ _ _ ⟨_, (hg1.grow hgr hgood).put h2 (hrel.keep (er_up _ _ _ _ _))⟩ h3
end
attribute [go_sem] pureDV pureDsV
end Go.Ab
