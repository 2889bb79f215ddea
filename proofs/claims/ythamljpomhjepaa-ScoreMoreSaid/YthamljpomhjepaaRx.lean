import Derived.Test.YthamljpomhjepaaRw
import Derived.Deep.Slices
import Derived.Deep.Strs
set_option linter.unusedVariables false
set_option linter.unusedSimpArgs false
namespace Go.Ab
open Go.RowKit Go.ChangeShapes Go.WideShapes Go.Deep Go.Proofs.Ythamljpomhjepaa

section
variable {H : Type} {enc : TypeId × Value → H} {P : Program} {W : World}

/-- Every value of this type is one cell, and reads as something that `Q` holds of. -/
def Reads1 (enc : TypeId × Value → H) (P : Program) (W : World) (t : TypeId) (Q : D → Prop) : Prop :=
  ∀ (fuel : Nat) (cs : List Value) (x : DataW H × List MemPlace), DataW.trod enc P W 0 (fun _ => true) true fuel t cs = some x →
    ∃ v d, cs = [v] ∧ v.oneCell' = true ∧ d.cells = [d] ∧ Q d ∧ Rel W (gAll W) v d

theorem reads_int {t : TypeId} (ht : P.underlying t = some (.int .i64)) : Reads1 enc P W t (fun d => ∃ n : Int, d = .int .i64 n) := by
  intro fuel cs x h
  obtain ⟨n, rfl, _, _⟩ := DataW.trod_int ht h
  exact ⟨_, _, rfl, rfl, rfl, ⟨n, rfl⟩, .int _ _ _⟩

theorem flat_one : ∀ {ds : List D}, (∀ d ∈ ds, d.cells = [d]) → flat ds = ds
  | [], _ => rfl
  | d :: ds, h => by
    show d.cells ++ flat ds = _
    rw [h d List.mem_cons_self, flat_one (fun x hx => h x (List.mem_cons_of_mem _ hx))]
    rfl

theorem reads_slice {t e : TypeId} {Q : D → Prop} (ht : P.underlying t = some (.slice e)) (ce : P.cellsOf e = 1) (he : Reads1 enc P W e Q) :
    Reads1 enc P W t (fun d => ∃ ds : List D, d = .list ds ∧ ds.length ≤ 9223372036854775807 ∧ ∀ y ∈ ds, Q y) := by
  intro fuel cs x h
  rcases open_slice1 ht ce h with ⟨hcs, hx⟩ | ⟨a, len, cap, m, n, V, DD, Pl, hcs, hb, hl, hm, hmm, hx, hcell⟩
  · exact ⟨_, .list [], hcs, rfl, rfl, ⟨[], rfl, by simp, by simp⟩, .nil _ _⟩
  · simp only [if_true] at hmm
    subst hmm
    have each : ∀ q, q < m → ∃ d, (V q).oneCell' = true ∧ d.cells = [d] ∧ Q d ∧ Rel W (gAll W) (V q) d := fun q hq => by
      obtain ⟨v, d, e1, h1, h2, h3, h4⟩ := he _ _ _ (hcell q hq).2
      cases e1
      exact ⟨d, h1, h2, h3, h4⟩
    obtain ⟨y, hy⟩ := choose_lt each
    have hfl : flat ((List.range len).map y) = (List.range len).map y := flat_one (fun d hd => by
      obtain ⟨q, hq, rfl⟩ := List.mem_map.1 hd
      exact (hy q (by have := List.mem_range.1 hq; omega)).2.1)
    refine ⟨_, .list ((List.range len).map y), hcs, rfl, rfl, ⟨_, rfl, by simp only [maxLen] at hm; simp; omega, fun d hd => by
      obtain ⟨q, hq, rfl⟩ := List.mem_map.1 hd
      exact (hy q (by have := List.mem_range.1 hq; omega)).2.2.1⟩, .list _ _ _ _ _ 1 V (by simp) (fun d hd => by
      obtain ⟨q, hq, rfl⟩ := List.mem_map.1 hd
      rw [(hy q (by have := List.mem_range.1 hq; omega)).2.1]; rfl) (fun q hq => ?_) (fun q dd hd => ?_)⟩
    · rw [hfl] at hq
      simp only [List.length_map, List.length_range] at hq
      have hcq := (hcell q (by omega)).1
      exact ⟨a, rfl, hcq, by show (W.cell? _).isSome = true; rw [hcq]; rfl, (hy q (by omega)).1⟩
    · rw [hfl] at hd
      simp only [List.getElem?_map, Option.map_eq_some_iff] at hd
      obtain ⟨z, hz, rfl⟩ := hd
      obtain ⟨hq, rfl⟩ := List.getElem?_eq_some_iff.1 hz
      simp only [List.length_range] at hq
      simp only [List.getElem_range]
      exact (hy q (by omega)).2.2.2

theorem reads_mono {t : TypeId} {Q R : D → Prop} (h : Reads1 enc P W t Q) (hm : ∀ d, Q d → R d) : Reads1 enc P W t R := fun _ _ _ hx => by
  obtain ⟨v, d, h1, h2, h3, h4, h5⟩ := h _ _ _ hx
  exact ⟨v, d, h1, h2, h3, hm _ h4, h5⟩

theorem map_of_all {α : Type} {Q : α → Prop} {f : α → D} : ∀ {ds : List D}, (∀ d ∈ ds, ∃ a, d = f a ∧ Q a) → ∃ xs : List α, ds = xs.map f ∧ ∀ a ∈ xs, Q a
  | [], _ => ⟨[], rfl, by simp⟩
  | d :: ds, h => by
    obtain ⟨a, rfl, ha⟩ := h d List.mem_cons_self
    obtain ⟨xs, rfl, hx⟩ := map_of_all (ds := ds) (fun x hx => h x (List.mem_cons_of_mem _ hx))
    exact ⟨a :: xs, rfl, fun b hb => by
      rcases List.mem_cons.1 hb with rfl | hb
      · exact ha
      · exact hx b hb⟩

/-- A list whose members a law takes: what a row's reader gives. -/
def short {α : Type} (xs : List α) : Prop := xs.length ≤ 9223372036854775807

theorem reads_list {t e : TypeId} {α : Type} {Q : α → Prop} {f : α → D} (ht : P.underlying t = some (.slice e)) (ce : P.cellsOf e = 1) (he : Reads1 enc P W e (fun d => ∃ a, d = f a ∧ Q a)) :
    Reads1 enc P W t (fun d => ∃ xs : List α, d = .list (xs.map f) ∧ short xs ∧ ∀ a ∈ xs, Q a) :=
  reads_mono (reads_slice ht ce he) (fun d ⟨ds, h1, h2, h3⟩ => by
    obtain ⟨xs, rfl, hx⟩ := map_of_all h3
    exact ⟨xs, h1, by simpa [short] using h2, hx⟩)

theorem reads_ints {t e : TypeId} (ht : P.underlying t = some (.slice e)) (he : P.underlying e = some (.int .i64)) (ce : P.cellsOf e = 1) : Reads1 enc P W t (fun d => ∃ xs : List Int, d = ints xs ∧ short xs) :=
  reads_mono (reads_list (α := Int) (Q := fun _ => True) (f := D.int .i64) ht ce (reads_mono (reads_int he) (fun _ ⟨n, h⟩ => ⟨n, h, trivial⟩))) (fun _ ⟨xs, h1, h2, _⟩ => ⟨xs, h1, h2⟩)
theorem reads_intss {t s e : TypeId} (ht : P.underlying t = some (.slice s)) (hs : P.underlying s = some (.slice e)) (he : P.underlying e = some (.int .i64)) (cs : P.cellsOf s = 1) (ce : P.cellsOf e = 1) :
    Reads1 enc P W t (fun d => ∃ xs : List (List Int), d = intss xs ∧ short xs ∧ ∀ r ∈ xs, short r) :=
  reads_list (f := ints) ht cs (reads_ints hs he ce)
theorem reads_intsss {t r s e : TypeId} (ht : P.underlying t = some (.slice r)) (hr : P.underlying r = some (.slice s)) (hs : P.underlying s = some (.slice e)) (he : P.underlying e = some (.int .i64)) (cr : P.cellsOf r = 1) (cs : P.cellsOf s = 1) (ce : P.cellsOf e = 1) :
    Reads1 enc P W t (fun d => ∃ xs : List (List (List Int)), d = .list (xs.map intss) ∧ short xs ∧ ∀ y ∈ xs, short y ∧ ∀ z ∈ y, short z) :=
  reads_list (f := intss) ht cr (reads_mono (reads_intss hr hs he cs ce) (fun _ ⟨x, h1, h2, h3⟩ => ⟨x, h1, h2, h3⟩))

theorem slice_cells {t e : TypeId} {base : Nat} {v : Value} (ht : P.underlying t = some (.slice e)) (hval : Value.okWide P W .any base t v) : v.cells.toList = [v] := by
  obtain ⟨a0, l0, c0, rfl⟩ := okWide_slice ht hval
  rfl
/-- An argument of one cell. -/
theorem rel_read {t : TypeId} {v : Value} {d : DataW H} {ps : List MemPlace} {Q : D → Prop} (hr : Reads1 enc P W t Q) (hv : v.cells.toList = [v]) (h : DataW.Trod enc P W 0 (fun _ => true) true t v d ps) :
    ∃ x, Q x ∧ Rel W (gAll W) v x := by
  obtain ⟨fuel, hf⟩ := h
  obtain ⟨u, x, h1, _, _, hq, hx⟩ := hr _ _ _ hf
  rw [hv] at h1
  cases h1
  exact ⟨x, hq, hx⟩

/-- A struct of three cells. -/
theorem rel_struct3 {t : TypeId} {f0 f1 f2 : Field} {base : Nat} {v : Value} {d : DataW H} {ps : List MemPlace} {Q0 Q1 Q2 : D → Prop} (ht : P.underlying t = some (.struct #[f0, f1, f2])) (hc : P.cellsOf t = 3)
    (ho : f0.offset = 0 ∧ f1.offset = 1 ∧ f2.offset = 2) (c0 : P.cellsOf f0.type = 1) (c1 : P.cellsOf f1.type = 1) (c2 : P.cellsOf f2.type = 1)
    (h0 : Reads1 enc P W f0.type Q0) (h1 : Reads1 enc P W f1.type Q1) (h2 : Reads1 enc P W f2.type Q2)
    (hval : Value.okWide P W .any base t v) (h : DataW.Trod enc P W 0 (fun _ => true) true t v d ps) : ∃ x y z, Q0 x ∧ Q1 y ∧ Q2 z ∧ Rel W (gAll W) v (.agg [x, y, z]) := by
  obtain ⟨vs, rfl, _⟩ := okWide_struct ht hval
  obtain ⟨fuel, hf⟩ := h
  obtain ⟨y0, y1, y2, n, _, hl, g0, g1, g2⟩ := trod_struct3 ht hf
  rw [hc] at hl
  have hvs : (Value.agg vs).cells.toList = vs.toList := rfl
  rw [hvs] at hl g0 g1 g2
  obtain ⟨a, b, c, hvl⟩ : ∃ a b c, vs.toList = [a, b, c] := by
    match hh : vs.toList, hl with
    | [a, b, c], _ => exact ⟨a, b, c, rfl⟩
  rw [hvl, ho.1, c0] at g0
  rw [hvl, ho.2.1, c1] at g1
  rw [hvl, ho.2.2, c2] at g2
  obtain ⟨u0, x0, e0, k0, _, q0, r0⟩ := h0 _ _ _ g0
  obtain ⟨u1, x1, e1, k1, _, q1, r1⟩ := h1 _ _ _ g1
  obtain ⟨u2, x2, e2, k2, _, q2, r2⟩ := h2 _ _ _ g2
  cases e0; cases e1; cases e2
  refine ⟨x0, x1, x2, q0, q1, q2, ?_⟩
  obtain ⟨l⟩ := vs
  cases (show l = [a, b, c] from hvl)
  refine .agg _ _ _ rfl (fun q hq => ?_) (fun q d hd => ?_)
  · match q, hq with
    | 0, _ => exact k0
    | 1, _ => exact k1
    | 2, _ => exact k2
  · match q, hd with
    | 0, hd => cases hd; exact r0
    | 1, hd => cases hd; exact r1
    | 2, hd => cases hd; exact r2
end
end Go.Ab
