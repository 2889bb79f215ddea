import Derived.Test.YthamljpomhjepaaS1
import Derived.Test.YthamljpomhjepaaRows
import Derived.ProofKit
import Derived.ReadAgain
set_option linter.unusedVariables false
set_option linter.unusedSimpArgs false
namespace Go.Ab
open Go.RowKit Go.ChangeShapes Go.WideShapes

/-- Every cell that there is counts. -/
def gAll (W : World) : Gh := ⟨fun x => (W.cell? x).isSome = true, [], [], fun _ => none⟩
theorem good_all (W : World) : Go.Ab.Good W (gAll W).S := fun x hx => Option.isSome_iff_exists.1 hx

theorem trodAll_carry {H : Type} {enc : TypeId × Value → H} {P : Program} {W W' : World} {base : Nat} {sp : Nat → Bool} {hd : Bool} : ∀ {ts : List TypeId} {vs : List Value} {ds : List (DataW H)} {ps : List MemPlace},
    DataW.TrodAll enc P W base sp hd ts vs ds ps → (∀ p ∈ ps, W.sameAt W' p) → DataW.TrodAll enc P W' base sp hd ts vs ds ps
  | [], [], [], _, h, _ => h
  | _ :: _, _ :: _, _ :: _, _, ⟨p, q, ⟨n, hn⟩, h2, e⟩, hs =>
    ⟨p, q, ⟨n, DataW.trod_carry n _ _ _ hn (fun x hx => hs x (by rw [e]; exact List.mem_append_left _ hx))⟩, trodAll_carry h2 (fun x hx => hs x (by rw [e]; exact List.mem_append_right _ hx)), e⟩

/-- A law's row, out of its contract. -/
theorem calls_law {H : Type} {enc : TypeId × Value → H} {P : Program} {fid : FuncId} {fn : Func} {s : ChangeSpec} {W : World} {args : Array Value} {ds gs : List (DataW H)} {before : List MemPlace} {Ds : List D} {tb : TypeId}
    (hv : s.vars = []) (hres : fn.resultTypes = #[tb]) (htb : P.underlying tb = some .bool) (hfn : (s.fn H ds).results = [.lit (.bool true)] ∧ (s.fn H ds).args = ds ∧ (s.fn H ds).vars = [])
    (hlo : laidOutB P = true) (hmr : mapsRowed P = true) (hfull : ∀ t e, t < P.types.size → P.underlying t = some (.slice e) → 0 < P.cellsOf e) (hts : ∀ t ∈ fn.params.toList, t < P.types.size)
    (hW : DataW.Whole enc P fn.params.toList s.vars false W args.toList ds gs before) (hC : CallsTo P fid Ds (.bool true)) (hn : args.toList.length = Ds.length)
    (hR : ∀ q x, Ds[q]? = some x → Rel W (gAll W) (args.toList.getD q Go.undef) x) :
    Calls P fid args W fun e W' => ∃ v, e = .returned v ∧ s.post enc P fn false true false false W args v W' := by
  have hW' := hW
  obtain ⟨p, q, hA, hV, rfl, hfz, hnd⟩ := hW
  rw [hv] at hV
  obtain ⟨rfl, rfl⟩ := trodVars_none hV
  have hcl := hC.2 (gAll W).S (fun _ => none) W args.toList (good_all W) (fun b f h => by cases h) hn hR
  rw [Array.toArray_toList] at hcl
  refine hcl.mono ?_
  rintro e W' ⟨v, S', M', rfl, hg, hgood, hrel⟩
  obtain rfl := hrel.asBool
  have hblk : ∀ k, k < W.heap.size → W'.heap[k]? = W.heap[k]? := fun k hk => hg.below.at k hk rfl
  have hlt : ∀ x ∈ p ++ [], x.block < W.heap.size := fun x hx => hW'.lt x hx
  have hsame : ∀ x ∈ p, W.sameAt W' x := fun x hx => by
    have h1 := hlt x (by simpa using hx)
    cases x with
    | cell b off => exact World.cell?_of_block (hblk b h1)
    | map b => exact hblk b h1
  have hargs : ∀ sp : Nat → Bool, (∀ x ∈ p, sp x.block = true) → DataW.TrodAll enc P W' 0 sp true fn.params.toList args.toList (s.fn H (ds ++ [])).args p := fun sp hs => by
    rw [List.append_nil, hfn.2.1]
    exact trodAll_carry (DataW.TrodAll.respare (T := fun t => t < P.types.size) (kids_rows hlo hmr) hfull hts hA hs) hsame
  have hrs : ∀ (b : Nat) (sp : Nat → Bool) (hd : Bool), DataW.TrodAll enc P W' b sp hd fn.resultTypes.toList ((Value.bool true).resultList fn.resultTypes.size) (s.fn H (ds ++ [])).results [] := fun b sp hd => by
    rw [List.append_nil, hfn.1, hres]
    exact trodAll_mk1 (shut_bool htb true)
  have hvs : ∀ sp : Nat → Bool, DataW.TrodVars enc P W' sp s.vars (s.fn H (ds ++ [])).vars [] := fun sp => by
    rw [List.append_nil, hfn.2.2, hv]; rfl
  have hok : ∀ (j : Nat) (t : TypeId) (r : Value), fn.resultTypes[j]? = some t → ((Value.bool true).resultList fn.resultTypes.size)[j]? = some r → Value.okWide P W' .any 0 t r := ok_one hres rfl (okWide_bool_mk htb true)
  have hkept : W.keptBut W' (fun _ => False) := by
    refine ⟨hg.below.os, hg.below.output, fun i hi => ?_⟩
    rw [hblk i hi]
    split
    · rename_i h1 h2
      rw [h1] at h2
      simp only [Option.some.injEq, Obj.cells.injEq] at h2
      obtain ⟨rfl, rfl, rfl⟩ := h2
      exact ⟨rfl, rfl, rfl, fun _ _ => rfl⟩
    · rename_i h1 h2
      rw [h1] at h2
      simp only [Option.some.injEq, Obj.map.injEq] at h2
      exact Or.inr ⟨h2.1.symm, h2.2.symm⟩
    · rfl
  have hold : ∀ x ∈ p, (fun b => decide (b < W.heap.size)) x.block = true := fun x hx => by simpa using hlt x (by simpa using hx)
  refine ⟨_, rfl, ds, [], p ++ [], [], p, [], hW', hrs _ _ _, hargs _ hold, hvs _, World.keptBut_mono (fun _ h => h.elim) hkept, fun _ => ?_⟩
  refine ⟨hok, _, _, ([] ++ p) ++ [], ⟨[] ++ p, [], trodAll_append (hargs _ (fun _ _ => rfl)) (hrs _ _ _), hvs _, rfl, ?_, ?_⟩, ?_⟩
  · intro b off hp
    have hp' : MemPlace.cell b off ∈ p ++ [] := by simpa using hp
    have h1 := hfz b off hp'
    have h2 : b < W.heap.size := hlt _ hp'
    unfold World.frozen? at h1 ⊢
    simp only at h1 ⊢
    rw [hblk b h2]
    exact h1
  · intro ha
    simpa using hnd ha
  · intro x hx _
    simpa using hx

/-- A slice of integers, read as a list. -/
theorem rel_ints {H : Type} {enc : TypeId × Value → H} {P : Program} {W : World} {t e : TypeId} {base : Nat} {v : Value} {d : DataW H} {ps : List MemPlace} (ht : P.underlying t = some (.slice e)) (he : P.underlying e = some (.int .i64)) (hc : P.cellsOf e = 1)
    (hval : Value.okWide P W .any base t v) (h : DataW.Trod enc P W 0 (fun _ => true) true t v d ps) : ∃ xs : List Int, xs.length ≤ 9223372036854775807 ∧ Rel W (gAll W) v (.list (xs.map (D.int .i64))) := by
  obtain ⟨a0, l0, c0, rfl⟩ := okWide_slice ht hval
  obtain ⟨fuel, hf⟩ := h
  rcases open_ints ht he hc hf with ⟨hcs, hx⟩ | ⟨a, len, cap, zs, hcs, hb, hl, hm, hz, hx, hcell, hwz⟩
  · have : (Value.slice a0 l0 c0) = .slice none 0 0 := by simpa [Value.cells] using hcs
    rw [this]
    exact ⟨[], by simp, .nil _ _⟩
  · have : (Value.slice a0 l0 c0) = .slice (some a) len cap := by simpa [Value.cells] using hcs
    rw [this]
    simp only [if_true] at hz
    have hfl : flat ((zs.take len).map (D.int .i64)) = (zs.take len).map (D.int .i64) := by
      generalize zs.take len = l
      induction l with
      | nil => rfl
      | cons x xs ih => show _ :: flat (xs.map (D.int .i64)) = _; rw [ih]; rfl
    refine ⟨zs.take len, by simp only [maxLen] at hm; simp; omega, .list _ _ _ _ _ 1 (fun q => .int .i64 (zs.getD q 0)) (by simp; omega) (fun x hx => by obtain ⟨y, _, rfl⟩ := List.mem_map.1 hx; rfl) (fun q hq => ?_) (fun q dd hd => ?_)⟩
    · rw [hfl] at hq
      have hq' : q < len ∧ q < zs.length := by simp at hq; omega
      have hcq := hcell q hq'.2
      exact ⟨a, rfl, hcq, by show (W.cell? _).isSome = true; rw [hcq]; rfl, rfl⟩
    · rw [hfl] at hd
      simp only [List.getElem?_map, Option.map_eq_some_iff] at hd
      obtain ⟨y, hy, rfl⟩ := hd
      have hy' : zs.getD q 0 = y := by
        rw [List.getElem?_take] at hy
        split at hy
        · rw [List.getD_eq_getElem?_getD, hy]; rfl
        · cases hy
      rw [hy']
      exact .int _ _ _
theorem rel_int {H : Type} {enc : TypeId × Value → H} {P : Program} {W : World} {t : TypeId} {base : Nat} {v : Value} {d : DataW H} {ps : List MemPlace} (ht : P.underlying t = some (.int .i64))
    (hval : Value.okWide P W .any base t v) (h : DataW.Trod enc P W 0 (fun _ => true) true t v d ps) : ∃ n : Int, (Lit.int .i64 n).wf = true ∧ Rel W (gAll W) v (.int .i64 n) := by
  obtain ⟨n, rfl, _, _, hw⟩ := open_int ht hval h
  exact ⟨n, hw, .int _ _ _⟩
end Go.Ab
