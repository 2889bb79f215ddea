import Derived.Test.YtdbiiegohemahaaGreatDoorSg
import Derived.Test.YtdbiiegohemahaaGreatDoorRows
import Derived.Test.YtdbiiegohemahaaGreatDoorTie
import Derived.ProofKit
import Derived.ReadAgain
import Derived.Deep.Slices
import Derived.Deep.Strs
import Derived.LaidMore
import Derived.Lay
import Derived.OpenShut
import Derived.Stop.Joined
set_option linter.unusedVariables false
set_option linter.unusedSimpArgs false
namespace Go.Ab
open Go.RowKit Go.ChangeShapes Go.WideShapes Go.Deep

/-- Every cell that there is counts. -/
def gAll (W : World) : Gh := ⟨fun x => (W.cell? x).isSome = true, [], [], fun _ => none⟩
theorem good_all (W : World) : Go.Ab.Good W (gAll W).S := fun x hx => Option.isSome_iff_exists.1 hx

theorem trodAll_carry {H : Type} {enc : TypeId × Value → H} {P : Program} {W W' : World} {base : Nat} {sp : Nat → Bool} {hd : Bool} : ∀ {ts : List TypeId} {vs : List Value} {ds : List (DataW H)} {ps : List MemPlace},
    DataW.TrodAll enc P W base sp hd ts vs ds ps → (∀ p ∈ ps, W.sameAt W' p) → DataW.TrodAll enc P W' base sp hd ts vs ds ps
  | [], [], [], _, h, _ => h
  | _ :: _, _ :: _, _ :: _, _, ⟨p, q, ⟨n, hn⟩, h2, e⟩, hs =>
    ⟨p, q, ⟨n, DataW.trod_carry n _ _ _ hn (fun x hx => hs x (by rw [e]; exact List.mem_append_left _ hx))⟩, trodAll_carry h2 (fun x hx => hs x (by rw [e]; exact List.mem_append_right _ hx)), e⟩

/-- A law's row, out of its contract. -/
theorem calls_law {H : Type} {enc : TypeId × Value → H} {P : Program} {fid : FuncId} {fn : Func} {s : ChangeSpec} {W : World} {args : Array Value} {ds gs : List (DataW H)} {before : List MemPlace} {Ds : List D} {tb : TypeId}
    (hv : s.vars = []) (hres : fn.resultTypes = #[tb]) (htb : P.underlying tb = some .bool) (hfn : (s.fn H ds).results = [.lit (.bool true)] ∧ (s.fn H ds).args = ds ∧ (s.fn H ds).vars = [])
    (hlo : laidOutB P = true) (hmr : mapsRowed P = true) (hfull : ∀ t e, t < P.types.size → P.underlying t = some (.slice e) → 0 < P.cellsOf e) (hts : ∀ t ∈ fn.params.toList, t < P.types.size)
    (hT : Tab W) (hW : DataW.Whole enc P fn.params.toList s.vars false W args.toList ds gs before) (hC : CallsTo P fid Ds (.bool true)) (hn : args.toList.length = Ds.length)
    (hR : ∀ q x, Ds[q]? = some x → Rel W (gAll W) (args.toList.getD q Go.undef) x) :
    Calls P fid args W fun e W' => ∃ v, e = .returned v ∧ s.post enc P fn false true false false W args v W' := by
  have hW' := hW
  obtain ⟨p, q, hA, hV, rfl, hfz, hnd⟩ := hW
  rw [hv] at hV
  obtain ⟨rfl, rfl⟩ := trodVars_none hV
  have hcl := hC.2 (gAll W).S (fun _ => none) W args.toList hT (good_all W) (fun b f h => by cases h) hn hR
  rw [Array.toArray_toList] at hcl
  refine hcl.mono ?_
  rintro e W' ⟨v, S', M', rfl, hg, hgood, hrel⟩
  obtain rfl := hrel.asBool
  have hblk : ∀ k, k < W.heap.size → W'.heap[k]? = W.heap[k]? := fun k hk => hg.below.at k hk rfl
  have hlt : ∀ x ∈ p ++ [], x.block < W.heap.size := fun x hx => hW'.lt x hx
  have hsame : ∀ x ∈ p, W.sameAt W' x := fun x hx => by
    have h1 := hlt x (by simpa using hx)
    cases x with
    | cell b off => exact World.cell?_of_block (hblk b h1)
    | map b => exact hblk b h1
  have hargs : ∀ sp : Nat → Bool, (∀ x ∈ p, sp x.block = true) → DataW.TrodAll enc P W' 0 sp true fn.params.toList args.toList (s.fn H (ds ++ [])).args p := fun sp hs => by
    rw [List.append_nil, hfn.2.1]
    exact trodAll_carry (DataW.TrodAll.respare (T := fun t => t < P.types.size) (kids_rows hlo hmr) hfull hts hA hs) hsame
  have hrs : ∀ (b : Nat) (sp : Nat → Bool) (hd : Bool), DataW.TrodAll enc P W' b sp hd fn.resultTypes.toList ((Value.bool true).resultList fn.resultTypes.size) (s.fn H (ds ++ [])).results [] := fun b sp hd => by
    rw [List.append_nil, hfn.1, hres]
    exact trodAll_mk1 (shut_bool htb true)
  have hvs : ∀ sp : Nat → Bool, DataW.TrodVars enc P W' sp s.vars (s.fn H (ds ++ [])).vars [] := fun sp => by
    rw [List.append_nil, hfn.2.2, hv]; rfl
  have hok : ∀ (j : Nat) (t : TypeId) (r : Value), fn.resultTypes[j]? = some t → ((Value.bool true).resultList fn.resultTypes.size)[j]? = some r → Value.okWide P W' .any 0 t r := ok_one hres rfl (okWide_bool_mk htb true)
  have hkept : W.keptBut W' (fun _ => False) := by
    refine ⟨hg.below.os, hg.below.output, fun i hi => ?_⟩
    rw [hblk i hi]
    split
    · rename_i h1 h2
      rw [h1] at h2
      simp only [Option.some.injEq, Obj.cells.injEq] at h2
      obtain ⟨rfl, rfl, rfl⟩ := h2
      exact ⟨rfl, rfl, rfl, fun _ _ => rfl⟩
    · rename_i h1 h2
      rw [h1] at h2
      simp only [Option.some.injEq, Obj.map.injEq] at h2
      exact Or.inr ⟨h2.1.symm, h2.2.symm⟩
    · rfl
  have hold : ∀ x ∈ p, (fun b => decide (b < W.heap.size)) x.block = true := fun x hx => by simpa using hlt x (by simpa using hx)
  refine ⟨_, rfl, ds, [], p ++ [], [], p, [], hW', hrs _ _ _, hargs _ hold, hvs _, World.keptBut_mono (fun _ h => h.elim) hkept, fun _ => ?_⟩
  refine ⟨hok, _, _, ([] ++ p) ++ [], ⟨[] ++ p, [], trodAll_append (hargs _ (fun _ _ => rfl)) (hrs _ _ _), hvs _, rfl, ?_, ?_⟩, ?_⟩
  · intro b off hp
    have hp' : MemPlace.cell b off ∈ p ++ [] := by simpa using hp
    have h1 := hfz b off hp'
    have h2 : b < W.heap.size := hlt _ hp'
    unfold World.frozen? at h1 ⊢
    simp only at h1 ⊢
    rw [hblk b h2]
    exact h1
  · intro ha
    simpa using hnd ha
  · intro x hx _
    simpa using hx


section
variable {H : Type} {enc : TypeId × Value → H} {P : Program} {W : World}
/-- Every value of this type is so many cells, which read as something that Q holds of. -/
def ReadsN (enc : TypeId × Value → H) (P : Program) (W : World) (t : TypeId) (n : Nat) (Q : List D → Prop) : Prop :=
  ∀ (fuel : Nat) (cs : List Value) (x : DataW H × List MemPlace), DataW.trod enc P W 0 (fun _ => true) true fuel t cs = some x →
    cs.length = n ∧ ∃ ds : List D, ds.length = n ∧ Q ds ∧ ∀ (q : Nat) (d : D), ds[q]? = some d → d.cells = [d] ∧ (cs.getD q Go.undef).oneCell' = true ∧ Rel W (gAll W) (cs.getD q Go.undef) d
theorem readsN_int {t : TypeId} (ht : P.underlying t = some (.int .i64)) : ReadsN enc P W t 1 (fun ds => ∃ n : Int, ds = [.int .i64 n]) := by
  intro fuel cs x h
  obtain ⟨n, rfl, _, _⟩ := DataW.trod_int ht h
  refine ⟨rfl, [.int .i64 n], rfl, ⟨n, rfl⟩, fun q d hd => ?_⟩
  match q, hd with
  | 0, hd => cases hd; exact ⟨rfl, rfl, .int _ _ _⟩
  | q + 1, hd => simp at hd
theorem readsN_bool {t : TypeId} (ht : P.underlying t = some .bool) : ReadsN enc P W t 1 (fun ds => ∃ b : Bool, ds = [.bool b]) := by
  intro fuel cs x h
  cases fuel with
  | zero => simp [DataW.trod] at h
  | succ n =>
    unfold DataW.trod at h
    rw [ht] at h
    split at h <;> simp_all
    rename_i b
    refine ⟨[.bool b], rfl, by cases b <;> simp, fun q d hd => ?_⟩
    match q, hd with
    | 0, hd => cases hd; exact ⟨rfl, rfl, .bool _ _⟩
    | q + 1, hd => simp at hd
/-- Fields, one behind the other. -/
inductive FR (enc : TypeId × Value → H) (P : Program) (W : World) : Nat → List Field → Nat → (List D → Prop) → Prop
  | nil (k : Nat) : FR enc P W k [] k (fun ds => ds = [])
  | cons (k n m : Nat) (f : Field) (fs : List Field) (Q R : List D → Prop) (ho : f.offset = k) (hc : P.cellsOf f.type = n) (h : ReadsN enc P W f.type n Q) (hr : FR enc P W (k + n) fs m R) :
      FR enc P W k (f :: fs) m (fun ds => ∃ a b, Q a ∧ R b ∧ ds = a ++ b)
theorem FR.le {k m : Nat} {fs : List Field} {Q : List D → Prop} (h : FR enc P W k fs m Q) : k ≤ m := by
  induction h with
  | nil k => exact Nat.le_refl _
  | cons k n m f fs Q R ho hc h hr ih => omega
theorem FR.read {k m : Nat} {fs : List Field} {Q : List D → Prop} (h : FR enc P W k fs m Q) : ∀ (fuel : Nat) (cs : List Value), cs.length = m → (∀ f ∈ fs, ∃ x, DataW.trod enc P W 0 (fun _ => true) true fuel f.type ((cs.drop f.offset).take (P.cellsOf f.type)) = some x) →
    ∃ ds : List D, ds.length + k = m ∧ Q ds ∧ ∀ (q : Nat) (d : D), ds[q]? = some d → d.cells = [d] ∧ (cs.getD (k + q) Go.undef).oneCell' = true ∧ Rel W (gAll W) (cs.getD (k + q) Go.undef) d := by
  induction h with
  | nil k => intro fuel cs _ _; exact ⟨[], by simp, rfl, fun q d hd => by simp at hd⟩
  | cons k n m f fs Q R ho hc h hr ih =>
    intro fuel cs hl hf
    obtain ⟨x, hx⟩ := hf f (List.mem_cons_self ..)
    obtain ⟨l1, a, l2, hQ, hrel⟩ := h _ _ _ hx
    obtain ⟨b, l3, hR, hrel2⟩ := ih fuel cs hl (fun g hg => hf g (List.mem_cons_of_mem _ hg))
    rw [ho, hc] at hrel
    refine ⟨a ++ b, by simp; omega, ⟨a, b, hQ, hR, rfl⟩, fun q d hd => ?_⟩
    rcases Nat.lt_or_ge q a.length with hq | hq
    · rw [List.getElem?_append_left hq] at hd
      have := hrel q d hd
      have e : ((cs.drop k).take n).getD q Go.undef = cs.getD (k + q) Go.undef := by
        simp only [List.getD_eq_getElem?_getD, List.getElem?_take, List.getElem?_drop]
        rw [if_pos (by omega)]
      rw [e] at this; exact this
    · rw [List.getElem?_append_right hq] at hd
      have := hrel2 _ d hd
      rw [show k + n + (q - a.length) = k + q by omega] at this
      exact this
theorem readsN_struct {t : TypeId} {fs : Array Field} {m : Nat} {Q : List D → Prop} (ht : P.underlying t = some (.struct fs)) (hc : P.cellsOf t = m) (h : FR enc P W 0 fs.toList m Q) : ReadsN enc P W t m Q := by
  intro fuel cs x hx
  obtain ⟨xs, n, rfl, _, hl, hs, hf⟩ := DataW.trod_struct ht hx
  have hlm : cs.length = m := hl.trans hc
  obtain ⟨ds, h1, h2, h3⟩ := h.read n cs hlm (fun f hm => by
    obtain ⟨i, hi, rfl⟩ := List.getElem_of_mem hm
    have hi' : i < fs.size := by simpa using hi
    have := hf i fs[i] (by simp [hi'])
    rw [List.getElem?_eq_getElem (by omega)] at this
    exact ⟨_, by simpa using this⟩)
  exact ⟨hlm, ds, by omega, h2, fun q d hd => by have := h3 q d hd; rw [Nat.zero_add] at this; exact this⟩
theorem mapM_range {α : Type} {f : Nat → Option α} : ∀ {n : Nat} {l : List α}, (List.range n).mapM f = some l → l.length = n ∧ ∀ i, i < n → f i = l[i]? := by
  intro n l h
  refine ⟨by simpa using Lib.mapM_length h, fun i hi => ?_⟩
  obtain ⟨b, hb, hf⟩ := Lib.mapM_at h i i (by simp [hi])
  rw [hb, hf]
theorem flat_get {n : Nat} : ∀ {xs : List D}, (∀ x ∈ xs, x.cells.length = n) → 0 < n → ∀ {q : Nat} {d : D}, (flat xs)[q]? = some d → ∃ x, xs[q / n]? = some x ∧ x.cells[q % n]? = some d := by
  intro xs hx hn q d hd
  have hl := flat_length n xs hx
  have hq := (List.getElem?_eq_some_iff.1 hd).1
  rw [hl] at hq
  have hi : q / n < xs.length := Nat.div_lt_of_lt_mul (by rw [Nat.mul_comm]; exact hq)
  have := flat_at n xs (q / n) xs[q / n] hx (List.getElem?_eq_getElem hi) (q % n) (Nat.mod_lt _ hn)
  rw [show q / n * n + q % n = q by rw [Nat.mul_comm]; exact Nat.div_add_mod q n] at this
  exact ⟨_, List.getElem?_eq_getElem hi, by rw [← this]; exact hd⟩
theorem add_add_addr (a : Addr) (i j : Nat) : (a.add i).add j = a.add (i + j) := by
  by_cases hi : i = 0 <;> by_cases hj : j = 0 <;> simp [Addr.add, hi, hj, Nat.add_assoc]
theorem readsN_list {t e : TypeId} {n : Nat} {α : Type} [Inhabited α] {f : α → D} {Q : List D → Prop} (ht : P.underlying t = some (.slice e)) (hn : P.cellsOf e = n) (hn0 : 0 < n) (he : ReadsN enc P W e n Q) (hQ : ∀ ds, Q ds → ds.length = n → ∃ a, (f a).cells = ds) :
    ReadsN enc P W t 1 (fun ds => ∃ xs : List α, ds = [.list (xs.map f)] ∧ xs.length ≤ 9223372036854775807) := by
  intro fuel cs x h
  rcases open_slice ht h with ⟨rfl, hx⟩ | ⟨a, len, cap, m, k, DD, Pl, rfl, hb, hl, hm, hmm, hx, hcell⟩
  · refine ⟨rfl, [.list []], rfl, ⟨[], rfl, by simp⟩, fun q d hd => ?_⟩
    match q, hd with
    | 0, hd => cases hd; exact ⟨rfl, rfl, .nil _ _⟩
    | q + 1, hd => simp at hd
  · simp only [if_true] at hmm
    subst hmm
    have each : ∀ i, i < len → ∃ y : α, (f y).cells.length = n ∧ ∀ j d, (f y).cells[j]? = some d → ∃ v, W.cell? (a.add (i * n + j)) = some v ∧ d.cells = [d] ∧ v.oneCell' = true ∧ Rel W (gAll W) v d := fun i hi => by
      obtain ⟨cs', h1, h2⟩ := hcell i (by omega)
      rw [hn] at h1
      unfold World.cells? at h1
      rw [if_pos (Nat.zero_le _)] at h1
      obtain ⟨g1, g2⟩ := mapM_range h1
      obtain ⟨l1, ds, l2, hq, hrel⟩ := he _ _ _ h2
      obtain ⟨y, hy⟩ := hQ ds hq l2
      refine ⟨y, by rw [hy, l2], fun j d hd => ?_⟩
      rw [hy] at hd
      have hj : j < n := by have := (List.getElem?_eq_some_iff.1 hd).1; omega
      obtain ⟨r1, r2, r3⟩ := hrel j d hd
      have hc := g2 j hj
      rw [List.getElem?_eq_getElem (by omega), add_add_addr] at hc
      rw [List.getD_eq_getElem?_getD, List.getElem?_eq_getElem (by omega), Option.getD_some] at r2 r3
      exact ⟨_, hc, r1, r2, r3⟩
    obtain ⟨y, hy⟩ := choose_lt each
    have hxs : ∀ x ∈ (((List.range len).map y).map f), x.cells.length = n := fun x hx => by
      obtain ⟨z, hz, rfl⟩ := List.mem_map.1 hx
      obtain ⟨i, hi, rfl⟩ := List.mem_map.1 hz
      exact (hy i (List.mem_range.1 hi)).1
    have hlen : (((List.range len).map y).map f).length = len := by simp
    have hfl := flat_length n _ hxs
    rw [hlen] at hfl
    have key : ∀ (q : Nat) (d : D), (flat (((List.range len).map y).map f))[q]? = some d → ∃ v, W.cell? (a.add q) = some v ∧ d.cells = [d] ∧ v.oneCell' = true ∧ Rel W (gAll W) v d := fun q d hd => by
      obtain ⟨x, h1, h2⟩ := flat_get hxs hn0 hd
      have hi : q / n < len := by have := (List.getElem?_eq_some_iff.1 h1).1; omega
      simp only [List.getElem?_map, List.getElem?_range hi, Option.map_some, Option.some.injEq] at h1
      subst h1
      have := (hy (q / n) hi).2 (q % n) d h2
      rw [show q / n * n + q % n = q by rw [Nat.mul_comm]; exact Nat.div_add_mod q n] at this
      exact this
    refine ⟨rfl, [.list (((List.range len).map y).map f)], rfl, ⟨_, rfl, by simp only [maxLen] at hm; simp; omega⟩, fun q d hd => ?_⟩
    match q, hd with
    | q + 1, hd => simp at hd
    | 0, hd =>
    cases hd
    refine ⟨rfl, rfl, .list _ _ _ _ _ n (fun q => (W.cell? (a.add q)).getD Go.undef) hlen.symm hxs hl (fun q hq => ?_) (fun q d hd => ?_)⟩
    · obtain ⟨v, h1, _, h3, _⟩ := key q _ (List.getElem?_eq_getElem hq)
      exact ⟨a, rfl, by rw [h1]; rfl, by show (W.cell? _).isSome = true; rw [h1]; rfl, by rw [h1]; exact h3⟩
    · obtain ⟨v, h1, _, _, h4⟩ := key q d hd
      show Rel W _ ((W.cell? (a.add q)).getD Go.undef) d
      rw [h1]; exact h4
/-- An argument that is a struct. -/
theorem relN_struct {t : TypeId} {fs : Array Field} {m : Nat} {Q : List D → Prop} {base : Nat} {v : Value} {d : DataW H} {ps : List MemPlace} (hr : ReadsN enc P W t m Q) (ht : P.underlying t = some (.struct fs))
    (hval : Value.okWide P W .any base t v) (h : DataW.Trod enc P W 0 (fun _ => true) true t v d ps) : ∃ ds, Q ds ∧ Rel W (gAll W) v (.agg ds) := by
  obtain ⟨vs, rfl, _⟩ := okWide_struct ht hval
  obtain ⟨fuel, hf⟩ := h
  obtain ⟨l1, ds, l2, hq, hrel⟩ := hr _ _ _ hf
  have hvs : (Value.agg vs).cells.toList = vs.toList := rfl
  rw [hvs] at l1 hrel
  have e : ∀ q, vs.toList.getD q Go.undef = vs.getD q Go.undef := fun q => by
    rw [List.getD_eq_getElem?_getD, Array.getD_eq_getD_getElem?, Array.getElem?_toList]
  refine ⟨ds, hq, .agg _ _ _ (by rw [← Array.length_toList]; omega) (fun q hq => ?_) (fun q d hd => ?_)⟩
  · have := (hrel q ds[q] (List.getElem?_eq_getElem hq)).2.1
    rw [e] at this; exact this
  · have := (hrel q d hd).2.2
    rw [e] at this; exact this
/-- An argument of one cell. -/
theorem relN_one {t : TypeId} {v : Value} {d : DataW H} {ps : List MemPlace} {Q : List D → Prop} (hr : ReadsN enc P W t 1 Q) (hv : v.cells.toList = [v]) (h : DataW.Trod enc P W 0 (fun _ => true) true t v d ps) : ∃ x, Q [x] ∧ Rel W (gAll W) v x := by
  obtain ⟨fuel, hf⟩ := h
  obtain ⟨l1, ds, l2, hq, hrel⟩ := hr _ _ _ hf
  match ds, l2 with
  | [x], _ =>
    have := (hrel 0 x rfl).2.2
    rw [hv] at this
    exact ⟨x, hq, this⟩
end
end Go.Ab
set_option maxRecDepth 100000
namespace Go.Proofs.YtdbiiegohemahaaGreatDoor
open Go.ChangeShapes Go.WideShapes Go.ChangeAt Go.RowKit Go.Ab
theorem own : ownKnob Tryz.prog.godebug = none := by kernel_rfl
theorem laid_ok : laidOutB Tryz.prog = true := by kernel_rfl
theorem maps_ok : mapsRowed Tryz.prog = true := by kernel_rfl
theorem full_ok : ∀ t e, t < Tryz.prog.types.size → Tryz.prog.underlying t = some (.slice e) → 0 < Tryz.prog.cellsOf e := slices_full_of Tryz.prog (by kernel_rfl)
abbrev laid5 : List (String × DataW Unit) := [("math/bits.deBruijn32tab", Rows.laid_math_bits_deBruijn32tab), ("math/bits.deBruijn64tab", Rows.laid_math_bits_deBruijn64tab), ("internal/strconv.uint64pow10", Rows.laid_internal_strconv_uint64pow10), ("unicode/utf8.acceptRanges", Rows.laid_unicode_utf8_acceptRanges), ("unicode/utf8.first", Rows.laid_unicode_utf8_first)]
section
variable {H : Type} {enc : TypeId × Value → H} {W : World}
theorem rd_span : ReadsN enc Tryz.prog W 38 2 (fun ds => ∃ a b : Int, ds = [i64 a, i64 b]) := by
  intro fuel cs x h
  have := readsN_struct (enc := enc) (W := W) (P := Tryz.prog) (t := 38) (m := 2) Tryz.underlying38 (by kernel_rfl) (.cons 0 1 2 _ _ _ _ rfl (by kernel_rfl) (readsN_int Tryz.underlying3) (.cons 1 1 2 _ _ _ _ rfl (by kernel_rfl) (readsN_int Tryz.underlying3) (.nil 2))) fuel cs x h
  obtain ⟨l1, ds, l2, ⟨a, b, ⟨n, rfl⟩, ⟨c, d, ⟨k, rfl⟩, rfl, rfl⟩, rfl⟩, h3⟩ := this
  exact ⟨l1, _, l2, ⟨n, k, rfl⟩, h3⟩
theorem rd_int : ReadsN enc Tryz.prog W 3 1 (fun ds => ∃ n : Int, ds = [i64 n]) := readsN_int Tryz.underlying3
theorem rd_rd : ReadsN enc Tryz.prog W 53 10 (fun ds => ∃ r : Rdg, ds = [i64 r.day, i64 r.min, i64 r.clk, i64 r.mer, i64 r.al, i64 r.ah, i64 r.dl, i64 r.dh, i64 r.wl, i64 r.wh]) := by
  intro fuel cs x h
  have rd_clk : ReadsN enc Tryz.prog W 51 1 (fun ds => ∃ n : Int, ds = [i64 n]) := readsN_int Tryz.underlying51
  have := readsN_struct (enc := enc) (W := W) (P := Tryz.prog) (t := 53) (m := 10) Tryz.underlying53 (by kernel_rfl) (.cons 0 1 10 _ _ _ _ rfl (by kernel_rfl) rd_int (.cons 1 1 10 _ _ _ _ rfl (by kernel_rfl) rd_int (.cons 2 1 10 _ _ _ _ rfl (by kernel_rfl) rd_clk
    (.cons 3 1 10 _ _ _ _ rfl (by kernel_rfl) rd_int (.cons 4 2 10 _ _ _ _ rfl (by kernel_rfl) rd_span (.cons 6 2 10 _ _ _ _ rfl (by kernel_rfl) rd_span (.cons 8 2 10 _ _ _ _ rfl (by kernel_rfl) rd_span (.nil 10)))))))) fuel cs x h
  obtain ⟨l1, ds, l2, ⟨_, _, ⟨a, rfl⟩, ⟨_, _, ⟨b, rfl⟩, ⟨_, _, ⟨c, rfl⟩, ⟨_, _, ⟨d, rfl⟩, ⟨_, _, ⟨e, f, rfl⟩, ⟨_, _, ⟨g, k, rfl⟩, ⟨_, _, ⟨l, m, rfl⟩, rfl, rfl⟩, rfl⟩, rfl⟩, rfl⟩, rfl⟩, rfl⟩, rfl⟩, h3⟩ := this
  exact ⟨l1, _, l2, ⟨⟨a, b, c, d, e, f, g, k, l, m⟩, rfl⟩, h3⟩
theorem rd_rds : ReadsN enc Tryz.prog W 22 1 (fun ds => ∃ l : List Rdg, ds = [.list (l.map rdD)] ∧ l.length ≤ 9223372036854775807) :=
  readsN_list Tryz.underlying22 (by kernel_rfl) (by decide) rd_rd (fun ds ⟨c, h⟩ _ => ⟨c, h.symm⟩)
theorem arg_rds {base : Nat} {v : Value} {d : DataW H} {ps : List MemPlace} (hval : Value.okWide Tryz.prog W .any base 22 v) (h : DataW.Trod enc Tryz.prog W 0 (fun _ => true) true 22 v d ps) : ∃ l : List Rdg, l.length ≤ 9223372036854775807 ∧ Rel W (gAll W) v (.list (l.map rdD)) := by
  obtain ⟨a0, l0, c0, rfl⟩ := okWide_slice Tryz.underlying22 hval
  obtain ⟨x, ⟨l, hx, hl⟩, hr⟩ := relN_one rd_rds rfl h
  cases hx
  exact ⟨l, hl, hr⟩
theorem arg_int {base : Nat} {v : Value} {d : DataW H} {ps : List MemPlace} (hval : Value.okWide Tryz.prog W .any base 3 v) (h : DataW.Trod enc Tryz.prog W 0 (fun _ => true) true 3 v d ps) : ∃ n : Int, Rel W (gAll W) v (i64 n) := by
  obtain ⟨n, rfl, _⟩ := open_int Tryz.underlying3 hval h
  exact ⟨n, .int _ _ _⟩
theorem all_met (os : Os) (args : Array Value) : laidMetH Tryz.prog laid5 ((World.laidAll Tryz.prog os laid5).forCall (fun _ _ => 0) ⟨#[], args, []⟩).memory := by
  rw [MakeChecks.laidMetH_plain _ _ _ (by kernel_rfl)]; exact laidMet_laidAll _ (by kernel_rfl) (by kernel_rfl)
theorem tab_of_laid {W : World} (h : laidMetH Tryz.prog laid5 W) : Tab W := by
  rw [MakeChecks.laidMetH_plain _ _ _ (by kernel_rfl)] at h
  obtain ⟨ps, ⟨g0, t0, cs0, f0, p0, q0, hg0, ht0, hv0, hd0, ⟨g1, t1, cs1, f1, p1, q1, hg1, ht1, hv1, hd1, ⟨g2, t2, cs2, f2, p2, q2, hg2, ht2, hv2, hd2, _, _⟩, _⟩, _⟩, _, _⟩ := h
  have gN : Tryz.prog.globalNamed "internal/strconv.uint64pow10" = some 1 := by kernel_rfl
  obtain rfl := Option.some.inj (gN.symm.trans hg2)
  have hT : ∃ t n e, (Tryz.prog.globals[1]?).map (·.type) = some t ∧ Tryz.prog.underlying t = some (.array n e) ∧ Tryz.prog.underlying e = some (.int .u64) ∧ Tryz.prog.cellsOf e = 1 ∧ Tryz.prog.cellsOf t = n := ⟨155, 20, 144, by kernel_rfl, by kernel_rfl, by kernel_rfl, by kernel_rfl, by kernel_rfl⟩
  obtain ⟨t, n, e, a1, a2, a3, a4, a5⟩ := hT
  obtain rfl := Option.some.inj (a1.symm.trans ht2)
  have hcs := Lib.cells_of_tab (zs := Lib.pow10Tab) a2 a3 a4 a5 hd2
  intro b vs hv
  unfold tabOf at hv
  split at hv
  · cases hv
    unfold World.var? at hv2
    rw [gN] at hv2
    simp only [Option.bind_some] at hv2
    split at hv2
    · rename_i cs tt fz hh
      cases hv2
      refine ⟨tt, fz, ?_⟩
      rw [hh, ← hcs]
    · cases hv2
  · cases hv
end
end Go.Proofs.YtdbiiegohemahaaGreatDoor
