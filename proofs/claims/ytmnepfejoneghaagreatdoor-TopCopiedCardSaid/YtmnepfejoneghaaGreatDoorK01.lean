import Derived.Laws.BytesArg
import Derived.WalkKit
import Derived.MapKept
import Derived.RangeFuncNested
import Derived.RangeFuncLeaves
import Derived.LoopNIn
import Derived.OrdersIn
import Derived.TacticsIn
import Derived.Maps.AppendAt
import Derived.Deep.AppendLies
import Derived.Laws.OwnMore
import Derived.Lib.LaidTab
import Derived.Lib.ItoaNum
set_option linter.unusedVariables false
set_option linter.unusedSimpArgs false
section
/-
  A plain layer over the walk: values as data (D), the relation of a value in a world to its data (Rel), and how it is kept.
-/
namespace Go.Ab
open Go.RowKit
/-- Blocks that hold a table, which nothing turns. -/
def tabOf : Nat → Option (Array Value)
  | 1 => some (Lib.pow10Tab.map fun z => Value.int .u64 z).toArray
  | _ => none
def Tab (w : World) : Prop := ∀ b vs, tabOf b = some vs → ∃ t fz, w.heap[b]? = some (.cells vs t fz)
/-- A map that remembers: at the key that these numbers are, what those are. -/
inductive VK where | num | arr | yes
  deriving Inhabited, DecidableEq
structure Memo where
  ka : Bool
  va : VK
  n : Nat
  f : List Int → List Int
  dom : List (List Int)
  deriving Inhabited
inductive D where
  | undef
  | int (k : IntKind) (n : Int)
  | bool (b : Bool)
  | str (s : ByteArray)
  | list (xs : List D)
  | agg (cs : List D)
  | tup (ds : List D)
  | box (i off : Nat)
  | ro (cs : List D)
  | own (r : Nat)
  | clo (f : FuncId) (cs : List D)
  | val (v : Value)
  | memo (f : Memo)
  | bsl (i off n c : Nat)
  | mth (f : FuncId) (cs : List D)
  | skp
  deriving Inhabited
def D.cells : D → List D
  | .agg cs => cs
  | d => [d]
def flat (xs : List D) : List D := xs.flatMap D.cells
/-- Maps that hold nothing but what a function says: which blocks, which function. -/
abbrev MM := Nat → Option Memo
structure Gh where
  S : Addr → Prop
  β : List Nat
  ρ : List Value
  M : MM
def Gh.er (g : Gh) : Gh := ⟨g.S, [], [], g.M⟩
inductive Rel (w : World) : Gh → Value → D → Prop
  | undef (g : Gh) (v : Value) : Rel w g v .undef
  | int (g : Gh) (k : IntKind) (n : Int) : Rel w g (.int k n) (.int k n)
  | bool (g : Gh) (b : Bool) : Rel w g (.bool b) (.bool b)
  | str (g : Gh) (s : ByteArray) : Rel w g (.string s) (.str s)
  | val (g : Gh) (v : Value) : Rel w g v (.val v)
  | list (g : Gh) (A : Option Addr) (n c : Nat) (xs : List D) (sz : Nat) (u : Nat → Value) (hn : n = xs.length) (hsz : ∀ x ∈ xs, x.cells.length = sz) (hc : n ≤ c)
      (hm : ∀ q, q < (flat xs).length → ∃ ad, A = some ad ∧ w.cell? (ad.add q) = some (u q) ∧ g.S (ad.add q) ∧ (u q).oneCell' = true)
      (hr : ∀ q d, (flat xs)[q]? = some d → Rel w g.er (u q) d) : Rel w g (.slice A n c) (.list xs)
  | agg (g : Gh) (vs : Array Value) (cs : List D) (hl : vs.size = cs.length) (h1 : ∀ q, q < cs.length → (vs.getD q undef).oneCell' = true)
      (hr : ∀ q d, cs[q]? = some d → Rel w g (vs.getD q undef) d) : Rel w g (.agg vs) (.agg cs)
  | tup (g : Gh) (vs : Array Value) (ds : List D) (hl : vs.size = ds.length)
      (hr : ∀ q d, ds[q]? = some d → Rel w g (vs.getD q undef) d) : Rel w g (.tuple vs) (.tup ds)
  | box (g : Gh) (i off b : Nat) (hb : g.β[i]? = some b) : Rel w g (.pointer (some ⟨b, off, none⟩)) (.box i off)
  | ro (g : Gh) (a : Addr) (cs : List D) (u : Nat → Value)
      (hm : ∀ q, q < cs.length → w.cell? (a.add q) = some (u q) ∧ g.S (a.add q) ∧ (u q).oneCell' = true)
      (hr : ∀ q d, cs[q]? = some d → Rel w g.er (u q) d) : Rel w g (.pointer (some a)) (.ro cs)
  | own (g : Gh) (r : Nat) (v : Value) (h : g.ρ[r]? = some v) : Rel w g v (.own r)
  | clo (g : Gh) (f : FuncId) (vs : Array Value) (cs : List D) (hl : vs.size = cs.length)
      (hr : ∀ q d, cs[q]? = some d → Rel w g (vs.getD q undef) d) : Rel w g (.func (.func f) #[] vs) (.clo f cs)
  | memo (g : Gh) (b : Nat) (f : Memo) (h : g.M b = some f) : Rel w g (.map (some b)) (.memo f)
  | skp (g : Gh) : Rel w g Go.undef .skp
  | bsl (g : Gh) (i off n c b : Nat) (hb : g.β[i]? = some b) : Rel w g (.slice (some ⟨b, off, none⟩) n c) (.bsl i off n c)
  | mth (g : Gh) (f : FuncId) (vs : Array Value) (cs : List D) (hl : vs.size = cs.length)
      (hr : ∀ q d, cs[q]? = some d → Rel w g (vs.getD q undef) d) : Rel w g (.func (.func f) vs #[]) (.mth f cs)
/-- What keeps a relation: the cells that count hold what they held; the names grow. -/
structure Keeps (w : World) (g : Gh) (w' : World) (g' : Gh) : Prop where
  cell : ∀ x, g.S x → w'.cell? x = w.cell? x
  S : ∀ x, g.S x → g'.S x
  β : ∀ (i b : Nat), g.β[i]? = some b → g'.β[i]? = some b
  ρ : ∀ (i : Nat) (b : Value), g.ρ[i]? = some b → g'.ρ[i]? = some b
  M : ∀ (b : Nat) (f : Memo), g.M b = some f → g'.M b = some f
theorem Keeps.refl (w : World) (g : Gh) : Keeps w g w g := ⟨fun _ _ => rfl, fun _ h => h, fun _ _ h => h, fun _ _ h => h, fun _ _ h => h⟩
theorem Keeps.er {w w' : World} {g g' : Gh} (h : Keeps w g w' g') : Keeps w g.er w' g'.er :=
  ⟨h.cell, h.S, fun _ _ h => h, fun _ _ h => h, h.M⟩
theorem Keeps.trans {w w1 w2 : World} {g g1 g2 : Gh} (h : Keeps w g w1 g1) (k : Keeps w1 g1 w2 g2) : Keeps w g w2 g2 :=
  ⟨fun x hx => (k.cell x (h.S x hx)).trans (h.cell x hx), fun x hx => k.S x (h.S x hx), fun i b hb => k.β i b (h.β i b hb), fun i b hb => k.ρ i b (h.ρ i b hb), fun b f hb => k.M b f (h.M b f hb)⟩
theorem Rel.keep {w w' : World} {g : Gh} {v : Value} {d : D} (h : Rel w g v d) : ∀ {g' : Gh}, Keeps w g w' g' → Rel w' g' v d := by
  induction h with
  | undef g v => intros; exact .undef _ _
  | int g k n => intros; exact .int _ _ _
  | bool g b => intros; exact .bool _ _
  | str g s => intros; exact .str _ _
  | val g v => intros; exact .val _ _
  | list g A n c xs sz u hn hsz hcap hm hr ih =>
    intro g' k
    refine .list _ A n c xs sz u hn hsz hcap (fun q hq => ?_) (fun q d hd => ih q d hd k.er)
    obtain ⟨ad, rfl, hc, hS, h1⟩ := hm q hq
    exact ⟨ad, rfl, (k.cell _ hS).trans hc, k.S _ hS, h1⟩
  | agg g vs cs hl h1 hr ih => intro g' k; exact .agg _ vs cs hl h1 (fun q d hd => ih q d hd k)
  | tup g vs ds hl hr ih => intro g' k; exact .tup _ vs ds hl (fun q d hd => ih q d hd k)
  | box g i off b hb => intro g' k; exact .box _ i off b (k.β _ _ hb)
  | ro g a cs u hm hr ih =>
    intro g' k
    refine .ro _ a cs u (fun q hq => ?_) (fun q d hd => ih q d hd k.er)
    obtain ⟨hc, hS, h1⟩ := hm q hq
    exact ⟨(k.cell _ hS).trans hc, k.S _ hS, h1⟩
  | own g r v h => intro g' k; exact .own _ r v (k.ρ _ _ h)
  | clo g f vs cs hl hr ih => intro g' k; exact .clo _ f vs cs hl (fun q d hd => ih q d hd k)
  | memo g b f h => intro g' k; exact .memo _ b f (k.M _ _ h)
  | bsl g i off n c b hb => intro g' k; exact .bsl _ i off n c b (k.β _ _ hb)
  | skp g => intros; exact .skp _
  | mth g f vs cs hl hr ih => intro g' k; exact .mth _ f vs cs hl (fun q d hd => ih q d hd k)
end Go.Ab
end
section
namespace Go.Ab
open Go.RowKit
structure Row where
  live : Bool
  e : TypeId
  sz : Nat
  xs : List D
  deriving Inhabited
inductive Bx where
  | dead
  | mu (cs : List D)
  | fz (cs : List D)
  deriving Inhabited
structure St where
  n : Nat
  sl : Nat → D
  bx : List Bx
  rw : List Row
/-- Slots: one more is laid. -/
def put (s : Nat → D) (n : Nat) (v : D) : Nat → D := fun m => if m = n then v else s m
def none' : Nat → D := fun _ => .undef
theorem put_same (s : Nat → D) (n : Nat) (v : D) : put s n v n = v := by simp [put]
theorem put_ne (s : Nat → D) (n m : Nat) (v : D) (h : (m == n) = false) : put s n v m = s m := by
  have : m ≠ n := by simpa using h
  simp [put, this]
structure Ctx where
  P : Program
  w0 : World
  S0 : Addr → Prop
  M0 : MM
  l : Option Nat
  own : Nat → Prop
  β0 : List Nat
/-- The fence: every function, any depth; a round's, or none. -/
def Ctx.F (c : Ctx) : Fence := { Fence.wide with round := c.l }
def mkV : Bool → List Int → Value
  | true, xs => .agg (xs.map (Value.int .i64)).toArray
  | false, xs => .int .i64 (xs.headD 0)
def mkD : Bool → List Int → D
  | true, xs => .agg (xs.map (D.int .i64))
  | false, xs => .int .i64 (xs.headD 0)
/-- Block b is a map that holds nothing but what f says. -/
def mkW : VK → List Int → Value
  | .arr, xs => mkV true xs
  | .num, xs => mkV false xs
  | .yes, xs => .bool (xs.headD 0 != 0)
def mkE : VK → List Int → D
  | .arr, xs => mkD true xs
  | .num, xs => mkD false xs
  | .yes, xs => .bool (xs.headD 0 != 0)
/-- Block b is a map that holds nothing but what f says, and these keys. -/
def memoOk (w : World) (b : Nat) (f : Memo) : Prop := ∃ es clock, w.heap[b]? = some (.map es clock) ∧ (∀ e ∈ es.toList, ∃ xs : List Int, xs.length = f.n ∧ e.key = mkV f.ka xs ∧ e.val = mkW f.va (f.f xs)) ∧ ∀ k ∈ f.dom, ∃ e ∈ es.toList, e.key = mkV f.ka k
def MOk (w : World) (M : MM) : Prop := ∀ b f, M b = some f → memoOk w b f
/-- 'Below', but for these maps. -/
structure BelowP (p : Nat → Prop) (B : Nat) (w w' : World) : Prop where
  os : w'.os = w.os
  tape : w'.tape = w.tape
  output : w'.output = w.output
  size : w.heap.size ≤ w'.heap.size
  block : ∀ k, k < B → ¬ p k → w'.heap[k]? = w.heap[k]?
abbrev BelowM (M : MM) : Nat → World → World → Prop := BelowP fun k => M k ≠ none
def Ctx.may (c : Ctx) : Nat → Prop := fun k => c.own k ∨ c.M0 k ≠ none
theorem BelowM.at {M : MM} {B : Nat} {w w' : World} (h : BelowM M B w w') (k : Nat) (hk : k < B) (hn : M k = none) : w'.heap[k]? = w.heap[k]? := h.block k hk (fun h => h hn)
theorem BelowP.of {p : Nat → Prop} {B : Nat} {w w' : World} (h : Below B w w') : BelowP p B w w' := ⟨h.os, h.tape, h.output, h.size, fun k hk _ => h.block k hk⟩
theorem BelowP.trans {p q : Nat → Prop} {B B' : Nat} {a b c : World} (h : BelowP p B a b) (k : BelowP q B' b c) (hB : B ≤ B') (hq : ∀ i, i < B → q i → p i) : BelowP p B a c :=
  ⟨k.os.trans h.os, k.tape.trans h.tape, k.output.trans h.output, Nat.le_trans h.size k.size, fun i hi hn => (k.block i (by omega) (fun h => hn (hq i hi h))).trans (h.block i hi hn)⟩
theorem cell_cells {w : World} {x : Addr} {u : Value} (h : w.cell? x = some u) : ∃ cs t fz, w.heap[x.block]? = some (.cells cs t fz) := by
  unfold World.cell? at h
  split at h
  · exact ⟨_, _, _, ‹_›⟩
  · cases h
theorem MOk.noCells {w : World} {M : MM} (h : MOk w M) {b : Nat} {cs : Array Value} {t : TypeId} {fz : Nat × Nat} (hb : w.heap[b]? = some (.cells cs t fz)) : M b = none := by
  cases hm : M b with
  | none => rfl
  | some f =>
    obtain ⟨es, cl, h1, _⟩ := h b f hm
    rw [hb] at h1; cases h1
theorem MOk.noDefs {w : World} {M : MM} (h : MOk w M) {b : Nat} {ds : Option (List Deferred)} (hb : w.heap[b]? = some (.deferred ds)) : M b = none := by
  cases hm : M b with
  | none => rfl
  | some f =>
    obtain ⟨es, cl, h1, _⟩ := h b f hm
    rw [hb] at h1; cases h1
/-- Marks of ranges over functions, of which none has deferred a call. -/
def DefOk (own : Nat → Prop) (w : World) (l : List Deferred) : Prop := l.Nodup ∧ ∀ d ∈ l, ∃ D, own D ∧ d = { target := .collected D, args := #[] } ∧ w.heap[D]? = some (.deferred (some []))
/-- What a piece of the walk does to the world: nothing that lay has turned, but for these maps. -/
structure Grow (w : World) (S : Addr → Prop) (M : MM) (w' : World) (S' : Addr → Prop) (M' : MM) : Prop where
  below : BelowM M w.heap.size w w'
  s1 : ∀ x, S x → S' x
  s2 : ∀ x, S' x → S x ∨ w.heap.size ≤ x.block
  m1 : ∀ b f, M b = some f → M' b = some f
  m2 : ∀ b f, M' b = some f → M b = some f ∨ w.heap.size ≤ b
  mok : MOk w' M'
/-- The tables lie here, and nothing of what may turn is one. -/
structure TabC (w0 : World) (may : Nat → Prop) : Prop where
  tb : Tab w0
  no : ∀ b vs, tabOf b = some vs → ¬ may b
theorem TabC.at {w0 w : World} {may : Nat → Prop} (h : TabC w0 may) (hb : BelowP may w0.heap.size w0 w) : Tab w := fun b vs hv => by
  obtain ⟨t, fz, e⟩ := h.tb b vs hv
  exact ⟨t, fz, (hb.block b (Array.getElem?_eq_some_iff.1 e).1 (h.no b vs hv)).trans e⟩
theorem Tab.noM {w : World} {M : MM} (h : Tab w) (hM : MOk w M) : ∀ b vs, tabOf b = some vs → M b = none := fun b vs hv => by
  obtain ⟨t, fz, e⟩ := h b vs hv
  exact hM.noCells e
theorem Tab.lt {w : World} (h : Tab w) : ∀ b vs, tabOf b = some vs → b < w.heap.size := fun b vs hv => by
  obtain ⟨t, fz, e⟩ := h b vs hv
  exact (Array.getElem?_eq_some_iff.1 e).1
theorem Tab.grow {w w' : World} {S S' : Addr → Prop} {M M' : MM} (h : Tab w) (hM : MOk w M) (hg : Grow w S M w' S' M') : Tab w' := fun b vs hv => by
  obtain ⟨t, fz, e⟩ := h b vs hv
  exact ⟨t, fz, (hg.below.at b (h.lt b vs hv) (h.noM hM b vs hv)).trans e⟩
theorem TabC.own {w0 w : World} {may own : Nat → Prop} {M : MM} (h : TabC w0 may) (hb : BelowP may w0.heap.size w0 w) (hM : MOk w M) (ho : ∀ b, own b → w.heap.size ≤ b ∨ may b) : TabC w (fun k => own k ∨ M k ≠ none) :=
  ⟨h.at hb, fun b vs hv hm => hm.elim (fun hm => (ho b hm).elim (fun hl => absurd ((h.at hb).lt b vs hv) (Nat.not_lt.2 hl)) (h.no b vs hv)) (fun hm => hm ((h.at hb).noM hM b vs hv))⟩
theorem Tab.fresh {w : World} {M : MM} (h : Tab w) (hM : MOk w M) : TabC w (fun k => w.heap.size ≤ k ∨ M k ≠ none) :=
  ⟨h, fun b vs hv hm => hm.elim (fun hl => absurd (h.lt b vs hv) (Nat.not_lt.2 hl)) (fun hm => hm (h.noM hM b vs hv))⟩
structure Ext (c : Ctx) (a : Act) (w : World) (g : Gh) : Prop where
  dok : DefOk c.own w a.defers
  mok : MOk w g.M
  m0 : ∀ b f, c.M0 b = some f → g.M b = some f
  mfrom : ∀ b f, g.M b = some f → c.M0 b = some f ∨ c.w0.heap.size ≤ b
  anc : ∀ (i b : Nat), c.β0[i]? = some b → g.β[i]? = some b
  kp0 : ∀ x, c.S0 x → w.cell? x = c.w0.cell? x
  tab : TabC c.w0 c.may
theorem Ext.keep {c : Ctx} {a : Act} {w w' : World} {g : Gh} (h : Ext c a w g) (hk : ∀ (k : Nat) (o : Obj), w.heap[k]? = some o → o.isCells = false → w'.heap[k]? = some o) (hs : ∀ x, c.S0 x → w'.cell? x = w.cell? x) : Ext c a w' g where
  dok := ⟨h.dok.1, fun d hd => by
    obtain ⟨D, hB, e, hD⟩ := h.dok.2 d hd
    exact ⟨D, hB, e, hk D _ hD rfl⟩⟩
  mok b f hb := by
    obtain ⟨es, cl, h1, h2⟩ := h.mok b f hb
    exact ⟨es, cl, hk b _ h1 rfl, h2⟩
  m0 := h.m0
  mfrom := h.mfrom
  anc := h.anc
  kp0 x hx := (hs x hx).trans (h.kp0 x hx)
  tab := h.tab
theorem Ext.gh {c : Ctx} {a : Act} {w : World} {g g' : Gh} (h : Ext c a w g) (e : g'.M = g.M) (hβ : ∀ (i b : Nat), c.β0[i]? = some b → g.β[i]? = some b → g'.β[i]? = some b := by exact fun _ _ _ h => h) : Ext c a w g' := ⟨h.dok, e ▸ h.mok, e ▸ h.m0, e ▸ h.mfrom, fun i b hb => hβ i b hb (h.anc i b hb), h.kp0, h.tab⟩
theorem Ext.put {c : Ctx} {a : Act} {w : World} {g : Gh} (h : Ext c a w g) (dst : Option Tmp) (v : Value) : Ext c (a.put dst v) w g := ⟨by cases dst <;> exact h.dok, h.mok, h.m0, h.mfrom, h.anc, h.kp0, h.tab⟩
def Good (w : World) (S : Addr → Prop) : Prop := ∀ x, S x → ∃ u, w.cell? x = some u
theorem Good.lt {w : World} {S : Addr → Prop} (h : Good w S) {x : Addr} (hx : S x) : x.block < w.heap.size := by
  obtain ⟨u, hu⟩ := h x hx
  exact World.block_lt_of_cell? w x hu
/-- The cells of a block hold what the list says. -/
def CellsR (w : World) (g : Gh) (vs : Array Value) (cs : List D) : Prop :=
  vs.size = cs.length ∧ ∀ q d, cs[q]? = some d → Rel w g (vs.getD q undef) d ∧ (vs.getD q undef).oneCell' = true
theorem CellsR.keep {w w' : World} {g g' : Gh} {vs : Array Value} {cs : List D} (h : CellsR w g vs cs) (k : Keeps w g w' g') : CellsR w' g' vs cs :=
  ⟨h.1, fun q d hd => ⟨(h.2 q d hd).1.keep k, (h.2 q d hd).2⟩⟩
structure BoxR (c : Ctx) (w : World) (g : Gh) (i : Nat) (mu : Bool) (cs : List D) : Prop where
  ex : ∃ b vs t, g.β[i]? = some b ∧ w.heap[b]? = some (.cells vs t (0, 0)) ∧ CellsR w (if mu then g else g.er) vs cs ∧ c.own b ∧
    (mu = true → ∀ x, g.S x → x.block ≠ b) ∧ (mu = false → ∀ q, q < cs.length → g.S ⟨b, q, none⟩)
structure RowR (c : Ctx) (w : World) (g : Gh) (r : Nat) (row : Row) : Prop where
  ex : ∃ v, g.ρ[r]? = some v ∧ Rel w g v (.list row.xs) ∧
    (row.live = true → (∃ vals, w.ownsRow 0 row.e row.sz v row.xs.length vals) ∧ (∀ x ∈ row.xs, x.cells.length = row.sz) ∧
      ∀ gb, v.ownBlock = some gb → c.own gb ∧ ∀ x, g.S x → x.block = gb → x.off < row.xs.length * row.sz)
def Bx.live : Bx → Bool
  | .dead => false
  | _ => true
/-- No two live things share a block: each block has at most one owner. -/
def Apart (s : St) (g : Gh) (κ : Nat → Nat ⊕ Nat) : Prop :=
  (∀ (i : Nat) (x : Bx) (b : Nat), s.bx[i]? = some x → x.live = true → g.β[i]? = some b → κ b = .inl i) ∧
  (∀ (r : Nat) (row : Row) (v : Value) (gb : Nat), s.rw[r]? = some row → row.live = true → g.ρ[r]? = some v → v.ownBlock = some gb → κ gb = .inr r)
structure RG (c : Ctx) (s : St) (a : Act) (w : World) (g : Gh) : Prop where
  df : Ext c a w g
  sz : a.tmps.size = s.n
  below : BelowP c.may c.w0.heap.size c.w0 w
  own0 : ∀ b, c.w0.heap.size ≤ b → c.own b
  good : Good w g.S
  from0 : ∀ x, g.S x → c.S0 x ∨ c.own x.block
  S0 : ∀ x, c.S0 x → g.S x
  good0 : Good c.w0 c.S0
  lβ : g.β.length = s.bx.length
  lρ : g.ρ.length = s.rw.length
  sl : ∀ n, Rel w g (a.tmps.getD n undef) (s.sl n)
  bx : ∀ i cs, s.bx[i]? = some (.mu cs) → BoxR c w g i true cs
  fz : ∀ i cs, s.bx[i]? = some (.fz cs) → BoxR c w g i false cs
  rw : ∀ r row, s.rw[r]? = some row → RowR c w g r row
  ap : ∃ κ, Apart s g κ
def R (c : Ctx) (s : St) (a : Act) (w : World) : Prop := ∃ g, RG c s a w g
/-- The plain layer's own statement on code. -/
def Abs (c : Ctx) (code : Code) (Q : Exit → St → Prop) (s : St) : Prop :=
  ∀ a w, R c s a w → code.wpIn c.F 0 c.P (fun e a' w' => ∃ s', R c s' a' w' ∧ Q e s') a w
section rules
variable {c : Ctx} {Q : Exit → St → Prop} {s : St}
theorem Abs.mono {code : Code} {Q' : Exit → St → Prop} (h : Abs c code Q s) (hq : ∀ e s, Q e s → Q' e s) : Abs c code Q' s :=
  fun a w hr => wpIn_mono (h a w hr) fun _ _ _ ⟨s', r, q⟩ => ⟨s', r, hq _ _ q⟩
theorem abs_skip (h : Q .normal s) : Abs c .skip Q s := fun _ _ hr => wpIn_skip ⟨s, hr, h⟩
theorem abs_exit {id : Nat} (h : Q (.exit id) s) : Abs c (.exit id) Q s := fun _ _ hr => wpIn_exit ⟨s, hr, h⟩
theorem abs_ret (h : Q .ret s) : Abs c .ret Q s := fun _ _ hr => wpIn_ret ⟨s, hr, h⟩
def thenQ (K : St → Prop) (Q : Exit → St → Prop) : Exit → St → Prop
  | .normal, s => K s
  | e, s => Q e s
def blockQ (id : Nat) (Q : Exit → St → Prop) : Exit → St → Prop
  | .exit id', s => if id' = id then Q .normal s else Q (.exit id') s
  | e, s => Q e s
theorem abs_seq {x y : Code} (h : Abs c x (thenQ (Abs c y Q) Q) s) : Abs c (.seq x y) Q s := by
  intro a w hr
  refine wpIn_seq (wpIn_mono (h a w hr) ?_)
  rintro e a' w' ⟨s', r, q⟩
  cases e with
  | normal => exact q a' w' r
  | exit id => exact ⟨s', r, q⟩
  | goto l => exact ⟨s', r, q⟩
  | ret => exact ⟨s', r, q⟩
  | panic ch => exact ⟨s', r, q⟩
  | outgrown => exact ⟨s', r, q⟩
theorem abs_block {id : Nat} {x : Code} (h : Abs c x (blockQ id Q) s) : Abs c (.block id x) Q s := by
  intro a w hr
  refine wpIn_block (wpIn_mono (h a w hr) ?_)
  rintro e a' w' ⟨s', r, q⟩
  cases e with
  | normal => exact ⟨s', r, q⟩
  | exit id' =>
    simp only [blockQ] at q
    simp only [Exit.inBlock]
    split at q
    · rw [if_pos (by assumption)]; exact ⟨s', r, q⟩
    · rw [if_neg (by assumption)]; exact ⟨s', r, q⟩
  | goto l => exact ⟨s', r, q⟩
  | ret => exact ⟨s', r, q⟩
  | panic ch => exact ⟨s', r, q⟩
  | outgrown => exact ⟨s', r, q⟩
end rules
end Go.Ab
end
section
namespace Go.Ab
open Go.RowKit
/-- A loop, its states named by an index that a measure counts down. -/
theorem wp_loop_ix {ι : Type} {F : Fence} {n : Nat} {P : Program} {Q : Exit → Act → World → Prop} {c : Code} (I : ι → Act → World → Prop) (μ : ι → Nat)
    (round : ∀ i a w, I i a w → c.wpIn F n P (Exit.then (fun a' w' => ∃ j, I j a' w' ∧ μ j < μ i) Q) a w) {a : Act} {w : World} (i0 : ι) (h₀ : I i0 a w) : (Code.loop c).wpIn F n P Q a w := by
  intro b k cs hro hb hr
  have key : ∀ n i a w, μ i = n → I i a w →
      ∃ e a' w', Q e a' w' ∧ ArrivesIn (Machine.fenced P F) P (lone (b.atR a (.code c :: .inLoop c :: k)) cs w) b k cs e a' w' := by
    intro n
    induction n using Nat.strongRecOn with
    | _ n ih =>
      intro i a w hn hI
      obtain ⟨e, a₁, w₁, hq, harr⟩ := round i a w hI b (.inLoop c :: k) cs hro hb hr
      cases e with
      | normal =>
        obtain ⟨j, hI₁, hlt⟩ := hq
        obtain ⟨e₂, a₂, w₂, hq₂, harr₂⟩ := ih (μ j) (hn ▸ hlt) j a₁ w₁ rfl hI₁
        exact ⟨e₂, a₂, w₂, hq₂, .of_steps (StepsIn.trans harr (.one (fenced_calm hb hr rfl) stepR_inLoop)) harr₂⟩
      | exit id => exact ⟨_, a₁, w₁, hq, .pass (x := .inLoop c) rfl (fun _ _ => .inl (by simp)) harr⟩
      | goto l => exact ⟨_, a₁, w₁, hq, .pass (x := .inLoop c) rfl (fun _ _ => .inl (by simp)) harr⟩
      | ret => exact ⟨_, a₁, w₁, hq, .pass (x := .inLoop c) rfl (fun _ _ => .inl (by simp)) harr⟩
      | panic ch => exact ⟨_, a₁, w₁, hq, .pass (x := .inLoop c) rfl (fun _ _ => .inl (by simp)) harr⟩
      | outgrown => exact ⟨_, a₁, w₁, hq, .pass (x := .inLoop c) rfl (fun _ _ => .inl (by simp)) harr⟩
  obtain ⟨e, a', w', hq, harr⟩ := key _ i0 a w rfl h₀
  exact ⟨e, a', w', hq, .of_steps (.one (fenced_calm hb hr rfl) stepR_loop) harr⟩
/-- s knows at least what s' says. -/
structure Le (s s' : St) : Prop where
  n : s'.n = s.n
  sl : ∀ m, s'.sl m = .undef ∨ s.sl m = s'.sl m
  bx : ∃ t, s.bx = s'.bx ++ t
  rw : ∃ t, s.rw = s'.rw ++ t
/-- What a datum may name. -/
inductive Names (nb nr : Nat) : D → Prop
  | undef : Names nb nr .undef
  | int (k : IntKind) (n : Int) : Names nb nr (.int k n)
  | bool (b : Bool) : Names nb nr (.bool b)
  | str (s : ByteArray) : Names nb nr (.str s)
  | val (v : Value) : Names nb nr (.val v)
  | list (xs : List D) : Names nb nr (.list xs)
  | agg (cs : List D) (h : ∀ d ∈ cs, Names nb nr d) : Names nb nr (.agg cs)
  | tup (cs : List D) (h : ∀ d ∈ cs, Names nb nr d) : Names nb nr (.tup cs)
  | box (i off : Nat) (h : i < nb) : Names nb nr (.box i off)
  | ro (cs : List D) : Names nb nr (.ro cs)
  | own (r : Nat) (h : r < nr) : Names nb nr (.own r)
  | clo (f : FuncId) (cs : List D) (h : ∀ d ∈ cs, Names nb nr d) : Names nb nr (.clo f cs)
  | memo (f : Memo) : Names nb nr (.memo f)
  | bsl (i off n c : Nat) (h : i < nb) : Names nb nr (.bsl i off n c)
  | skp : Names nb nr .skp
  | mth (f : FuncId) (cs : List D) (h : ∀ d ∈ cs, Names nb nr d) : Names nb nr (.mth f cs)
/-- What names only the first boxes and rows holds with those alone. -/
theorem Rel.cut {w : World} {g : Gh} {v : Value} {d : D} (h : Rel w g v d) {nb nr : Nat} (hN : Names nb nr d) :
    Rel w ⟨g.S, g.β.take nb, g.ρ.take nr, g.M⟩ v d := by
  induction h with
  | undef g v => exact .undef _ _
  | int g k n => exact .int _ _ _
  | bool g b => exact .bool _ _
  | str g s => exact .str _ _
  | val g v => exact .val _ _
  | list g A n c xs sz u hn hsz hcap hm hr ih => exact .list _ A n c xs sz u hn hsz hcap hm hr
  | agg g vs cs hl h1 hr ih =>
    cases hN with
    | agg _ h => exact .agg _ vs cs hl h1 (fun q d hd => ih q d hd (h d (List.mem_of_getElem? hd)))
  | tup g vs ds hl hr ih =>
    cases hN with
    | tup _ h => exact .tup _ vs ds hl (fun q d hd => ih q d hd (h d (List.mem_of_getElem? hd)))
  | box g i off b hb =>
    cases hN with
    | box _ _ h => exact .box _ i off b (by simp only [List.getElem?_take, h, if_true]; exact hb)
  | ro g a cs u hm hr ih => exact .ro _ a cs u hm hr
  | own g r v h =>
    cases hN with
    | own _ h' => exact .own _ r v (by simp only [List.getElem?_take, h', if_true]; exact h)
  | clo g f vs cs hl hr ih =>
    cases hN with
    | clo _ _ h => exact .clo _ f vs cs hl (fun q d hd => ih q d hd (h d (List.mem_of_getElem? hd)))
  | memo g b f h => exact .memo _ b f h
  | skp g => exact .skp _
  | mth g f vs cs hl hr ih =>
    cases hN with
    | mth _ _ h => exact .mth _ f vs cs hl (fun q d hd => ih q d hd (h d (List.mem_of_getElem? hd)))
  | bsl g i off n c b hb =>
    cases hN with
    | bsl _ _ _ _ h => exact .bsl _ i off n c b (by simp only [List.getElem?_take, h, if_true]; exact hb)
/-- A box's content, a row's content name nothing (rows) or the first ones. -/
def St.named (s : St) : Prop :=
  (∀ m, Names s.bx.length s.rw.length (s.sl m)) ∧ ∀ (i : Nat) (cs : List D), s.bx[i]? = some (.mu cs) → ∀ d ∈ cs, Names s.bx.length s.rw.length d
theorem RG.le {c : Ctx} {s s' : St} {a : Act} {w : World} {g : Gh} (h : RG c s a w g) (hl : Le s s') (hn : s'.named) (h0 : c.β0.length ≤ s'.bx.length) : RG c s' a w ⟨g.S, g.β.take s'.bx.length, g.ρ.take s'.rw.length, g.M⟩ := by
  obtain ⟨tb, hb⟩ := hl.bx
  obtain ⟨tr, hr⟩ := hl.rw
  have hbx : ∀ (i : Nat) (x : Bx), s'.bx[i]? = some x → s.bx[i]? = some x := fun i x hx => by
    rw [hb, List.getElem?_append_left (by have := (List.getElem?_eq_some_iff.1 hx).1; omega)]; exact hx
  have hrw : ∀ (i : Nat) (x : Row), s'.rw[i]? = some x → s.rw[i]? = some x := fun i x hx => by
    rw [hr, List.getElem?_append_left (by have := (List.getElem?_eq_some_iff.1 hx).1; omega)]; exact hx
  have lb : s'.bx.length ≤ g.β.length := by rw [h.lβ, hb]; simp
  have lr : s'.rw.length ≤ g.ρ.length := by rw [h.lρ, hr]; simp
  have hβ : ∀ (i b : Nat), i < s'.bx.length → g.β[i]? = some b → (g.β.take s'.bx.length)[i]? = some b := fun i b hi hb => by
    simp only [List.getElem?_take, hi, if_true]; exact hb
  have hρ : ∀ (i : Nat) (b : Value), i < s'.rw.length → g.ρ[i]? = some b → (g.ρ.take s'.rw.length)[i]? = some b := fun i b hi hb => by
    simp only [List.getElem?_take, hi, if_true]; exact hb
  refine ⟨h.df.gh rfl (fun i b hc hb => hβ i b (Nat.lt_of_lt_of_le (List.getElem?_eq_some_iff.1 hc).1 h0) hb), by rw [h.sz, hl.n], h.below, h.own0, h.good, h.from0, h.S0, h.good0, by simp; omega, by simp; omega, ?_, ?_, ?_, ?_, ?_⟩
  · intro m
    rcases hl.sl m with e | e
    · rw [e]; exact .undef _ _
    · have := h.sl m
      rw [e] at this
      exact this.cut (hn.1 m)
  · intro i cs hi
    obtain ⟨b, vs, t, e1, e2, e3, e4, e5, e6⟩ := (h.bx i cs (hbx i _ hi)).ex
    have hil := (List.getElem?_eq_some_iff.1 hi).1
    exact ⟨b, vs, t, hβ i b hil e1, e2, ⟨e3.1, fun q d hd => ⟨(e3.2 q d hd).1.cut (hn.2 i cs hi d (List.mem_of_getElem? hd)), (e3.2 q d hd).2⟩⟩, e4, e5, e6⟩
  · intro i cs hi
    obtain ⟨b, vs, t, e1, e2, e3, e4, e5, e6⟩ := (h.fz i cs (hbx i _ hi)).ex
    have hil := (List.getElem?_eq_some_iff.1 hi).1
    exact ⟨b, vs, t, hβ i b hil e1, e2, e3, e4, e5, e6⟩
  · intro r row hi
    obtain ⟨v, e1, e2, e3⟩ := (h.rw r row (hrw r _ hi)).ex
    have hil := (List.getElem?_eq_some_iff.1 hi).1
    exact ⟨v, hρ r v hil e1, e2.cut (.list _), e3⟩
  · obtain ⟨κ, k1, k2⟩ := h.ap
    refine ⟨κ, fun i x b hi hx hb => k1 i x b (hbx i _ hi) hx ?_, fun r row v gb hi hl hv => k2 r row v gb (hrw r _ hi) hl ?_⟩
    · have hil := (List.getElem?_eq_some_iff.1 hi).1
      simp only [List.getElem?_take, hil, if_true] at hb; exact hb
    · have hil := (List.getElem?_eq_some_iff.1 hi).1
      simp only [List.getElem?_take, hil, if_true] at hv; exact hv
theorem R.le {c : Ctx} {s s' : St} {a : Act} {w : World} (h : R c s a w) (hl : Le s s') (hn : s'.named) (h0 : c.β0.length ≤ s'.bx.length) : R c s' a w := by
  obtain ⟨g, h⟩ := h
  exact ⟨_, h.le hl hn h0⟩
theorem abs_le {c : Ctx} {code : Code} {Q : Exit → St → Prop} {s : St} (s' : St) (hl : Le s s') (hn : s'.named) (h0 : c.β0.length ≤ s'.bx.length) (h : Abs c code Q s') : Abs c code Q s :=
  fun a w hr => h a w (hr.le hl hn h0)
theorem abs_loop {c : Ctx} {body : Code} {Q : Exit → St → Prop} {s : St} {ι : Type} (I : ι → St) (p : ι → Prop) (μ : ι → Nat) (hn : ∀ i, p i → (I i).named) (hβ : ∀ i, p i → c.β0.length ≤ (I i).bx.length)
    (i0 : ι) (h0 : p i0) (hle : Le s (I i0))
    (round : ∀ i, p i → Abs c body (thenQ (fun s' => ∃ j, p j ∧ μ j < μ i ∧ Le s' (I j)) Q) (I i)) : Abs c (.loop body) Q s := by
  intro a w hr
  refine wp_loop_ix (fun i a w => p i ∧ R c (I i) a w) μ (fun i a w ⟨hp, hr⟩ => ?_) i0 ⟨h0, hr.le hle (hn i0 h0) (hβ i0 h0)⟩
  refine wpIn_mono (round i hp a w hr) ?_
  rintro e a' w' ⟨s', r, q⟩
  cases e with
  | normal => obtain ⟨j, hj, hlt, hl⟩ := q; exact ⟨j, ⟨hj, r.le hl (hn j hj) (hβ j hj)⟩, hlt⟩
  | exit id => exact ⟨s', r, q⟩
  | goto l => exact ⟨s', r, q⟩
  | ret => exact ⟨s', r, q⟩
  | panic ch => exact ⟨s', r, q⟩
  | outgrown => exact ⟨s', r, q⟩
theorem Rel.asBool {w : World} {g : Gh} {v : Value} {b : Bool} (h : Rel w g v (.bool b)) : v = .bool b := by cases h; rfl
def constD : Value → D
  | .int k n => .int k n
  | .bool b => .bool b
  | .string s => .str s
  | v => .val v
theorem rel_const (w : World) (g : Gh) (v : Value) : Rel w g v (constD v) := by
  cases v <;> first | exact .int _ _ _ | exact .bool _ _ | exact .str _ _ | exact .val _ _
def St.ev (s : St) : Operand → D
  | .tmp t => s.sl t
  | .const v => constD v
  | .global g => .val (.pointer (some ⟨g, 0, none⟩))
  | .func f => .clo f []
theorem RG.ev {c : Ctx} {s : St} {a : Act} {w : World} {g : Gh} (h : RG c s a w g) (x : Operand) : Rel w g (a.eval x) (s.ev x) := by
  cases x with
  | tmp t => exact h.sl t
  | const v => exact rel_const _ _ _
  | global g => exact .val _ _
  | func f => exact .clo _ f #[] [] rfl (fun q d hd => by simp at hd)
theorem abs_cond {c : Ctx} {x : Operand} {t e : Code} {Q : Exit → St → Prop} {s : St} (b : Bool) (hb : s.ev x = .bool b)
    (ht : b = true → Abs c t Q s) (he : b = false → Abs c e Q s) : Abs c (.cond x t e) Q s := by
  intro a w hr
  have hg := hr
  obtain ⟨g, hg⟩ := hg
  have hv := hg.ev x
  rw [hb] at hv
  have := hv.asBool
  exact wpIn_cond_split this (fun h => ht h a w hr) (fun h => he h a w hr)
end Go.Ab
end
section
namespace Go.Ab
open Go.RowKit
def InR : IntKind → Int → Prop
  | .i8, n => -128 ≤ n ∧ n ≤ 127
  | .i16, n => -32768 ≤ n ∧ n ≤ 32767
  | .i32, n => -2147483648 ≤ n ∧ n ≤ 2147483647
  | .i64, n => -9223372036854775808 ≤ n ∧ n ≤ 9223372036854775807
  | .u8, n => 0 ≤ n ∧ n ≤ 255
  | .u16, n => 0 ≤ n ∧ n ≤ 65535
  | .u32, n => 0 ≤ n ∧ n ≤ 4294967295
  | .u64, n => 0 ≤ n ∧ n ≤ 18446744073709551615
theorem InR.wrap {k : IntKind} {n : Int} (h : InR k n) : k.wrap n = n := by
  cases k <;> simp only [InR] at h <;> simp [IntKind.wrap, IntKind.bits, IntKind.signed] <;> omega
def intsOf : List D → Option (List Int)
  | [] => some []
  | .int .i64 n :: cs => (intsOf cs).map (n :: ·)
  | _ => none
def wBool (d : D) (k : Bool → Prop) : Prop := match d with | .bool b => k b | _ => False
def wInt (d : D) (k : IntKind → Int → Prop) : Prop := match d with | .int a n => k a n | _ => False
def wInt2 (x y : D) (k : IntKind → Int → Int → Prop) : Prop := wInt x fun a n => wInt y fun b m => a = b ∧ k a n m
def wAgg (d : D) (k : List D → Prop) : Prop := match d with | .agg cs => k cs | _ => False
def wTup (d : D) (k : List D → Prop) : Prop := match d with | .tup cs => k cs | _ => False
def wOpt {α : Type} (x : Option α) (k : α → Prop) : Prop := match x with | some a => k a | none => False
/-- '==' at a type of structs of so many integers. -/
def EqInts (P : Program) (t : TypeId) (n : Nat) : Prop := P.eqGuardType P.depth t = false ∧ ∀ (xs ys : List Int) (w : World), xs.length = n → ys.length = n →
  (binOp .eql t (.agg (xs.map (Value.int .i64)).toArray) (.agg (ys.map (Value.int .i64)).toArray)).run P w = .ok (.bool (decide (xs = ys))) w ∧
  (binOp .neq t (.agg (xs.map (Value.int .i64)).toArray) (.agg (ys.map (Value.int .i64)).toArray)).run P w = .ok (.bool (!decide (xs = ys))) w
def elemOf' (P : Program) (t : TypeId) : Bool := match P.underlying t with | some (.slice _) => true | _ => false
def wEq (P : Program) (t : TypeId) (x y : D) (k : Bool → Prop) : Prop := match x, y with
  | .int a n, .int b m => a = b ∧ k (decide (n = m))
  | .bool a, .bool b => P.underlying t = some .bool ∧ k (a == b)
  | .str a, .str b => k (a.toList == b.toList)
  | .list xs, .val (.slice none 0 0) => elemOf' P t = true ∧ xs ≠ [] ∧ (∀ x ∈ xs, x.cells ≠ []) ∧ k false
  | .val (.slice none 0 0), .val (.slice none 0 0) => elemOf' P t = true ∧ k true
  | .agg cs, .agg ds => wOpt (intsOf cs) fun xs => wOpt (intsOf ds) fun ys => xs.length = ys.length ∧ EqInts P t xs.length ∧ k (decide (xs = ys))
  | _, _ => False
def wBx (bx : List Bx) (i : Nat) (k : List D → Prop) : Prop := match bx[i]? with
  | some (.mu cs) => k cs
  | some (.fz cs) => k cs
  | _ => False
def wSl (rw : List Row) (d : D) (k : List D → Prop) : Prop := match d with
  | .list xs => k xs
  | .own r => match rw[r]? with | some row => k row.xs | none => False
  | _ => False
def wNth (xs : List D) (n : Int) (k : D → Prop) : Prop := 0 ≤ n ∧ ∃ d, xs[n.toNat]? = some d ∧ k d
def szOf (P : Program) (t : TypeId) : Nat := P.cellsOf t
def aggO (P : Program) (t : TypeId) : Option Bool := match P.underlying t with | some (.struct _) => some true | some (.array _ _) => some true | some _ => some false | none => none
def fieldOff (P : Program) (t : TypeId) (f : Nat) : Option (Nat × TypeId) := match P.underlying t with
  | some (.struct fs) => match fs[f]? with
    | some fd => if P.cellsOf fd.type = 0 then none else some (fd.offset, fd.type)
    | none => none
  | _ => none
def elemOf (P : Program) (t : TypeId) : Option TypeId := match P.underlying t with | some (.slice e) => some e | _ => none
def arrOf (P : Program) (t : TypeId) : Option (Nat × TypeId) := match P.underlying t with | some (.array n e) => some (n, e) | _ => none
def intOfTy (P : Program) (t : TypeId) : Option IntKind := match P.underlying t with | some (.int k) => some k | _ => none
def zeroD (P : Program) (t : TypeId) : Option (List D) := match P.info? t with
  | some i => match i.zero with
    | some z => if z.cells.all (·.oneCell') && z.cells.size == i.size then some (z.cells.toList.map constD) else none
    | none => none
  | none => none
def wHead (cs : List D) (k : D → Prop) : Prop := match cs with | d :: _ => k d | [] => False
def wTake (P : Program) (t : TypeId) (cs : List D) (k : D → Prop) : Prop := wOpt (aggO P t) fun b => match b with
  | true => szOf P t ≠ 0 ∧ szOf P t ≤ cs.length ∧ k (.agg (cs.take (szOf P t)))
  | false => wHead cs k
def wLoad (P : Program) (bx : List Bx) (t : TypeId) (x : D) (k : D → Prop) : Prop := match x with
  | .box i off => wBx bx i fun cs => wTake P t (cs.drop off) k
  | .ro cs => wTake P t cs k
  | _ => False
def wShift (x : D) (o : Nat) (k : D → Prop) : Prop := match x with
  | .box i off => k (.box i (off + o))
  | .ro cs => k (.ro (cs.drop o))
  | _ => False
/-- A sum, of numbers or of strings. -/
def wAdd (x y : D) (k : D → Prop) : Prop := match x with
  | .str a => (match y with
    | .str b => a.size + b.size ≤ 9223372036854775807 ∧ k (.str (a ++ b))
    | _ => False)
  | x => wInt2 x y fun a n m => InR a (n + m) ∧ k (.int a (n + m))
/-- A number with a mask. -/
def andN (n m : Int) : Int := if m = 2 then (if n < 2 then 0 else 2) else n % (m + 1)
def wBin (P : Program) (t : TypeId) (op : BinOp) (x y : D) (k : D → Prop) : Prop := match op with
  | .add => wAdd x y k
  | .sub => wInt2 x y fun a n m => InR a (n - m) ∧ k (.int a (n - m))
  | .mul => wInt2 x y fun a n m => InR a (n * m) ∧ k (.int a (n * m))
  | .quo => wInt2 x y fun a n m => m ≠ 0 ∧ InR a (n.tdiv m) ∧ k (.int a (n.tdiv m))
  | .rem => wInt2 x y fun a n m => m ≠ 0 ∧ k (.int a (n.tmod m))
  | .lss => wInt2 x y fun _ n m => k (.bool (decide (n < m)))
  | .leq => wInt2 x y fun _ n m => k (.bool (decide (n ≤ m)))
  | .gtr => wInt2 x y fun _ n m => k (.bool (decide (m < n)))
  | .geq => wInt2 x y fun _ n m => k (.bool (decide (m ≤ n)))
  | .eql => wEq P t x y fun b => k (.bool b)
  | .neq => wEq P t x y fun b => k (.bool (!b))
  | .shr => wInt x fun a n => wInt y fun _ m => 0 ≤ m ∧ m < a.bits ∧ k (.int a (n.fdiv (2 ^ m.toNat)))
  | .shl => wInt x fun a n => wInt y fun _ m => 0 ≤ m ∧ m < a.bits ∧ InR a (n * 2 ^ m.toNat) ∧ k (.int a (n * 2 ^ m.toNat))
  | .and => wInt2 x y fun a n m => (a = .i64 ∨ a = .u64) ∧ 0 ≤ n ∧ n ≤ 9223372036854775807 ∧ (m = 1 ∨ m = 4294967295 ∨ m = 2 ∧ n < 4) ∧ k (.int a (andN n m))
  | _ => False
def wUn (op : UnOp) (x : D) (k : D → Prop) : Prop := match op with
  | .not => wBool x fun b => k (.bool (!b))
  | .neg => wInt x fun a n => InR a (-n) ∧ k (.int a (-n))
  | _ => False
def wIdxA (P : Program) (rw : List Row) (t : TypeId) (x ix : D) (k : D → Prop) : Prop := match elemOf P t with
  | some e => match x with
    | .bsl i off m _ => wInt ix fun _ n => szOf P e ≠ 0 ∧ 0 ≤ n ∧ n < m ∧ k (.box i (off + n.toNat * szOf P e))
    | x => wSl rw x fun xs => wInt ix fun _ n => wNth xs n fun d => szOf P e ≠ 0 ∧ d.cells.length = szOf P e ∧ k (.ro d.cells)
  | none => wOpt (arrOf P t) fun ne => wInt ix fun _ n => szOf P ne.2 ≠ 0 ∧ 0 ≤ n ∧ n < ne.1 ∧ wShift x (n.toNat * szOf P ne.2) k
def wPart (P : Program) (t : TypeId) (cs : List D) (off : Nat) (k : D → Prop) : Prop := wOpt (aggO P t) fun b => match b with
  | true => szOf P t ≠ 0 ∧ off + szOf P t ≤ cs.length ∧ k (.agg ((cs.drop off).take (szOf P t)))
  | false => wOpt cs[off]? k
def wIdx (P : Program) (t : TypeId) (x ix : D) (k : D → Prop) : Prop := wOpt (arrOf P t) fun ne => wAgg x fun cs => wInt ix fun _ n => szOf P ne.2 ≠ 0 ∧ 0 ≤ n ∧ n < ne.1 ∧ wPart P ne.2 cs (n.toNat * szOf P ne.2) k
def wField (P : Program) (t : TypeId) (x : D) (f : Nat) (k : D → Prop) : Prop := wOpt (fieldOff P t f) fun ot => wAgg x fun cs => wPart P ot.2 cs ot.1 k
def pickD (t : Bool) (a b : D) : D := match t with | true => a | false => b
def strTy (P : Program) (t : TypeId) : Bool := match P.underlying t with | some .string => true | _ => false
/-- Bytes. -/
def bytesL : List D → Option (List UInt8)
  | [] => some []
  | .int .u8 n :: l => (bytesL l).map (UInt8.ofNat n.toNat :: ·)
  | _ => none
def wConv (P : Program) (s t : TypeId) (x : D) (k : D → Prop) : Prop := match x with
  | .list xs => strTy P t = true ∧ wOpt (elemOf P s) fun e => wOpt (intOfTy P e) fun q => q = .u8 ∧ wOpt (bytesL xs) fun b => k (.str ⟨b.toArray⟩)
  | d => wOpt (intOfTy P s) fun _ => wOpt (intOfTy P t) fun q => wInt d fun _ n => InR q n ∧ k (.int q n)
def wBnd (d : Option D) (dflt y : Nat) (k : Nat → Prop) : Prop := match d with | none => k dflt | some d => wInt d fun _ m => 0 ≤ m ∧ m ≤ y ∧ k m.toNat
def wSlice (P : Program) (t : TypeId) (x : D) (lo hi : Option D) (k : D → Prop) : Prop := match x with
  | .box i off => wOpt (arrOf P t) fun ne => wBnd hi ne.1 ne.1 fun h => wBnd lo 0 h fun l => szOf P ne.2 ≠ 0 ∧ k (.bsl i (if ne.1 = l then off else off + l * szOf P ne.2) (h - l) (ne.1 - l))
  | .bsl i off n c => wOpt (elemOf P t) fun e => wBnd hi n c fun h => wBnd lo 0 h fun l => szOf P e ≠ 0 ∧ k (.bsl i (if c = l then off else off + l * szOf P e) (h - l) (c - l))
  | .str s => strTy P t = true ∧ wBnd hi s.size s.size fun h => wBnd lo 0 h fun l => k (.str (s.extract l h))
  | .list xs => wOpt (elemOf P t) fun e => wBnd hi xs.length xs.length fun h => wBnd lo 0 h fun l => szOf P e ≠ 0 ∧ (∀ d ∈ xs, d.cells.length = szOf P e) ∧ k (.list ((xs.drop l).take (h - l)))
  | _ => False
def wLen (P : Program) (t : TypeId) (rw : List Row) (x : D) (k : D → Prop) : Prop := match elemOf P t with
  | some _ => match x with
    | .list xs => k (.int .i64 xs.length)
    | .own r => wOpt rw[r]? fun row => k (.int .i64 row.xs.length)
    | .val (.slice none 0 0) => k (.int .i64 0)
    | .bsl _ _ n _ => k (.int .i64 n)
    | _ => False
  | none => strTy P t = true ∧ match x with
    | .str s => k (.int .i64 s.size)
    | _ => False
end Go.Ab
end
section
namespace Go.Ab
open Go.RowKit
def Yields (P : Program) (o : Oper) (a : Act) (w : World) (g : Gh) (k : D → Prop) : Prop :=
  ∃ v d, (execOp a.eval o).run P w = .ok (.value v) w ∧ Rel w g v d ∧ k d
section
variable {P : Program} {o : Oper} {a : Act} {w : World} {g : Gh} {k : D → Prop}
theorem y_move {x : Operand} {d : D} (ho : o.op = .move x ∨ o.op = .assign x) (h : Rel w g (a.eval x) d) (hk : k d) : Yields P o a w g k := by
  refine ⟨a.eval x, d, ?_, h, hk⟩
  rcases ho with ho | ho <;> simp [execOp, ho]
theorem wBool_rel {v : Value} {d : D} {kb : Bool → Prop} (h : Rel w g v d) (hk : wBool d kb) : ∃ b, v = .bool b ∧ d = .bool b ∧ kb b := by
  cases h <;> simp only [wBool] at hk
  exact ⟨_, rfl, rfl, hk⟩
theorem wInt_rel {v : Value} {d : D} {kb : IntKind → Int → Prop} (h : Rel w g v d) (hk : wInt d kb) : ∃ q n, v = .int q n ∧ d = .int q n ∧ kb q n := by
  cases h <;> simp only [wInt] at hk
  exact ⟨_, _, rfl, rfl, hk⟩
theorem wInt2_rel {v v' : Value} {d d' : D} {kb : IntKind → Int → Int → Prop} (h : Rel w g v d) (h' : Rel w g v' d') (hk : wInt2 d d' kb) :
    ∃ q n m, v = .int q n ∧ v' = .int q m ∧ kb q n m := by
  obtain ⟨q, n, rfl, rfl, hk1⟩ := wInt_rel h hk
  obtain ⟨q', m, rfl, rfl, rfl, hk2⟩ := wInt_rel h' hk1
  exact ⟨_, _, _, rfl, rfl, hk2⟩
theorem Rel.agg_inv {v : Value} {cs : List D} (h : Rel w g v (.agg cs)) : ∃ vs : List Value, v = .agg vs.toArray ∧ vs.length = cs.length ∧
    ∀ q d, cs[q]? = some d → Rel w g (vs.getD q Go.undef) d ∧ (vs.getD q Go.undef).oneCell' = true := by
  cases h with
  | agg _ vs _ hl h1 hr =>
    obtain ⟨vs⟩ := vs
    refine ⟨vs, rfl, by simpa using hl, fun q d hd => ⟨by simpa using hr q d hd, ?_⟩⟩
    have := h1 q (List.getElem?_eq_some_iff.1 hd).1
    simpa using this
theorem and_mask (q : IntKind) (hq : q = .i64 ∨ q = .u64) (n m : Int) (h0 : 0 ≤ n) (h1 : n ≤ 9223372036854775807) (hm : m = 1 ∨ m = 4294967295 ∨ m = 2 ∧ n < 4) :
    q.wrap ((BitVec.ofInt q.bits n &&& BitVec.ofInt q.bits m).toNat : Int) = andN n m := by
  by_cases h2 : m = 2 ∧ n < 4
  · obtain ⟨rfl, hn⟩ := h2
    have : n = 0 ∨ n = 1 ∨ n = 2 ∨ n = 3 := by omega
    rcases hq with rfl | rfl <;> rcases this with rfl | rfl | rfl | rfl <;> decide
  replace hm : m = 1 ∨ m = 4294967295 := by omega
  have hm2 : andN n m = n % (m + 1) := by unfold andN; rw [if_neg (by omega)]
  rw [hm2]
  obtain ⟨k, rfl⟩ : ∃ k : Nat, n = k := ⟨n.toNat, by omega⟩
  have hk : k < 2 ^ 64 := by omega
  have key : ∀ e : Nat, e < 64 → (BitVec.ofInt 64 (k : Int) &&& BitVec.ofInt 64 ((2 ^ e - 1 : Nat) : Int)).toNat = k % 2 ^ e := by
    intro e he
    rw [BitVec.toNat_and, BitVec.toNat_ofInt, BitVec.toNat_ofInt]
    have e1 : ((k : Int) % ((2 ^ 64 : Nat) : Int)).toNat = k := by omega
    have e3 : 2 ^ e - 1 < 2 ^ 64 := Nat.lt_of_le_of_lt (Nat.sub_le _ _) (Nat.pow_lt_pow_right (by decide) he)
    have e2 : (((2 ^ e - 1 : Nat) : Int) % ((2 ^ 64 : Nat) : Int)).toNat = 2 ^ e - 1 := by
      rw [← Int.natCast_emod, Int.toNat_natCast, Nat.mod_eq_of_lt e3]
    rw [e1, e2, Nat.and_two_pow_sub_one_eq_mod]
  have k1 : (BitVec.ofInt 64 (k : Int) &&& BitVec.ofInt 64 1).toNat = k % 2 := key 1 (by decide)
  have k2 : (BitVec.ofInt 64 (k : Int) &&& BitVec.ofInt 64 4294967295).toNat = k % 4294967296 := key 32 (by decide)
  have w1 : ∀ j : Nat, j ≤ 9223372036854775807 → IntKind.i64.wrap (j : Int) = j := fun j hj => InR.wrap (k := .i64) (by simp only [InR]; omega)
  have w2 : ∀ j : Nat, j ≤ 9223372036854775807 → IntKind.u64.wrap (j : Int) = j := fun j hj => InR.wrap (k := .u64) (by simp only [InR]; omega)
  rcases hq with rfl | rfl <;> rcases hm with rfl | rfl
  · show IntKind.i64.wrap (((BitVec.ofInt 64 (k : Int) &&& BitVec.ofInt 64 1).toNat : Nat) : Int) = _
    rw [k1, w1 _ (by omega)]; omega
  · show IntKind.i64.wrap (((BitVec.ofInt 64 (k : Int) &&& BitVec.ofInt 64 4294967295).toNat : Nat) : Int) = _
    rw [k2, w1 _ (by omega)]; omega
  · show IntKind.u64.wrap (((BitVec.ofInt 64 (k : Int) &&& BitVec.ofInt 64 1).toNat : Nat) : Int) = _
    rw [k1, w2 _ (by omega)]; omega
  · show IntKind.u64.wrap (((BitVec.ofInt 64 (k : Int) &&& BitVec.ofInt 64 4294967295).toNat : Nat) : Int) = _
    rw [k2, w2 _ (by omega)]; omega
theorem intsOf_rel : ∀ (cs : List D) (vs : List Value) (xs : List Int), intsOf cs = some xs → vs.length = cs.length → (∀ q d, cs[q]? = some d → Rel w g (vs.getD q Go.undef) d) → vs = xs.map (Value.int .i64)
  | [], vs, xs, h, hl, _ => by
    simp only [intsOf, Option.some.injEq] at h
    subst h
    simpa using hl
  | d :: cs, vs, xs, h, hl, hr => by
    cases vs with
    | nil => simp at hl
    | cons v vs =>
      have h0 := hr 0 d rfl
      simp only [List.getD_cons_zero] at h0
      cases d with
      | int q n =>
        cases q <;> simp only [intsOf, Option.map_eq_some_iff, reduceCtorEq] at h
        obtain ⟨ys, hy, rfl⟩ := h
        cases h0
        have := intsOf_rel cs vs ys hy (by simpa using hl) (fun q d hd => by have := hr (q + 1) d (by simpa using hd); simpa using this)
        rw [this, List.map_cons]
      | _ => simp only [intsOf, reduceCtorEq] at h
theorem wOpt_some {α : Type} {x : Option α} {kb : α → Prop} (h : wOpt x kb) : ∃ y, x = some y ∧ kb y := by
  cases x with
  | none => exact h.elim
  | some y => exact ⟨y, rfl, h⟩
theorem wEq_rel {v v' : Value} {d d' : D} {t : TypeId} {kb : Bool → Prop} (h : Rel w g v d) (h' : Rel w g v' d') (hk : wEq P t d d' kb) :
    (∃ q n m, v = .int q n ∧ v' = .int q m ∧ kb (decide (n = m))) ∨ (∃ b b', v = .bool b ∧ v' = .bool b' ∧ P.underlying t = some .bool ∧ kb (b == b')) ∨
    (∃ s s', v = .string s ∧ v' = .string s' ∧ kb (s.toList == s'.toList)) ∨
    (∃ xs ys : List Int, xs.length = ys.length ∧ EqInts P t xs.length ∧ v = .agg (xs.map (Value.int .i64)).toArray ∧ v' = .agg (ys.map (Value.int .i64)).toArray ∧ kb (decide (xs = ys))) ∨
    (∃ (b : Bool) (A : Option Addr) (n c : Nat) (e : TypeId), v = .slice A n c ∧ v' = .slice none 0 0 ∧ P.underlying t = some (.slice e) ∧ A.isNone = b ∧ kb b) := by
  cases d <;> cases d' <;> simp only [wEq] at hk
  case list.val xs u =>
    split at hk <;> first | exact hk.elim | skip
    all_goals (rename_i h1 h2; first | cases h1 | skip)
    all_goals first | (cases h2; done) | skip
    injection h2 with h2
    subst h2
    obtain ⟨ht, hx, hc, hk⟩ := hk
    cases h'
    unfold elemOf' at ht
    split at ht <;> first | cases ht | skip
    rename_i e he
    cases h with
    | list _ A n c _ sz u hn hsz hcap hm hr =>
      cases hxs : xs with
      | nil => exact absurd hxs hx
      | cons d ds =>
        have h0 := hc d (by rw [hxs]; exact List.mem_cons_self ..)
        have hpos : 0 < (flat xs).length := by
          rw [hxs]
          show 0 < (d.cells ++ flat ds).length
          have := List.length_pos_iff.2 h0
          simp only [List.length_append]; omega
        obtain ⟨ad, rfl, _⟩ := hm 0 hpos
        exact .inr (.inr (.inr (.inr ⟨false, _, _, _, e, rfl, rfl, he, rfl, hk⟩)))
  case val.val u u' =>
    split at hk <;> first | exact hk.elim | skip
    all_goals (rename_i h1 h2; first | (cases h1; done) | skip)
    all_goals first | (cases h2; done) | skip
    injection h1 with h1
    injection h2 with h2
    subst h1; subst h2
    obtain ⟨ht, hk⟩ := hk
    cases h; cases h'
    unfold elemOf' at ht
    split at ht <;> first | cases ht | skip
    rename_i e he
    exact .inr (.inr (.inr (.inr ⟨true, _, _, _, e, rfl, rfl, he, rfl, hk⟩)))
  · obtain ⟨rfl, hk⟩ := hk; cases h; cases h'; exact .inl ⟨_, _, _, rfl, rfl, hk⟩
  · cases h; cases h'; exact .inr (.inl ⟨_, _, rfl, rfl, hk⟩)
  · cases h; cases h'; exact .inr (.inr (.inl ⟨_, _, rfl, rfl, hk⟩))
  · obtain ⟨xs, h1, hk⟩ := wOpt_some hk
    obtain ⟨ys, h2, hl, he, hk⟩ := wOpt_some hk
    obtain ⟨vs, rfl, l1, r1⟩ := h.agg_inv
    obtain ⟨vs', rfl, l2, r2⟩ := h'.agg_inv
    have e1 := intsOf_rel _ vs xs h1 l1 (fun q d hd => (r1 q d hd).1)
    have e2 := intsOf_rel _ vs' ys h2 l2 (fun q d hd => (r2 q d hd).1)
    subst e1; subst e2
    exact .inr (.inr (.inr (.inl ⟨xs, ys, hl, he, rfl, rfl, hk⟩)))
theorem run_equal_nil (P : Program) (w : World) {t e : TypeId} (ht : P.underlying t = some (.slice e)) (A : Option Addr) (n c : Nat) : (Op.equal t (.slice A n c) (.slice none 0 0)).run P w = .ok A.isNone w := by
  show (Op.equalIn (9999 + 1) t (.slice A n c) (.slice none 0 0)).run P w = _
  generalize 9999 = N
  cases A <;> simp [Op.equalIn, run_underlying ht]
theorem run_eql_nil (P : Program) (w : World) {t e : TypeId} (ht : P.underlying t = some (.slice e)) (A : Option Addr) (n c : Nat) : (binOp .eql t (.slice A n c) (.slice none 0 0)).run P w = .ok (.bool A.isNone) w := by
  have := run_equal_nil P w ht A n c
  show ((do pure (.bool (← Op.equal t (.slice A n c) (.slice none 0 0))) : Sem Value)).run P w = _
  simp [this]
theorem run_neq_nil (P : Program) (w : World) {t e : TypeId} (ht : P.underlying t = some (.slice e)) (A : Option Addr) (n c : Nat) : (binOp .neq t (.slice A n c) (.slice none 0 0)).run P w = .ok (.bool (!A.isNone)) w := by
  have := run_equal_nil P w ht A n c
  show ((do pure (.bool (!(← Op.equal t (.slice A n c) (.slice none 0 0)))) : Sem Value)).run P w = _
  simp [this]
theorem y_pick {x y z : Operand} {dx dy dz : D} (ho : o.op = .pick x y z) (hx : Rel w g (a.eval x) dx) (hy : Rel w g (a.eval y) dy) (hz : Rel w g (a.eval z) dz)
    (hk : wBool dx fun t => k (pickD t dy dz)) : Yields P o a w g k := by
  obtain ⟨b, hv, rfl, hk⟩ := wBool_rel hx hk
  cases b
  · exact ⟨a.eval z, dz, by simp [execOp, ho, hv, asBool], hz, hk⟩
  · exact ⟨a.eval y, dy, by simp [execOp, ho, hv, asBool], hy, hk⟩
theorem y_bin {op : BinOp} {x y : Operand} {xt yt : TypeId} {dx dy : D} (ho : o.op = .binOp op xt x y yt) (hx : Rel w g (a.eval x) dx) (hy : Rel w g (a.eval y) dy)
    (hk : wBin P xt op dx dy k) : Yields P o a w g k := by
  cases op <;> simp only [wBin] at hk
  case add => 
    unfold wAdd at hk
    split at hk
    · split at hk
      · generalize h1 : a.eval x = v1 at hx
        generalize h2 : a.eval y = v2 at hy
        cases hx; cases hy
        rename_i sa _ sb
        exact ⟨.string (sa ++ sb), _, by
          have hn : ¬ (IntKind.i64.max < ((sa.size : Int) + (sb.size : Int))) := by
            have : IntKind.i64.max = 9223372036854775807 := rfl
            omega
          simp [execOp, ho, h1, h2, eqGuard, binOp, Op.stringOp]
          omega, .str _ _, hk.2⟩
      · exact hk.elim
    obtain ⟨q, n, m, h1, h2, hr, hk⟩ := wInt2_rel hx hy hk
    exact ⟨.int q (n + m), _, by simp [execOp, ho, h1, h2, eqGuard, binOp, Op.intArith, hr.wrap], .int _ _ _, hk⟩
  case sub => 
    obtain ⟨q, n, m, h1, h2, hr, hk⟩ := wInt2_rel hx hy hk
    exact ⟨.int q (n - m), _, by simp [execOp, ho, h1, h2, eqGuard, binOp, Op.intArith, hr.wrap], .int _ _ _, hk⟩
  case mul => 
    obtain ⟨q, n, m, h1, h2, hr, hk⟩ := wInt2_rel hx hy hk
    exact ⟨.int q (n * m), _, by simp [execOp, ho, h1, h2, eqGuard, binOp, Op.intArith, hr.wrap], .int _ _ _, hk⟩
  case quo =>
    obtain ⟨q, n, m, h1, h2, h0, hr, hk⟩ := wInt2_rel hx hy hk
    exact ⟨.int q (n.tdiv m), _, by simp [execOp, ho, h1, h2, eqGuard, binOp, Op.intDiv, h0, hr.wrap], .int _ _ _, hk⟩
  case rem =>
    obtain ⟨q, n, m, h1, h2, h0, hk⟩ := wInt2_rel hx hy hk
    exact ⟨.int q (n.tmod m), _, by simp [execOp, ho, h1, h2, eqGuard, binOp, Op.intDiv, h0], .int _ _ _, hk⟩
  case lss =>
    obtain ⟨q, n, m, h1, h2, hk⟩ := wInt2_rel hx hy hk
    exact ⟨.bool (decide (n < m)), _, by simp [execOp, ho, h1, h2, eqGuard, binOp, Op.intCmp], .bool _ _, hk⟩
  case leq =>
    obtain ⟨q, n, m, h1, h2, hk⟩ := wInt2_rel hx hy hk
    exact ⟨.bool (decide (n ≤ m)), _, by simp [execOp, ho, h1, h2, eqGuard, binOp, Op.intCmp], .bool _ _, hk⟩
  case gtr =>
    obtain ⟨q, n, m, h1, h2, hk⟩ := wInt2_rel hx hy hk
    exact ⟨.bool (decide (m < n)), _, by simp [execOp, ho, h1, h2, eqGuard, binOp, Op.intCmp], .bool _ _, hk⟩
  case geq =>
    obtain ⟨q, n, m, h1, h2, hk⟩ := wInt2_rel hx hy hk
    exact ⟨.bool (decide (m ≤ n)), _, by simp [execOp, ho, h1, h2, eqGuard, binOp, Op.intCmp], .bool _ _, hk⟩
  case eql =>
    rcases wEq_rel hx hy hk with ⟨q, n, m, h1, h2, hk⟩ | ⟨b, b', h1, h2, ht, hk⟩ | ⟨s, s', h1, h2, hk⟩ | ⟨xs, ys, hl, he, h1, h2, hk⟩ | ⟨b, A, n, c, e, h1, h2, ht, hb, hk⟩
    · exact ⟨.bool (decide (n = m)), _, by simp [execOp, ho, h1, h2, eqGuard, binOp, Op.intCmp]; rfl, .bool _ _, hk⟩
    · exact ⟨.bool (b == b'), _, by simp [execOp, ho, h1, h2, eqGuard, run_eql_bool w _ _ _ ht], .bool _ _, hk⟩
    · exact ⟨.bool (s.toList == s'.toList), _, by simp [execOp, ho, h1, h2, eqGuard, binOp, Op.stringOp], .bool _ _, hk⟩
    · have hr := (he.2 xs ys w rfl hl.symm).1
      exact ⟨.bool (decide (xs = ys)), _, by simp [execOp, ho, h1, h2, eqGuard, he.1, hr], .bool _ _, hk⟩
    · refine ⟨.bool b, _, ?_, .bool _ _, hk⟩
      subst hb
      simp [execOp, ho, h1, h2, eqGuard, run_eql_nil P w ht]
  case neq =>
    rcases wEq_rel hx hy hk with ⟨q, n, m, h1, h2, hk⟩ | ⟨b, b', h1, h2, ht, hk⟩ | ⟨s, s', h1, h2, hk⟩ | ⟨xs, ys, hl, he, h1, h2, hk⟩ | ⟨b, A, n, c, e, h1, h2, ht, hb, hk⟩
    · exact ⟨.bool (!decide (n = m)), _, by simp [execOp, ho, h1, h2, eqGuard, binOp, Op.intCmp]; rfl, .bool _ _, hk⟩
    · exact ⟨.bool (!(b == b')), _, by simp [execOp, ho, h1, h2, eqGuard, run_neq_bool w _ _ _ ht], .bool _ _, hk⟩
    · exact ⟨.bool (!(s.toList == s'.toList)), _, by simp [execOp, ho, h1, h2, eqGuard, binOp, Op.stringOp], .bool _ _, hk⟩
    · have hr := (he.2 xs ys w rfl hl.symm).2
      exact ⟨.bool (!decide (xs = ys)), _, by simp [execOp, ho, h1, h2, eqGuard, he.1, hr], .bool _ _, hk⟩
    · refine ⟨.bool (!b), _, ?_, .bool _ _, hk⟩
      subst hb
      simp [execOp, ho, h1, h2, eqGuard, run_neq_nil P w ht]
  case shr =>
    obtain ⟨q, n, h1, rfl, hk⟩ := wInt_rel hx hk
    obtain ⟨q', m, h2, rfl, h0, hb, hk⟩ := wInt_rel hy hk
    exact ⟨.int q (n.fdiv (2 ^ m.toNat)), _, by simp [execOp, ho, h1, h2, eqGuard, binOp, Op.shift, show ¬ m < 0 by omega, show min m.toNat q.bits = m.toNat by omega], .int _ _ _, hk⟩
  case shl =>
    obtain ⟨q, n, h1, rfl, hk⟩ := wInt_rel hx hk
    obtain ⟨q', m, h2, rfl, h0, hb, hr, hk⟩ := wInt_rel hy hk
    exact ⟨.int q (n * 2 ^ m.toNat), _, by simp [execOp, ho, h1, h2, eqGuard, binOp, Op.shift, show ¬ m < 0 by omega, show min m.toNat q.bits = m.toNat by omega, hr.wrap], .int _ _ _, hk⟩
  case and =>
    obtain ⟨q, n, m, h1, h2, hq, h0, h63, hm, hk⟩ := wInt2_rel hx hy hk
    refine ⟨.int q (andN n m), _, ?_, .int _ _ _, hk⟩
    have := and_mask q hq n m h0 h63 hm
    simp [execOp, ho, h1, h2, eqGuard, binOp, Op.intBits]
    exact this
theorem y_un {op : UnOp} {x : Operand} {xt : TypeId} {dx : D} (ho : o.op = .unOp op xt x) (hx : Rel w g (a.eval x) dx) (hk : wUn op dx k) : Yields P o a w g k := by
  cases op <;> simp only [wUn] at hk
  case not =>
    obtain ⟨b, h1, rfl, hk⟩ := wBool_rel hx hk
    exact ⟨.bool (!b), _, by simp [execOp, ho, h1, Op.unary], .bool _ _, hk⟩
  case neg =>
    obtain ⟨q, n, h1, rfl, hr, hk⟩ := wInt_rel hx hk
    exact ⟨.int q (-n), _, by simp [execOp, ho, h1, Op.unary, Op.intArith, hr.wrap], .int _ _ _, hk⟩
theorem y_extract {x : Operand} {i : Nat} {dx : D} (ho : o.op = .extract x i) (hx : Rel w g (a.eval x) dx) (hk : wTup dx fun ds => wOpt ds[i]? k) : Yields P o a w g k := by
  cases dx <;> simp only [wTup] at hk
  rename_i ds
  obtain ⟨d, hd, hk⟩ := wOpt_some hk
  generalize hv : a.eval x = v at hx
  cases hx with
  | tup _ vs _ hl hr =>
    have hil : i < vs.size := by rw [hl]; exact (List.getElem?_eq_some_iff.1 hd).1
    refine ⟨vs[i], d, ?_, by have := hr i d hd; simpa [hil] using this, hk⟩
    simp [execOp, ho, hv, Instr.extract, hil]
theorem bytesL_ints : ∀ {xs : List D} {b : List UInt8}, bytesL xs = some b → ∃ ns : List Int, xs = ns.map (D.int .u8) ∧ b = ns.map fun n => UInt8.ofNat n.toNat
  | [], b, h => by simp only [bytesL, Option.some.injEq] at h; subst h; exact ⟨[], rfl, rfl⟩
  | d :: xs, b, h => by
    unfold bytesL at h
    split at h
    · rename_i e; cases e
    · rename_i n l e
      injection e with e1 e2
      subst e1; subst e2
      obtain ⟨b', h1, rfl⟩ := Option.map_eq_some_iff.1 h
      obtain ⟨ns, e1, rfl⟩ := bytesL_ints h1
      exact ⟨n :: ns, by rw [e1]; rfl, rfl⟩
    · cases h
theorem flat_u8 : ∀ ns : List Int, flat (ns.map (D.int .u8)) = ns.map (D.int .u8)
  | [] => rfl
  | n :: ns => by show D.cells (.int .u8 n) ++ flat (ns.map (D.int .u8)) = _; rw [flat_u8 ns]; rfl
theorem y_convert {s t : TypeId} {x : Operand} {dx : D} (ho : o.op = .convert s t x) (hx : Rel w g (a.eval x) dx)
    (hk : wConv P s t dx k) : Yields P o a w g k := by
  unfold wConv at hk
  split at hk
  · rename_i xs
    obtain ⟨hst, hk⟩ := hk
    have hu : P.underlying t = some .string := by unfold strTy at hst; split at hst <;> simp_all
    obtain ⟨e, he, hk⟩ := wOpt_some hk
    obtain ⟨q, hq, rfl, hk⟩ := wOpt_some hk
    obtain ⟨b, hb, hk⟩ := wOpt_some hk
    have he' : P.underlying s = some (.slice e) := by unfold elemOf at he; split at he <;> simp_all
    have hq' : P.underlying e = some (.int .u8) := by unfold intOfTy at hq; split at hq <;> simp_all
    obtain ⟨ns, rfl, rfl⟩ := bytesL_ints hb
    generalize hv : a.eval x = v at hx
    cases hx with
    | list _ A n c _ sz u hn hsz hc hm hr =>
    rw [flat_u8] at hm hr
    refine ⟨.string (strOfNums ns), _, ?_, .str _ _, hk⟩
    have hrun : (convert s t (.slice A n c)).run P w = .ok (.string (strOfNums ns)) w := by
      cases A with
      | none =>
        have : ns = [] := by
          cases ns with
          | nil => rfl
          | cons m ms => obtain ⟨ad, h, _⟩ := hm 0 (by simp); cases h
        subst this
        rw [run_convert_bytes_nil w s e he' hq' n c t hu]; rfl
      | some ad =>
        have hl : (loadCells ad n).run P w = .ok (ns.map (Value.int .u8)).toArray w := by
          have := run_loadCells_list (P := P) w ad (ns.map (Value.int .u8)) (fun j v hj => by
            have hjl : j < ns.length := by have := (List.getElem?_eq_some_iff.1 hj).1; simpa using this
            obtain ⟨ad', h1, h2, _⟩ := hm j (by simpa using hjl)
            cases h1
            have h3 := hr j (.int .u8 ns[j]) (by rw [List.getElem?_map, List.getElem?_eq_getElem hjl]; rfl)
            rw [List.getElem?_map, List.getElem?_eq_getElem hjl] at hj
            simp only [Option.map_some, Option.some.injEq] at hj
            subst hj
            rw [h2]
            generalize u j = v' at h3
            cases h3; rfl)
          have hn' : n = ns.length := by simpa using hn
          simpa [hn'] using this
        rw [run_convert_bytes_string w s t e _ n c he' hq' hu, run_bytesToString w _ n c ns hl, foldl_push_bytes]
        simp [strOfNums, ByteArray.empty, ByteArray.emptyWithCapacity]
        rfl
    simp [execOp, ho, hv, hrun]
  obtain ⟨qs, hs, hk⟩ := wOpt_some hk
  obtain ⟨qt, ht, hk⟩ := wOpt_some hk
  obtain ⟨q, n, h1, rfl, hr, hk⟩ := wInt_rel hx hk
  have hs' : P.underlying s = some (.int qs) := by
    unfold intOfTy at hs; split at hs <;> simp_all
  have ht' : P.underlying t = some (.int qt) := by
    unfold intOfTy at ht; split at ht <;> simp_all
  exact ⟨.int qt n, _, by simp [execOp, ho, h1, convert, run_underlying hs', run_underlying ht', Conv.intToInt, hr.wrap], .int _ _ _, hk⟩
theorem szOf_info {t : TypeId} (h : szOf P t ≠ 0) : ∃ i, P.info? t = some i ∧ i.size = szOf P t := by
  unfold szOf Program.cellsOf at *
  cases hi : P.info? t with
  | none => simp [hi] at h
  | some i => exact ⟨i, rfl, by simp⟩
theorem run_sizeOf {t : TypeId} (h : szOf P t ≠ 0) (w : World) : (sizeOf t).run P w = .ok (szOf P t) w := by
  obtain ⟨i, hi, hs⟩ := szOf_info h
  simp [sizeOf, typeInfo, hi, hs]
/-- A pointer to cells that read as a list: the cells one by one. -/
theorem Rel.ro_inv {v : Value} {cs : List D} (h : Rel w g v (.ro cs)) : ∃ (ad : Addr) (u : Nat → Value), v = .pointer (some ad) ∧
    (∀ q, q < cs.length → w.cell? (ad.add q) = some (u q) ∧ g.S (ad.add q) ∧ (u q).oneCell' = true) ∧ ∀ q d, cs[q]? = some d → Rel w g.er (u q) d := by
  cases h with
  | ro _ ad _ u hm hr => exact ⟨ad, u, rfl, hm, hr⟩
theorem keeps_er (w : World) (g : Gh) : Keeps w g.er w g := ⟨fun _ _ => rfl, fun _ h => h, fun i b h => by simp [Gh.er] at h, fun i b h => by simp [Gh.er] at h, fun _ _ h => h⟩
/-- What is known of the boxes and rows. -/
structure Mem (w : World) (g : Gh) (bx : List Bx) (rw : List Row) : Prop where
  bx : ∀ (i : Nat) (cs : List D), (bx[i]? = some (.mu cs) ∨ bx[i]? = some (.fz cs)) → ∃ b vs t, g.β[i]? = some b ∧ w.heap[b]? = some (.cells vs t (0, 0)) ∧ CellsR w g vs cs
  rw : ∀ (r : Nat) (row : Row), rw[r]? = some row → ∃ v, g.ρ[r]? = some v ∧ Rel w g v (.list row.xs)
theorem RG.mem {c : Ctx} {s : St} (h : RG c s a w g) : Mem w g s.bx s.rw where
  bx i cs hi := by
    rcases hi with hi | hi
    · obtain ⟨b, vs, t, e1, e2, e3, _⟩ := (h.bx i cs hi).ex
      exact ⟨b, vs, t, e1, e2, e3⟩
    · obtain ⟨b, vs, t, e1, e2, e3, _⟩ := (h.fz i cs hi).ex
      exact ⟨b, vs, t, e1, e2, e3.keep (keeps_er _ _)⟩
  rw r row hr := by
    obtain ⟨v, e1, e2, _⟩ := (h.rw r row hr).ex
    exact ⟨v, e1, e2⟩
theorem wBx_some {bx : List Bx} {i : Nat} {kb : List D → Prop} (h : wBx bx i kb) : ∃ cs, (bx[i]? = some (.mu cs) ∨ bx[i]? = some (.fz cs)) ∧ kb cs := by
  unfold wBx at h
  split at h
  · exact ⟨_, .inl (by assumption), h⟩
  · exact ⟨_, .inr (by assumption), h⟩
  · exact h.elim
theorem add_block (b o q : Nat) : (⟨b, o, none⟩ : Addr).add q = ⟨b, o + q, none⟩ := by
  unfold Addr.add; split <;> simp_all
theorem aggO_run {t : TypeId} {b : Bool} (h : aggO P t = some b) (w : World) : (isAgg t).run P w = .ok b w := by
  unfold aggO at h
  split at h <;> simp only [Option.some.injEq, reduceCtorEq] at h
  · subst h; simp [isAgg, run_underlying ‹_›]
  · subst h; simp [isAgg, run_underlying ‹_›]
  · rename_i d h1 h2 hd
    subst h
    cases d <;> first | exact (h1 _ rfl).elim | exact (h2 _ _ rfl).elim | simp [isAgg, run_underlying hd]
theorem run_loadVar' {t : TypeId} {ad : Addr} {cs : List D} {u : Nat → Value} (hm : ∀ q, q < cs.length → w.cell? (ad.add q) = some (u q) ∧ (u q).oneCell' = true)
    (hr : ∀ q d, cs[q]? = some d → Rel w g (u q) d) (hk : wTake P t cs k) : ∃ v d, (loadVar t ad).run P w = .ok v w ∧ Rel w g v d ∧ k d := by
  unfold wTake at hk
  obtain ⟨b, hb, hk⟩ := wOpt_some hk
  have hag := aggO_run hb w
  cases b with
  | true =>
    obtain ⟨hz, hle, hk⟩ := hk
    refine ⟨.agg ((List.range (szOf P t)).map u).toArray, .agg (cs.take (szOf P t)), ?_, ?_, hk⟩
    · have hrun := run_loadCells (P := P) (w := w) ad (szOf P t) u (fun j hj => (hm j (by omega)).1)
      simp [loadVar, hag, run_sizeOf hz, hrun]
    · refine .agg _ _ _ (by simp; omega) (fun q hq => ?_) (fun q d hd => ?_)
      · simp only [List.length_take] at hq
        have h1 : q < szOf P t := by omega
        simp [h1]
        exact (hm q (by omega)).2
      · have hq := (List.getElem?_eq_some_iff.1 hd).1
        simp only [List.length_take] at hq
        have h1 : q < szOf P t := by omega
        rw [List.getElem?_take, if_pos h1] at hd
        simp [h1]
        exact hr q d hd
  | false =>
    cases cs with
    | nil => exact hk.elim
    | cons d cs =>
      refine ⟨u 0, d, ?_, hr 0 d rfl, hk⟩
      have h0 := (hm 0 (by simp)).1
      simp only [Addr.add] at h0
      simp at h0
      simp [loadVar, hag, h0]
theorem box_cells {b : Nat} {vs : Array Value} {t : TypeId} {cs : List D} (h : w.heap[b]? = some (.cells vs t (0, 0))) (hc : CellsR w g vs cs) (off : Nat) :
    (∀ q, q < (cs.drop off).length → w.cell? ((⟨b, off, none⟩ : Addr).add q) = some (vs.getD (off + q) Go.undef) ∧ (vs.getD (off + q) Go.undef).oneCell' = true) ∧
    ∀ q d, (cs.drop off)[q]? = some d → Rel w g (vs.getD (off + q) Go.undef) d := by
  have hcell : ∀ q, off + q < cs.length → w.cell? ((⟨b, off, none⟩ : Addr).add q) = some (vs.getD (off + q) Go.undef) := fun q hq => by
    rw [add_block, cell_of_row w b (off + q) vs t (0, 0) h]
    have : off + q < vs.size := by rw [hc.1]; exact hq
    simp [this]
  refine ⟨fun q hq => ?_, fun q d hd => ?_⟩
  · simp only [List.length_drop] at hq
    have hl : off + q < cs.length := by omega
    exact ⟨hcell q hl, (hc.2 (off + q) _ (List.getElem?_eq_getElem hl)).2⟩
  · rw [List.getElem?_drop] at hd
    exact (hc.2 _ d hd).1
theorem y_load {t : TypeId} {x : Operand} {dx : D} {bx : List Bx} {rw' : List Row} (ho : o.op = .load t x) (hx : Rel w g (a.eval x) dx) (hM : Mem w g bx rw') (hk : wLoad P bx t dx k) : Yields P o a w g k := by
  cases dx <;> simp only [wLoad] at hk
  case box i off =>
    obtain ⟨cs, hcs, hk⟩ := wBx_some hk
    obtain ⟨b, vs, tb, e1, e2, e3⟩ := hM.bx i cs hcs
    generalize hv : a.eval x = v at hx
    cases hx with
    | box _ _ _ b' hb' =>
      obtain rfl : b' = b := by rw [e1] at hb'; exact (Option.some.inj hb').symm
      obtain ⟨h1, h2⟩ := box_cells e2 e3 off
      obtain ⟨v, d, hrun, hr, hk⟩ := run_loadVar' (P := P) (t := t) (ad := ⟨b', off, none⟩) h1 h2 hk
      exact ⟨v, d, by simp [execOp, ho, hv, Instr.loadAt, Instr.sureAddr, hrun], hr, hk⟩
  case ro cs =>
    obtain ⟨ad, u, hv, hm, hr⟩ := hx.ro_inv
    obtain ⟨v, d, hrun, hr, hk⟩ := run_loadVar' (P := P) (w := w) (g := g) (t := t) (ad := ad) (cs := cs) (u := u) (fun q hq => ⟨(hm q hq).1, (hm q hq).2.2⟩) (fun q d hd => (hr q d hd).keep (keeps_er _ _)) hk
    exact ⟨v, d, by simp [execOp, ho, hv, Instr.loadAt, Instr.sureAddr, hrun], hr, hk⟩
theorem add_add' (a : Addr) (i j : Nat) : (a.add i).add j = a.add (i + j) := by
  unfold Addr.add
  by_cases hi : i = 0 <;> by_cases hj : j = 0 <;> simp [hi, hj, Nat.add_assoc]
theorem wShift_rel {v : Value} {d : D} {q : Nat} (h : Rel w g v d) (hk : wShift d q k) : ∃ ad d', v = .pointer (some ad) ∧ Rel w g (.pointer (some (ad.add q))) d' ∧ k d' := by
  cases d <;> simp only [wShift] at hk
  case box i off =>
    cases h with
    | box _ _ _ b hb => exact ⟨⟨b, off, none⟩, _, rfl, by rw [add_block]; exact .box _ i (off + q) b hb, hk⟩
  case ro cs =>
    obtain ⟨ad, u, hv, hm, hr⟩ := h.ro_inv
    refine ⟨ad, _, hv, .ro _ _ _ (fun j => u (q + j)) (fun j hj => ?_) (fun j d hd => ?_), hk⟩
    · simp only [List.length_drop] at hj
      rw [add_add']
      exact hm (q + j) (by omega)
    · rw [List.getElem?_drop] at hd
      exact hr _ d hd
theorem y_fieldAddr {s : TypeId} {x : Operand} {f : Nat} {dx : D} (ho : o.op = .fieldAddr s x f) (hx : Rel w g (a.eval x) dx) (hk : wOpt (fieldOff P s f) fun ot => wShift dx ot.1 k) : Yields P o a w g k := by
  obtain ⟨⟨off, tf⟩, hf, hk⟩ := wOpt_some hk
  obtain ⟨ad, d', hv, hr, hk2⟩ := wShift_rel hx hk
  unfold fieldOff at hf
  split at hf
  · rename_i fs hu
    split at hf
    · rename_i fd hfd
      split at hf
      · cases hf
      · rename_i hz
        simp only [Option.some.injEq, Prod.mk.injEq] at hf
        obtain ⟨rfl, rfl⟩ := hf
        have hz' : szOf P fd.type ≠ 0 := hz
        exact ⟨.pointer (some (ad.add fd.offset)), d', by simp [execOp, ho, hv, Instr.fieldAt, run_underlying hu, hfd, Instr.sureAddr, fieldPlace, run_sizeOf hz', hz'], hr, hk2⟩
    · cases hf
  · cases hf
theorem wSl_rel {v : Value} {d : D} {bx : List Bx} {rw' : List Row} {kl : List D → Prop} (hM : Mem w g bx rw') (h : Rel w g v d) (hk : wSl rw' d kl) : ∃ xs, Rel w g v (.list xs) ∧ kl xs := by
  cases d <;> simp only [wSl] at hk
  case list xs => exact ⟨xs, h, hk⟩
  case own r =>
    split at hk
    · rename_i row hrow
      obtain ⟨v', e1, e2⟩ := hM.rw r row hrow
      cases h with
      | own _ _ _ h' => rw [e1] at h'; cases h'; exact ⟨_, e2, hk⟩
    · exact hk.elim
theorem flat_length (sz : Nat) : ∀ (xs : List D), (∀ x ∈ xs, x.cells.length = sz) → (flat xs).length = xs.length * sz
  | [], _ => by simp [flat]
  | x :: xs, h => by
    have := flat_length sz xs (fun y hy => h y (List.mem_cons_of_mem _ hy))
    simp only [flat, List.flatMap_cons, List.length_append, List.length_cons] at this ⊢
    rw [this, h x (List.mem_cons_self ..), Nat.add_mul, Nat.one_mul, Nat.add_comm]
theorem flat_at (sz : Nat) : ∀ (xs : List D) (i : Nat) (x : D), (∀ x ∈ xs, x.cells.length = sz) → xs[i]? = some x → ∀ j, j < sz → (flat xs)[i * sz + j]? = x.cells[j]?
  | [], i, x, _, h => by simp at h
  | y :: xs, 0, x, hs, h => by
    intro j hj
    simp only [List.getElem?_cons_zero, Option.some.injEq] at h
    subst h
    simp only [flat, List.flatMap_cons, Nat.zero_mul, Nat.zero_add]
    rw [List.getElem?_append_left (by rw [hs y (List.mem_cons_self ..)]; exact hj)]
  | y :: xs, i + 1, x, hs, h => by
    intro j hj
    have ih := flat_at sz xs i x (fun z hz => hs z (List.mem_cons_of_mem _ hz)) (by simpa using h) j hj
    simp only [flat, List.flatMap_cons] at ih ⊢
    have e := hs y (List.mem_cons_self ..)
    rw [List.getElem?_append_right (by rw [e, Nat.add_mul]; omega), e]
    rw [show (i + 1) * sz + j - sz = i * sz + j by rw [Nat.add_mul]; omega]
    exact ih
theorem Rel.list_inv {v : Value} {xs : List D} (h : Rel w g v (.list xs)) : ∃ (A : Option Addr) (c sz : Nat) (u : Nat → Value), v = .slice A xs.length c ∧ (∀ x ∈ xs, x.cells.length = sz) ∧
    (∀ q, q < (flat xs).length → ∃ ad, A = some ad ∧ w.cell? (ad.add q) = some (u q) ∧ g.S (ad.add q) ∧ (u q).oneCell' = true) ∧
    ∀ q d, (flat xs)[q]? = some d → Rel w g.er (u q) d := by
  cases h with
  | list _ A n c _ sz u hn hsz hcap hm hr => subst hn; exact ⟨A, c, sz, u, rfl, hsz, hm, hr⟩
/-- One element of a slice: a pointer to its cells. -/
theorem Rel.elem {A : Option Addr} {c : Nat} {xs : List D} {i : Nat} {x : D} (h : Rel w g (.slice A xs.length c) (.list xs)) (hi : xs[i]? = some x) (hz : x.cells.length ≠ 0) :
    ∃ ad, A = some ad ∧ Rel w g (.pointer (some (ad.add (i * x.cells.length)))) (.ro x.cells) := by
  obtain ⟨A', c', sz, u, e, hsz, hm, hr⟩ := h.list_inv
  simp only [Value.slice.injEq] at e
  obtain ⟨rfl, _, rfl⟩ := e
  have hx : x.cells.length = sz := hsz x (List.mem_of_getElem? hi)
  have hil := (List.getElem?_eq_some_iff.1 hi).1
  have hfl := flat_length sz xs hsz
  have hb : ∀ j, j < sz → i * sz + j < (flat xs).length := fun j hj => by
    rw [hfl]
    calc i * sz + j < i * sz + sz := by omega
      _ = (i + 1) * sz := by rw [Nat.add_mul]; omega
      _ ≤ xs.length * sz := Nat.mul_le_mul_right _ hil
  obtain ⟨ad, rfl, _⟩ := hm (i * sz + 0) (hb 0 (by omega))
  refine ⟨ad, rfl, .ro _ _ _ (fun j => u (i * sz + j)) (fun j hj => ?_) (fun j d hd => ?_)⟩
  · obtain ⟨ad', e, h1, h2, h3⟩ := hm (i * sz + j) (hb j (by omega))
    cases e
    rw [hx, add_add']
    exact ⟨h1, h2, h3⟩
  · have hj : j < sz := by rw [← hx]; exact (List.getElem?_eq_some_iff.1 hd).1
    exact hr _ d (by rw [flat_at sz xs i x hsz hi j hj]; exact hd)
theorem elemOf_u {t e : TypeId} (h : elemOf P t = some e) : P.underlying t = some (.slice e) := by
  unfold elemOf at h; split at h <;> simp_all
theorem arrOf_u {t : TypeId} {ne : Nat × TypeId} (h : arrOf P t = some ne) : P.underlying t = some (.array ne.1 ne.2) := by
  unfold arrOf at h; split at h <;> simp_all; obtain ⟨rfl, rfl⟩ := h; exact ⟨rfl, rfl⟩
theorem y_indexAddr {t : TypeId} {x ix : Operand} {dx di : D} {bx : List Bx} {rw' : List Row} (ho : o.op = .indexAddr t x ix) (hx : Rel w g (a.eval x) dx) (hi : Rel w g (a.eval ix) di)
    (hM : Mem w g bx rw') (hk : wIdxA P rw' t dx di k) : Yields P o a w g k := by
  unfold wIdxA at hk
  split at hk
  · rename_i e he
    split at hk
    · rename_i i off m cp
      obtain ⟨q, n, hn, rfl, hz, h0, hlt, hk⟩ := wInt_rel hi hk
      generalize hv : a.eval x = vx at hx
      cases hx with
      | bsl _ _ _ _ _ b hb =>
      refine ⟨_, _, ?_, .box _ _ _ b hb, hk⟩
      simp [execOp, ho, hv, hn, Instr.indexAt, asIntOf, run_underlying (elemOf_u he), h0, hlt, run_sizeOf hz, Addr.add]
    obtain ⟨xs, hxs, hk⟩ := wSl_rel hM hx hk
    obtain ⟨q, n, hn, rfl, h0, d, hd, hz, hl, hk⟩ := wInt_rel hi hk
    obtain ⟨A, c, _, _, hv, _⟩ := hxs.list_inv
    rw [hv] at hxs
    obtain ⟨ad, rfl, hel⟩ := hxs.elem hd (by rw [hl]; exact hz)
    have hlt : n.toNat < xs.length := (List.getElem?_eq_some_iff.1 hd).1
    refine ⟨_, _, ?_, hel, hk⟩
    simp [execOp, ho, hv, hn, Instr.indexAt, asIntOf, run_underlying (elemOf_u he), h0, show n < (xs.length : Int) by omega, run_sizeOf hz, hl]
  · obtain ⟨ne, hne, hk⟩ := wOpt_some hk
    obtain ⟨q, n, hn, rfl, hz, h0, hlt, hk⟩ := wInt_rel hi hk
    obtain ⟨ad, d', hv, hr, hk2⟩ := wShift_rel hx hk
    refine ⟨_, _, ?_, hr, hk2⟩
    simp [execOp, ho, hv, hn, Instr.indexAt, asIntOf, run_underlying (arrOf_u hne), Instr.sureAddr, h0, hlt, run_sizeOf hz]
theorem y_len {x : Operand} {t : TypeId} {dx : D} {bx : List Bx} {rw' : List Row} (ho : o.op = .call { callee := .builtin .len, args := #[x], argTypes := #[t] }) (hx : Rel w g (a.eval x) dx)
    (hM : Mem w g bx rw') (hk : wLen P t rw' dx k) : Yields P o a w g k := by
  unfold wLen at hk
  split at hk
  · rename_i e he
    have hu := elemOf_u he
    split at hk
    · rename_i xs
      obtain ⟨A, c, _, _, hv, _⟩ := hx.list_inv
      exact ⟨.int .i64 xs.length, _, by simp [execOp, ho, hv, resolve, invoke, builtin, Builtin.len_, run_underlying hu, goInt], .int _ _ _, hk⟩
    · rename_i r
      obtain ⟨row, hrow, hk⟩ := wOpt_some hk
      obtain ⟨v', e1, e2⟩ := hM.rw r row hrow
      generalize hv : a.eval x = v at hx
      cases hx with
      | own _ _ _ h' =>
        rw [e1] at h'; cases h'
        obtain ⟨A, c, _, _, rfl, _⟩ := e2.list_inv
        exact ⟨.int .i64 row.xs.length, _, by simp [execOp, ho, hv, resolve, invoke, builtin, Builtin.len_, run_underlying hu, goInt], .int _ _ _, hk⟩
    · generalize hv : a.eval x = v at hx
      cases hx
      exact ⟨.int .i64 0, _, by simp [execOp, ho, hv, resolve, invoke, builtin, Builtin.len_, run_underlying hu, goInt], .int _ _ _, hk⟩
    · generalize hv : a.eval x = v at hx
      cases hx
      rename_i n' _ _ _
      exact ⟨.int .i64 n', _, by simp [execOp, ho, hv, resolve, invoke, builtin, Builtin.len_, run_underlying hu, goInt], .int _ _ _, hk⟩
    · exact hk.elim
  · obtain ⟨hs, hk⟩ := hk
    have hu : P.underlying t = some .string := by unfold strTy at hs; split at hs <;> simp_all
    split at hk
    · rename_i s
      generalize hv : a.eval x = v at hx
      cases hx
      exact ⟨.int .i64 s.size, _, by simp [execOp, ho, hv, resolve, invoke, builtin, Builtin.len_, run_underlying hu, goInt], .int _ _ _, hk⟩
    · exact hk.elim
theorem y_max {x y : Operand} {at_ : Array TypeId} {dx dy : D} (ho : o.op = .call { callee := .builtin .max, args := #[x, y], argTypes := at_ }) (hx : Rel w g (a.eval x) dx) (hy : Rel w g (a.eval y) dy)
    (hk : wInt2 dx dy fun q n m => k (.int q (max n m))) : Yields P o a w g k := by
  obtain ⟨q, n, m, h1, h2, hk⟩ := wInt2_rel hx hy hk
  refine ⟨.int q (max n m), _, ?_, .int _ _ _, hk⟩
  have : (if m > n then m else n) = max n m := by split <;> omega
  simp [execOp, ho, h1, h2, resolve, invoke, builtin, Builtin.max_, Builtin.max2, this]
theorem y_min {x y : Operand} {at_ : Array TypeId} {dx dy : D} (ho : o.op = .call { callee := .builtin .min, args := #[x, y], argTypes := at_ }) (hx : Rel w g (a.eval x) dx) (hy : Rel w g (a.eval y) dy)
    (hk : wInt2 dx dy fun q n m => k (.int q (min n m))) : Yields P o a w g k := by
  obtain ⟨q, n, m, h1, h2, hk⟩ := wInt2_rel hx hy hk
  refine ⟨.int q (min n m), _, ?_, .int _ _ _, hk⟩
  have : (if m < n then m else n) = min n m := by split <;> omega
  simp [execOp, ho, h1, h2, resolve, invoke, builtin, Builtin.min_, Builtin.min2, this]
theorem y_makeFunc {f : FuncId} {cap : Array Operand} {ρ : Operand → D} (ho : o.op = .makeFunc (.func f) #[] cap) (hρ : ∀ x, Rel w g (a.eval x) (ρ x)) (hk : k (.clo f (cap.toList.map ρ))) : Yields P o a w g k := by
  refine ⟨.func (.func f) #[] (cap.map a.eval), _, by simp [execOp, ho, Instr.makeFunc], .clo _ _ _ _ (by simp) (fun q d hd => ?_), hk⟩
  simp only [List.getElem?_map, Array.getElem?_toList, Option.map_eq_some_iff] at hd
  obtain ⟨x, hx, rfl⟩ := hd
  have : (cap.map a.eval).getD q Go.undef = a.eval x := by
    have hl := (Array.getElem?_eq_some_iff.1 hx).1
    have he := (Array.getElem?_eq_some_iff.1 hx).2
    simp [hl, he]
  rw [this]
  exact hρ x
theorem y_makeMth {f : FuncId} {fs : List Operand} {ρ : Operand → D} (ho : o.op = .makeFunc (.func f) ⟨fs⟩ ⟨[]⟩) (hρ : ∀ x, Rel w g (a.eval x) (ρ x)) (hk : k (.mth f (fs.map ρ))) : Yields P o a w g k := by
  refine ⟨.func (.func f) ⟨fs.map a.eval⟩ #[], _, by simp [execOp, ho, Instr.makeFunc], .mth _ _ _ _ (by simp) (fun q d hd => ?_), hk⟩
  simp only [List.getElem?_map, Option.map_eq_some_iff] at hd
  obtain ⟨x, hx, rfl⟩ := hd
  have : (⟨fs.map a.eval⟩ : Array Value).getD q Go.undef = a.eval x := by
    have hl := (List.getElem?_eq_some_iff.1 hx).1
    have he := (List.getElem?_eq_some_iff.1 hx).2
    simp [hl, he]
  rw [this]
  exact hρ x
theorem wBnd_rel {ρ : Operand → D} (hρ : ∀ x, Rel w g (a.eval x) (ρ x)) {x : Option Operand} {dflt y : Nat} {code : BoundsCode} {kn : Nat → Prop} (hk : wBnd (x.map ρ) dflt y kn) :
    ∃ n, (match x.map a.eval with | some v => Instr.sliceBound v y code | none => pure dflt : Sem Nat).run P w = .ok n w ∧ kn n := by
  cases x with
  | none => exact ⟨dflt, rfl, hk⟩
  | some x =>
    obtain ⟨q, m, hv, hd, h0, hm, hk⟩ := wInt_rel (hρ x) hk
    exact ⟨m.toNat, by simp [Instr.sliceBound, asIntOf, hv, h0, hm], hk⟩
theorem flat_drop (n : Nat) : ∀ (l : Nat) (xs : List D), (∀ x ∈ xs, x.cells.length = n) → flat (xs.drop l) = (flat xs).drop (l * n)
  | 0, xs, _ => by simp
  | l + 1, [], _ => by simp [flat]
  | l + 1, x :: xs, h => by
    have ih := flat_drop n l xs (fun y hy => h y (List.mem_cons_of_mem _ hy))
    show flat (xs.drop l) = (x.cells ++ flat xs).drop ((l + 1) * n)
    have hx := h x (List.mem_cons_self ..)
    rw [ih, Nat.add_mul, Nat.one_mul, Nat.add_comm, ← List.drop_drop, ← hx, List.drop_left, hx]
theorem flat_sub (n : Nat) (xs : List D) (h : ∀ x ∈ xs, x.cells.length = n) (l m q : Nat) (hq : q < (flat ((xs.drop l).take m)).length) :
    l * n + q < (flat xs).length ∧ (flat ((xs.drop l).take m))[q]? = (flat xs)[l * n + q]? := by
  have e : flat (xs.drop l) = flat ((xs.drop l).take m) ++ flat ((xs.drop l).drop m) := by
    unfold flat; rw [← List.flatMap_append, List.take_append_drop]
  have e2 : (flat ((xs.drop l).take m))[q]? = (flat (xs.drop l))[q]? := by rw [e, List.getElem?_append_left hq]
  rw [flat_drop n l xs h, List.getElem?_drop] at e2
  refine ⟨?_, e2⟩
  have : (flat xs)[l * n + q]? ≠ none := by rw [← e2]; rw [List.getElem?_eq_getElem hq]; simp
  exact Nat.lt_of_not_le fun hle => this (List.getElem?_eq_none hle)
theorem y_slice {t : TypeId} {x : Operand} {lo hi : Option Operand} {ρ : Operand → D} (ho : o.op = .slice t x lo hi none) (hρ : ∀ x, Rel w g (a.eval x) (ρ x)) (hk : wSlice P t (ρ x) (lo.map ρ) (hi.map ρ) k) : Yields P o a w g k := by
  have hx := hρ x
  unfold wSlice at hk
  split at hk
  · rename_i i off hd
    obtain ⟨⟨n, e⟩, hne, hk⟩ := wOpt_some hk
    obtain ⟨h, r1, hk⟩ := wBnd_rel (P := P) (code := .sliceAlen) hρ hk
    obtain ⟨l, r2, hz, hk⟩ := wBnd_rel (P := P) (code := .sliceB) hρ hk
    rw [hd] at hx
    generalize hv : a.eval x = vx at hx
    cases hx with
    | box _ _ _ b hb =>
    refine ⟨_, _, ?_, .bsl _ i (if n = l then off else off + l * szOf P e) (h - l) (n - l) b hb, hk⟩
    have e1 : (Instr.sliceBounds false n n (lo.map a.eval) (hi.map a.eval) none).run P w = .ok (l, h, n) w := by
      cases hi <;> cases lo <;> simp [Instr.sliceBounds] at r1 r2 ⊢ <;> simp_all
    simp [execOp, ho, Instr.sliceAt, run_underlying (arrOf_u hne), hv, Instr.sureAddr, e1, run_sizeOf hz, add_block]
    split <;> rfl
  · rename_i i off n c hd
    obtain ⟨e, he, hk⟩ := wOpt_some hk
    obtain ⟨h, r1, hk⟩ := wBnd_rel (P := P) (code := .sliceAcap) hρ hk
    obtain ⟨l, r2, hz, hk⟩ := wBnd_rel (P := P) (code := .sliceB) hρ hk
    rw [hd] at hx
    generalize hv : a.eval x = vx at hx
    cases hx with
    | bsl _ _ _ _ _ b hb =>
    refine ⟨_, _, ?_, .bsl _ i (if c = l then off else off + l * szOf P e) (h - l) (c - l) b hb, hk⟩
    have e1 : (Instr.sliceBounds true n c (lo.map a.eval) (hi.map a.eval) none).run P w = .ok (l, h, c) w := by
      cases hi <;> cases lo <;> simp [Instr.sliceBounds] at r1 r2 ⊢ <;> simp_all
    simp [execOp, ho, Instr.sliceAt, Instr.slice, run_underlying (elemOf_u he), hv, e1, run_sizeOf hz, add_block]
    split <;> rfl
  · rename_i sb hd
    obtain ⟨hst, hk⟩ := hk
    have hu : P.underlying t = some .string := by unfold strTy at hst; split at hst <;> simp_all
    obtain ⟨h, r1, hk⟩ := wBnd_rel (P := P) (code := .sliceAlen) hρ hk
    obtain ⟨l, r2, hk⟩ := wBnd_rel (P := P) (code := .sliceB) hρ hk
    rw [hd] at hx
    generalize hv : a.eval x = vx at hx
    cases hx
    refine ⟨_, _, ?_, .str _ _, hk⟩
    have e1 : (Instr.sliceBounds false sb.size sb.size (lo.map a.eval) (hi.map a.eval) none).run P w = .ok (l, h, sb.size) w := by
      cases hi <;> cases lo <;> simp [Instr.sliceBounds] at r1 r2 ⊢ <;> simp_all
    simp [execOp, ho, Instr.sliceAt, Instr.slice, run_underlying hu, hv, e1]
  · rename_i xs hd
    obtain ⟨e, he, hk⟩ := wOpt_some hk
    rw [hd] at hx
    generalize hv : a.eval x = vx at hx
    cases hx with
    | list _ A n c _ sz u hn hsz hc hm hr =>
    have hb : ∃ h, (match hi.map a.eval with | some v => Instr.sliceBound v c .sliceAcap | none => pure n : Sem Nat).run P w = .ok h w ∧ h ≤ n ∧
        wBnd (lo.map ρ) 0 h fun l => szOf P e ≠ 0 ∧ (∀ d ∈ xs, d.cells.length = szOf P e) ∧ k (.list ((xs.drop l).take (h - l))) := by
      cases hi with
      | none => exact ⟨n, rfl, Nat.le_refl _, by rw [hn]; exact hk⟩
      | some y =>
        obtain ⟨q, m, hv', hd', h0, hm', hk⟩ := wInt_rel (hρ y) hk
        refine ⟨m.toNat, ?_, by omega, hk⟩
        have hmc : m ≤ (c : Int) := by omega
        simp [Instr.sliceBound, asIntOf, hv', h0, hmc]
    obtain ⟨h, r1, hhn, hk⟩ := hb
    obtain ⟨l, r2, hz, hall, hk⟩ := wBnd_rel (P := P) (code := .sliceB) hρ hk
    have e1 : (Instr.sliceBounds true n c (lo.map a.eval) (hi.map a.eval) none).run P w = .ok (l, h, c) w := by
      cases hi <;> cases lo <;> simp [Instr.sliceBounds] at r1 r2 ⊢ <;> simp_all
    refine ⟨.slice (if c = l then A else A.map (·.add (l * szOf P e))) (h - l) (c - l), _, ?_, .list _ _ _ _ _ (szOf P e) (fun q => u (l * szOf P e + q)) ?_ ?_ (by omega) ?_ ?_, hk⟩
    · simp [execOp, ho, Instr.sliceAt, Instr.slice, run_underlying (elemOf_u he), hv, e1, run_sizeOf hz]
    · simp; omega
    · intro y hy; exact hall y (List.mem_of_mem_drop (List.mem_of_mem_take hy))
    · intro q hq
      have hsub := flat_sub (szOf P e) xs hall l (h - l) q hq
      have hq' : l * szOf P e + q < (flat xs).length := hsub.1
      obtain ⟨ad, rfl, h2, h3, h4⟩ := hm _ hq'
      have hcl : c ≠ l := fun e => by
        have : (xs.drop l).take (h - l) = [] := by
          apply List.eq_nil_of_length_eq_zero
          simp; omega
        rw [this] at hq; simp [flat] at hq
      refine ⟨ad.add (l * szOf P e), by rw [if_neg hcl]; rfl, ?_, ?_, h4⟩
      · rw [add_add']; exact h2
      · rw [add_add']; exact h3
    · intro q d hq
      have hsub := flat_sub (szOf P e) xs hall l (h - l) q (List.getElem?_eq_some_iff.1 hq).1
      rw [hsub.2] at hq
      exact hr _ d hq
  · exact hk.elim
theorem wPart_rel {t : TypeId} {vs : List Value} {cs : List D} {off : Nat} (hl : vs.length = cs.length) (hr : ∀ q d, cs[q]? = some d → Rel w g (vs.getD q Go.undef) d ∧ (vs.getD q Go.undef).oneCell' = true)
    (hk : wPart P t cs off k) : ∃ v d, (part t vs.toArray off).run P w = .ok v w ∧ Rel w g v d ∧ k d := by
  unfold wPart at hk
  obtain ⟨b, hb, hk⟩ := wOpt_some hk
  have hag := aggO_run hb w
  cases b with
  | true =>
    obtain ⟨hz, hle, hk⟩ := hk
    refine ⟨.agg ((vs.drop off).take (szOf P t)).toArray, _, ?_, ?_, hk⟩
    · simp [part, hag, run_sizeOf hz, List.extract_eq_take_drop]
    · refine .agg _ _ _ (by simp; omega) (fun q hq => ?_) (fun q d hd => ?_)
      · simp only [List.length_take, List.length_drop] at hq
        have h1 : q < szOf P t := by omega
        have h2 : off + q < cs.length := by omega
        have := (hr (off + q) _ (List.getElem?_eq_getElem h2)).2
        simpa [List.getElem?_take, h1] using this
      · have hq := (List.getElem?_eq_some_iff.1 hd).1
        simp only [List.length_take, List.length_drop] at hq
        have h1 : q < szOf P t := by omega
        rw [List.getElem?_take, if_pos h1, List.getElem?_drop] at hd
        have := (hr (off + q) d hd).1
        simpa [List.getElem?_take, h1] using this
  | false =>
    obtain ⟨d, hd, hk⟩ := wOpt_some hk
    have hlt : off < vs.length := by rw [hl]; exact (List.getElem?_eq_some_iff.1 hd).1
    refine ⟨vs.getD off Go.undef, d, ?_, (hr off d hd).1, hk⟩
    simp [part, hag, hlt]
theorem y_field {s : TypeId} {x : Operand} {f : Nat} {dx : D} (ho : o.op = .field s x f) (hx : Rel w g (a.eval x) dx) (hk : wField P s dx f k) : Yields P o a w g k := by
  unfold wField at hk
  obtain ⟨⟨off, tf⟩, hf, hk⟩ := wOpt_some hk
  cases dx <;> simp only [wAgg] at hk
  obtain ⟨vs, hv, hl, hr⟩ := hx.agg_inv
  obtain ⟨v, d, hrun, hrel, hk2⟩ := wPart_rel hl hr hk
  unfold fieldOff at hf
  split at hf
  · rename_i fs hu
    split at hf
    · rename_i fd hfd
      split at hf
      · cases hf
      · simp only [Option.some.injEq, Prod.mk.injEq] at hf
        obtain ⟨rfl, rfl⟩ := hf
        exact ⟨v, d, by simp [execOp, ho, hv, Instr.field, run_underlying hu, hfd, asAgg, hrun], hrel, hk2⟩
    · cases hf
  · cases hf
theorem y_index {t : TypeId} {x ix : Operand} {dx di : D} (ho : o.op = .index t x ix) (hx : Rel w g (a.eval x) dx) (hi : Rel w g (a.eval ix) di) (hk : wIdx P t dx di k) : Yields P o a w g k := by
  unfold wIdx at hk
  obtain ⟨ne, hne, hk⟩ := wOpt_some hk
  cases dx <;> simp only [wAgg] at hk
  obtain ⟨vs, hv, hl, hr⟩ := hx.agg_inv
  obtain ⟨q, n, hn, rfl, hz, h0, hlt, hk⟩ := wInt_rel hi hk
  obtain ⟨v, d, hrun, hrel, hk⟩ := wPart_rel hl hr hk
  exact ⟨v, d, by simp [execOp, ho, hv, hn, Instr.index, asIntOf, run_underlying (arrOf_u hne), h0, hlt, run_sizeOf hz, hrun], hrel, hk⟩
theorem y_indexStr {t : TypeId} {x ix : Operand} {s : ByteArray} {n : Int} {q : IntKind} (ho : o.op = .index t x ix) (hx : Rel w g (a.eval x) (.str s)) (hi : Rel w g (a.eval ix) (.int q n)) (ht : strTy P t = true)
    (h0 : 0 ≤ n) (hl : n.toNat < s.size) (hk : k (.int .u8 (s[n.toNat]'hl).toNat)) : Yields P o a w g k := by
  generalize hv : a.eval x = v at hx
  generalize hn : a.eval ix = vi at hi
  cases hx; cases hi
  have hu : P.underlying t = some .string := by unfold strTy at ht; split at ht <;> simp_all
  have e : s[n.toNat]? = some s[n.toNat] := getElem?_pos s n.toNat hl
  exact ⟨.int .u8 (s[n.toNat]'hl).toNat, _, by simp [execOp, ho, hv, hn, Instr.index, asIntOf, run_underlying hu, h0, e], .int _ _ _, hk⟩
end
end Go.Ab
end
