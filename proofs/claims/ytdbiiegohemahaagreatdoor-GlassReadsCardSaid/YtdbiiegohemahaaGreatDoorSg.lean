import Derived.Test.YtdbiiegohemahaaGreatDoorTy
import Derived.Test.YtdbiiegohemahaaGreatDoorAbV
namespace Go.Ab
/-- Slots that are written out. -/
def slots (l : List (Nat × D)) : Nat → D := l.foldr (fun p f => put f p.1 p.2) none'
@[go_sem] theorem slots_nil : slots [] = none' := rfl
@[go_sem] theorem slots_cons {n : Nat} {d : D} {l : List (Nat × D)} : slots ((n, d) :: l) = put (slots l) n d := rfl
theorem slots_names {l : List (Nat × D)} {nb : Nat} (h : (l.all fun p => namesB nb 0 p.2) = true) : ∀ m, Names nb 0 (slots l m) := by
  intro m
  have := (named_of (n := 0) (l := l) (bx := List.replicate nb .dead) (rw := []) (by simpa using h) (by
    clear h
    induction nb with
    | zero => rfl
    | succ n ih =>
      have key : ∀ (k a b : Nat), namesBx a b (List.replicate k .dead) = true := by
        intro k; induction k with
        | zero => intros; rfl
        | succ k ih => intro a b; exact ih a b
      exact key _ _ _)).1 m
  simpa [mkSt, slots] using this
theorem le_slots {s : St} {n : Nat} {l : List (Nat × D)} {bx : List Bx} {rw : List Row} (hn : s.n = n) (hl : ∀ p ∈ l, s.sl p.1 = p.2) (hb : ∃ t, s.bx = bx ++ t) (hr : ∃ t, s.rw = rw ++ t) :
    Le s ⟨n, slots l, bx, rw⟩ := le_of hn hl hb hr
theorem le_none {s : St} {n : Nat} {bx : List Bx} {rw : List Row} (hn : s.n = n) (hb : s.bx = bx) (hr : s.rw = rw) : Le s ⟨n, none', bx, rw⟩ := ⟨hn.symm, fun _ => .inl rfl, ⟨[], by simp [hb]⟩, ⟨[], by simp [hr]⟩⟩
end Go.Ab
namespace Go.Proofs.YtdbiiegohemahaaGreatDoor
open Go.Ab
abbrev ints (xs : List Int) : D := .list (xs.map (D.int .i64))
abbrev intss (xss : List (List Int)) : D := .list (xss.map ints)
abbrev intsss (f : List (List (List Int))) : D := .list (f.map intss)
abbrev i64 (n : Int) : D := .int .i64 n
theorem boolD {b c : Bool} (h : b = true ↔ c = true) : D.bool b = D.bool c := by rw [Bool.eq_iff_iff.2 h]
/-- Data that names nothing of a frame's. -/
def Cl (cs : List D) : Prop := (∀ bx rw, pureL bx rw cs = some cs) ∧ ∀ bx rw, pureDs bx rw cs = some cs
theorem pureZ_names {d d' : D} (h : pureZ [] [] d = some d') (nb nr : Nat) : namesB nb nr d = true := by
  cases d <;> first | rfl | (simp [pureZ] at h; done)
theorem pureLZ_names (nb nr : Nat) : ∀ (l l' : List D), pureLZ [] [] l = some l' → namesL nb nr l = true := by
  intro l
  induction l with
  | nil => intros; rfl
  | cons d l ih =>
    intro l' hl
    simp only [pureLZ] at hl
    split at hl
    · rename_i d' hd
      simp only [Option.map_eq_some_iff] at hl
      obtain ⟨l2, hl2, _⟩ := hl
      simp only [namesL, Bool.and_eq_true]
      exact ⟨pureZ_names hd nb nr, ih l2 hl2⟩
    · cases hl
theorem pureA_names {d d' : D} (h : pureA [] [] d = some d') (nb nr : Nat) : namesB nb nr d = true := by
  unfold pureA at h
  split at h
  · simp only [Option.map_eq_some_iff] at h
    obtain ⟨l, hl, _⟩ := h
    simp only [namesB]
    exact pureLZ_names nb nr _ _ hl
  · exact pureZ_names h nb nr
theorem Cl.names {cs : List D} (h : Cl cs) (nb nr : Nat) : namesL nb nr cs = true := by
  have key : ∀ (l l' : List D), pureL [] [] l = some l' → namesL nb nr l = true := by
    intro l
    induction l with
    | nil => intros; rfl
    | cons d l ih =>
      intro l' hl
      simp only [pureL] at hl
      split at hl
      · rename_i d' hd
        simp only [Option.map_eq_some_iff] at hl
        obtain ⟨l2, hl2, _⟩ := hl
        simp only [namesL, Bool.and_eq_true]
        exact ⟨pureA_names hd nb nr, ih l2 hl2⟩
      · cases hl
  exact key cs cs (h.1 [] [])
/-- The first that is so. -/
def findI {α : Type} (p : α → Bool) (l : List α) : Int := match l.findIdx? p with | some i => i | none => -1
theorem findI_none {α : Type} [Inhabited α] {p : α → Bool} {l : List α} (h : ∀ i, i < l.length → p (nth l i) = false) : findI p l = -1 := by
  have : l.findIdx? p = none := List.findIdx?_eq_none_iff.2 fun x hx => by
    obtain ⟨i, hi, rfl⟩ := List.getElem_of_mem hx
    rw [← nth_eq l i hi]; exact h i hi
  simp [findI, this]
theorem findI_some {α : Type} [Inhabited α] {p : α → Bool} {l : List α} {j : Nat} (hj : j < l.length) (h : ∀ i, i < j → p (nth l i) = false) (hp : p (nth l j) = true) : findI p l = j := by
  have : l.findIdx? p = some j := List.findIdx?_eq_some_iff_getElem.2 ⟨hj, by rw [← nth_eq l j hj]; exact hp, fun i hi => by rw [← nth_eq l i (by omega)]; simp [h i hi]⟩
  simp [findI, this]
theorem findI_any {α : Type} {p : α → Bool} {l : List α} : decide (0 ≤ findI p l) = l.any p := by
  unfold findI
  cases h : l.findIdx? p with
  | none => have := List.findIdx?_eq_none_iff.1 h; simp; exact fun x hx => this x hx
  | some i =>
    obtain ⟨h1, h2, _⟩ := List.findIdx?_eq_some_iff_getElem.1 h
    simp; exact ⟨l[i], List.getElem_mem h1, h2⟩
theorem any_nth {α : Type} [Inhabited α] {p : α → Bool} {l : List α} : l.any p = true ↔ ∃ i, i < l.length ∧ p (nth l i) = true := by
  rw [List.any_eq_true]
  constructor
  · rintro ⟨x, hx, hp⟩
    obtain ⟨i, hi, rfl⟩ := List.getElem_of_mem hx
    exact ⟨i, hi, by rw [nth_eq l i hi]; exact hp⟩
  · rintro ⟨i, hi, hp⟩
    exact ⟨l[i], List.getElem_mem hi, by rw [← nth_eq l i hi]; exact hp⟩
def sumTo (f : Nat → Int) : Nat → Int
  | 0 => 0
  | n + 1 => sumTo f n + f n
theorem sumTo_bd {f : Nat → Int} {lo hi : Int} : ∀ (n : Nat), (∀ i, i < n → lo ≤ f i ∧ f i ≤ hi) → lo * n ≤ sumTo f n ∧ sumTo f n ≤ hi * n
  | 0, _ => by simp [sumTo]
  | n + 1, h => by
    have h1 := sumTo_bd n (fun i hi => h i (by omega))
    have h2 := h n (by omega)
    have e1 : lo * ((n + 1 : Nat) : Int) = lo * n + lo := by rw [Int.natCast_succ, Int.mul_add, Int.mul_one]
    have e2 : hi * ((n + 1 : Nat) : Int) = hi * n + hi := by rw [Int.natCast_succ, Int.mul_add, Int.mul_one]
    rw [e1, e2]
    simp only [sumTo]; omega
theorem sumTo_nonneg {f : Nat → Int} {n : Nat} (h : ∀ i, i < n → 0 ≤ f i) : 0 ≤ sumTo f n := by
  induction n with
  | zero => simp [sumTo]
  | succ n ih => have := ih (fun i hi => h i (by omega)); have := h n (by omega); simp only [sumTo]; omega
/-- A comparison. -/
structure Ck where
  day : Int
  lo : Int
  hi : Int
  deriving Inhabited, DecidableEq
/-- A station. -/
structure Stn where
  hl : Int
  hh : Int
  gl : Int
  gh : Int
  dr : Int
  rd : Int
  ea : Int
  sl : Int
  ck : List Ck
  deriving Inhabited, DecidableEq
/-- A reading. -/
structure Rdg where
  day : Int
  min : Int
  clk : Int
  mer : Int
  al : Int
  ah : Int
  dl : Int
  dh : Int
  wl : Int
  wh : Int
  deriving Inhabited, DecidableEq
/-- A truth. -/
structure Tru where
  ix : Int
  er : Int
  gr : Int
  ht : Int
  at_ : Int
  dy : Int
  wt : Int
  deriving Inhabited, DecidableEq
abbrev spD (a b : Int) : D := .agg [i64 a, i64 b]
abbrev ckD (c : Ck) : D := .agg [i64 c.day, i64 c.lo, i64 c.hi]
abbrev stC (s : Stn) : List D := [i64 s.hl, i64 s.hh, i64 s.gl, i64 s.gh, i64 s.dr, i64 s.rd, i64 s.ea, i64 s.sl, .list (s.ck.map ckD)]
abbrev stD (s : Stn) : D := .agg [i64 s.hl, i64 s.hh, i64 s.gl, i64 s.gh, i64 s.dr, i64 s.rd, i64 s.ea, i64 s.sl, .list (s.ck.map ckD)]
abbrev rdD (r : Rdg) : D := .agg [i64 r.day, i64 r.min, i64 r.clk, i64 r.mer, i64 r.al, i64 r.ah, i64 r.dl, i64 r.dh, i64 r.wl, i64 r.wh]
abbrev trD (t : Tru) : D := .agg [i64 t.ix, i64 t.er, i64 t.gr, i64 t.ht, i64 t.at_, i64 t.dy, i64 t.wt]

def In (x lo hi : Int) : Prop := lo ≤ x ∧ x ≤ hi
instance (x lo hi : Int) : Decidable (In x lo hi) := by unfold In; infer_instance
def Spn (a b lo hi : Int) : Prop := lo ≤ a ∧ a ≤ b ∧ b ≤ hi
instance (a b lo hi : Int) : Decidable (Spn a b lo hi) := by unfold Spn; infer_instance
def CkOk (c : Ck) : Prop := (0 ≤ c.day ∧ c.day ≤ 400) ∧ Spn c.lo c.hi (-2000) 2000
instance (c : Ck) : Decidable (CkOk c) := by unfold CkOk; infer_instance
structure StOk (s : Stn) : Prop where
  h : Spn s.hl s.hh 0 3000
  g : Spn s.gl s.gh (-3000) 3000
  d : 0 ≤ s.dr ∧ s.dr ≤ 100
  r : 0 ≤ s.rd ∧ s.rd ≤ 200
  e : -720 ≤ s.ea ∧ s.ea ≤ 720
  sl : 0 ≤ s.sl ∧ s.sl ≤ 60
  n : s.ck.length ≤ 12
  c : ∀ i, i < s.ck.length → CkOk (nth s.ck i)
structure RdOk (r : Rdg) : Prop where
  d : 0 ≤ r.day ∧ r.day ≤ 400
  m : 0 ≤ r.min ∧ r.min ≤ 1439
  c : 1 ≤ r.clk ∧ r.clk ≤ 3
  q : 40000 ≤ r.mer ∧ r.mer ≤ 90000
  a : Spn r.al r.ah (-300) 500
  y : Spn r.dl r.dh (-300) 500
  w : Spn r.wl r.wh (-300) 500
theorem stOk_iff (s : Stn) : StOk s ↔ (Spn s.hl s.hh 0 3000 ∧ Spn s.gl s.gh (-3000) 3000 ∧ (0 ≤ s.dr ∧ s.dr ≤ 100) ∧ (0 ≤ s.rd ∧ s.rd ≤ 200) ∧ (-720 ≤ s.ea ∧ s.ea ≤ 720) ∧ (0 ≤ s.sl ∧ s.sl ≤ 60) ∧ s.ck.length ≤ 12 ∧ ∀ i, i < s.ck.length → CkOk (nth s.ck i)) :=
  ⟨fun h => ⟨h.h, h.g, h.d, h.r, h.e, h.sl, h.n, h.c⟩, fun ⟨a, b, c, d, e, f, g, i⟩ => ⟨a, b, c, d, e, f, g, i⟩⟩
instance (s : Stn) : Decidable (StOk s) := decidable_of_iff _ (stOk_iff s).symm
theorem rdOk_iff (r : Rdg) : RdOk r ↔ ((0 ≤ r.day ∧ r.day ≤ 400) ∧ (0 ≤ r.min ∧ r.min ≤ 1439) ∧ (1 ≤ r.clk ∧ r.clk ≤ 3) ∧ (40000 ≤ r.mer ∧ r.mer ≤ 90000) ∧ Spn r.al r.ah (-300) 500 ∧ Spn r.dl r.dh (-300) 500 ∧ Spn r.wl r.wh (-300) 500) :=
  ⟨fun h => ⟨h.d, h.m, h.c, h.q, h.a, h.y, h.w⟩, fun ⟨a, b, c, d, e, f, g⟩ => ⟨a, b, c, d, e, f, g⟩⟩
instance (r : Rdg) : Decidable (RdOk r) := decidable_of_iff _ (rdOk_iff r).symm
end Go.Proofs.YtdbiiegohemahaaGreatDoor
