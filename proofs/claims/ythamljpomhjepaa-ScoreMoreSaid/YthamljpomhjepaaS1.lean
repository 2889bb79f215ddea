import Derived.Test.YthamljpomhjepaaTy
namespace Go.Ab
/-- Slots that are written out. -/
def slots (l : List (Nat × D)) : Nat → D := l.foldr (fun p f => put f p.1 p.2) none'
@[go_sem] theorem slots_nil : slots [] = none' := rfl
@[go_sem] theorem slots_cons {n : Nat} {d : D} {l : List (Nat × D)} : slots ((n, d) :: l) = put (slots l) n d := rfl
theorem slots_names {l : List (Nat × D)} {nb : Nat} (h : (l.all fun p => namesB nb 0 p.2) = true) : ∀ m, Names nb 0 (slots l m) := by
  intro m
  have := (named_of (n := 0) (l := l) (bx := List.replicate nb .dead) (rw := []) (by simpa using h) (by
    clear h
    induction nb with
    | zero => rfl
    | succ n ih =>
      have key : ∀ (k a b : Nat), namesBx a b (List.replicate k .dead) = true := by
        intro k; induction k with
        | zero => intros; rfl
        | succ k ih => intro a b; exact ih a b
      exact key _ _ _)).1 m
  simpa [mkSt, slots] using this
theorem le_slots {s : St} {n : Nat} {l : List (Nat × D)} {bx : List Bx} {rw : List Row} (hn : s.n = n) (hl : ∀ p ∈ l, s.sl p.1 = p.2) (hb : ∃ t, s.bx = bx ++ t) (hr : ∃ t, s.rw = rw ++ t) :
    Le s ⟨n, slots l, bx, rw⟩ := le_of hn hl hb hr
theorem le_none {s : St} {n : Nat} {bx : List Bx} {rw : List Row} (hn : s.n = n) (hb : s.bx = bx) (hr : s.rw = rw) : Le s ⟨n, none', bx, rw⟩ := ⟨hn.symm, fun _ => .inl rfl, ⟨[], by simp [hb]⟩, ⟨[], by simp [hr]⟩⟩
end Go.Ab
namespace Go.Proofs.Ythamljpomhjepaa
open Go.Ab
abbrev ints (xs : List Int) : D := .list (xs.map (D.int .i64))
abbrev intss (xss : List (List Int)) : D := .list (xss.map ints)
abbrev intsss (f : List (List (List Int))) : D := .list (f.map intss)
abbrev i64 (n : Int) : D := .int .i64 n
theorem boolD {b c : Bool} (h : b = true ↔ c = true) : D.bool b = D.bool c := by rw [Bool.eq_iff_iff.2 h]
/-- Data that names nothing of a frame's. -/
def Cl (cs : List D) : Prop := (∀ bx rw, pureL bx rw cs = some cs) ∧ ∀ bx rw, pureDs bx rw cs = some cs
theorem pureZ_names {d d' : D} (h : pureZ [] [] d = some d') (nb nr : Nat) : namesB nb nr d = true := by
  cases d <;> first | rfl | (simp [pureZ] at h; done)
theorem pureLZ_names (nb nr : Nat) : ∀ (l l' : List D), pureLZ [] [] l = some l' → namesL nb nr l = true := by
  intro l
  induction l with
  | nil => intros; rfl
  | cons d l ih =>
    intro l' hl
    simp only [pureLZ] at hl
    split at hl
    · rename_i d' hd
      simp only [Option.map_eq_some_iff] at hl
      obtain ⟨l2, hl2, _⟩ := hl
      simp only [namesL, Bool.and_eq_true]
      exact ⟨pureZ_names hd nb nr, ih l2 hl2⟩
    · cases hl
theorem pureA_names {d d' : D} (h : pureA [] [] d = some d') (nb nr : Nat) : namesB nb nr d = true := by
  unfold pureA at h
  split at h
  · simp only [Option.map_eq_some_iff] at h
    obtain ⟨l, hl, _⟩ := h
    simp only [namesB]
    exact pureLZ_names nb nr _ _ hl
  · exact pureZ_names h nb nr
theorem Cl.names {cs : List D} (h : Cl cs) (nb nr : Nat) : namesL nb nr cs = true := by
  have key : ∀ (l l' : List D), pureL [] [] l = some l' → namesL nb nr l = true := by
    intro l
    induction l with
    | nil => intros; rfl
    | cons d l ih =>
      intro l' hl
      simp only [pureL] at hl
      split at hl
      · rename_i d' hd
        simp only [Option.map_eq_some_iff] at hl
        obtain ⟨l2, hl2, _⟩ := hl
        simp only [namesL, Bool.and_eq_true]
        exact ⟨pureA_names hd nb nr, ih l2 hl2⟩
      · cases hl
  exact key cs cs (h.1 [] [])
/-- The first that is so. -/
def findI {α : Type} (p : α → Bool) (l : List α) : Int := match l.findIdx? p with | some i => i | none => -1
theorem findI_none {α : Type} [Inhabited α] {p : α → Bool} {l : List α} (h : ∀ i, i < l.length → p (nth l i) = false) : findI p l = -1 := by
  have : l.findIdx? p = none := List.findIdx?_eq_none_iff.2 fun x hx => by
    obtain ⟨i, hi, rfl⟩ := List.getElem_of_mem hx
    rw [← nth_eq l i hi]; exact h i hi
  simp [findI, this]
theorem findI_some {α : Type} [Inhabited α] {p : α → Bool} {l : List α} {j : Nat} (hj : j < l.length) (h : ∀ i, i < j → p (nth l i) = false) (hp : p (nth l j) = true) : findI p l = j := by
  have : l.findIdx? p = some j := List.findIdx?_eq_some_iff_getElem.2 ⟨hj, by rw [← nth_eq l j hj]; exact hp, fun i hi => by rw [← nth_eq l i (by omega)]; simp [h i hi]⟩
  simp [findI, this]
theorem findI_any {α : Type} {p : α → Bool} {l : List α} : decide (0 ≤ findI p l) = l.any p := by
  unfold findI
  cases h : l.findIdx? p with
  | none => have := List.findIdx?_eq_none_iff.1 h; simp; exact fun x hx => this x hx
  | some i =>
    obtain ⟨h1, h2, _⟩ := List.findIdx?_eq_some_iff_getElem.1 h
    simp; exact ⟨l[i], List.getElem_mem h1, h2⟩
theorem any_nth {α : Type} [Inhabited α] {p : α → Bool} {l : List α} : l.any p = true ↔ ∃ i, i < l.length ∧ p (nth l i) = true := by
  rw [List.any_eq_true]
  constructor
  · rintro ⟨x, hx, hp⟩
    obtain ⟨i, hi, rfl⟩ := List.getElem_of_mem hx
    exact ⟨i, hi, by rw [nth_eq l i hi]; exact hp⟩
  · rintro ⟨i, hi, hp⟩
    exact ⟨l[i], List.getElem_mem hi, by rw [← nth_eq l i hi]; exact hp⟩
def sumTo (f : Nat → Int) : Nat → Int
  | 0 => 0
  | n + 1 => sumTo f n + f n
theorem sumTo_bd {f : Nat → Int} {lo hi : Int} : ∀ (n : Nat), (∀ i, i < n → lo ≤ f i ∧ f i ≤ hi) → lo * n ≤ sumTo f n ∧ sumTo f n ≤ hi * n
  | 0, _ => by simp [sumTo]
  | n + 1, h => by
    have h1 := sumTo_bd n (fun i hi => h i (by omega))
    have h2 := h n (by omega)
    have e1 : lo * ((n + 1 : Nat) : Int) = lo * n + lo := by rw [Int.natCast_succ, Int.mul_add, Int.mul_one]
    have e2 : hi * ((n + 1 : Nat) : Int) = hi * n + hi := by rw [Int.natCast_succ, Int.mul_add, Int.mul_one]
    rw [e1, e2]
    simp only [sumTo]; omega
theorem sumTo_nonneg {f : Nat → Int} {n : Nat} (h : ∀ i, i < n → 0 ≤ f i) : 0 ≤ sumTo f n := by
  induction n with
  | zero => simp [sumTo]
  | succ n ih => have := ih (fun i hi => h i (by omega)); have := h n (by omega); simp only [sumTo]; omega
/-- Parts. -/
def Parts (l : List Int) : Prop := (∀ i, i < l.length → 0 ≤ nth l i ∧ nth l i ≤ 100) ∧ 2 ≤ l.length ∧ l.length ≤ 3 ∧ sumTo (nth l) l.length = 100
instance (l : List Int) : Decidable (Parts l) := by unfold Parts; infer_instance
def Step (n : Int) : Prop := 1 ≤ n ∧ n ≤ 100 ∧ (100 : Int) % n = 0
instance (n : Int) : Decidable (Step n) := by unfold Step; infer_instance
def sqs (l : List Int) : Int := sumTo (fun i => nth l i * nth l i) l.length
def Gn (l : List Int) (k : Nat) : Int := 200 * nth l k - sqs l
def Hp (b l : List Int) : Int := sumTo (fun k => nth b k * Gn l k) b.length
def Small (l : List Int) : Prop := l.length ≤ 3 ∧ ∀ i : Nat, 0 ≤ nth l i ∧ nth l i ≤ 100
theorem mul_bd {a b A B : Int} (h0 : 0 ≤ a) (h1 : a ≤ A) (h2 : 0 ≤ b) (h3 : b ≤ B) : 0 ≤ a * b ∧ a * b ≤ A * B := by
  refine ⟨Int.mul_nonneg h0 h2, ?_⟩
  exact Int.le_trans (Int.mul_le_mul_of_nonneg_right h1 h2) (Int.mul_le_mul_of_nonneg_left h3 (by omega))
theorem mul_abs {a b A B : Int} (h0 : 0 ≤ a) (h1 : a ≤ A) (h2 : -B ≤ b) (h3 : b ≤ B) : -(A * B) ≤ a * b ∧ a * b ≤ A * B := by
  have hB : 0 ≤ B := by omega
  constructor
  · have e1 : a * (-B) ≤ a * b := Int.mul_le_mul_of_nonneg_left h2 h0
    have e2 : a * B ≤ A * B := Int.mul_le_mul_of_nonneg_right h1 hB
    have e3 : a * (-B) = -(a * B) := Int.mul_neg a B
    omega
  · exact Int.le_trans (Int.mul_le_mul_of_nonneg_left h3 h0) (Int.mul_le_mul_of_nonneg_right h1 hB)
theorem Small.sqs_bd {l : List Int} (h : Small l) (j : Nat) : 0 ≤ sumTo (fun i => nth l i * nth l i) j ∧ sumTo (fun i => nth l i * nth l i) j ≤ 10000 * j := by
  have := sumTo_bd (f := fun i => nth l i * nth l i) (lo := 0) (hi := 10000) j (fun i _ => by have := h.2 i; have := mul_bd this.1 this.2 this.1 this.2; omega)
  omega
theorem nth_oob (l : List Int) (i : Nat) (h : l.length ≤ i) : nth l i = 0 := by simp [nth, h]
theorem Parts.small {l : List Int} (h : Parts l) : Small l := ⟨h.2.2.1, fun i => by
  by_cases hi : i < l.length
  · exact h.1 i hi
  · rw [nth_oob l i (by omega)]; decide⟩
theorem Gn_bd {l : List Int} (h : Small l) (k : Nat) : -30000 ≤ Gn l k ∧ Gn l k ≤ 20000 := by
  have h1 := h.sqs_bd l.length
  have h2 := h.2 k
  have h3 := h.1
  unfold Gn sqs; omega
def Ern (b p : List Int) : Int := sumTo (fun k => nth b k * nth p k) b.length
def payD (base rate least pts : Int) : Int := max least (base + (rate * pts) / 10000)
def Erg (base rate least sofar : Int) (b l : List Int) : Int := sumTo (fun k => nth b k * payD base rate least (sofar + Gn l k)) b.length
def Paper (base rate least : Int) : Prop := (0 ≤ base ∧ base ≤ 100000) ∧ (0 ≤ least ∧ least ≤ 100000) ∧ 0 ≤ rate ∧ rate ≤ 1000
instance (a b c : Int) : Decidable (Paper a b c) := by unfold Paper; infer_instance
def before : List Int → List Int → Bool
  | [], b => decide (0 < b.length)
  | _ :: _, [] => false
  | x :: a, y :: b => if x = y then before a b else decide (x < y)
/-- The first of some that is worth most, after so many. -/
def bst {α : Type} [Inhabited α] (w : α → Int) (l : List α) : Nat → α × Int
  | 0 => (default, 0)
  | k + 1 => if k = 0 ∨ (bst w l k).2 < w (nth l k) then (nth l k, w (nth l k)) else bst w l k
def rng (step left : Int) : List Int := (List.range (left / step + 1).toNat).map fun (i : Nat) => step * (i : Int)
def srch (step : Int) : Nat → List Int → Int → List (List Int)
  | 0, now, left => [now ++ [left]]
  | k + 1, now, left => (rng step left).flatMap fun n => srch step k (now ++ [n]) (left - n)
/-- All statements. -/
def stm (n : Nat) (step : Int) : List (List Int) := srch step (n - 1) [] 100
def hasB (set : Int) (k : Nat) : Bool := decide ((set / 2 ^ k) % 2 = 1)
end Go.Proofs.Ythamljpomhjepaa
