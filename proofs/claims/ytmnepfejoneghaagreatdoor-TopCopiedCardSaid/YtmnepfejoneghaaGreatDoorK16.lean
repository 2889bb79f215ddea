import Derived.Test.YtmnepfejoneghaaGreatDoorK15
import Derived.Lib.SplitLaws
import Derived.Lib.ItoaNum
import Derived.Lib.Join
set_option linter.unusedVariables false
set_option linter.unusedSimpArgs false
namespace Go.Proofs.YtmnepfejoneghaaGreatDoor
open Go.Ab
theorem mul_bd {a b A B : Int} (h0 : 0 ≤ a) (h1 : a ≤ A) (h2 : 0 ≤ b) (h3 : b ≤ B) : 0 ≤ a * b ∧ a * b ≤ A * B := by
  refine ⟨Int.mul_nonneg h0 h2, ?_⟩
  exact Int.le_trans (Int.mul_le_mul_of_nonneg_right h1 h2) (Int.mul_le_mul_of_nonneg_left h3 (by omega))
/-- A product, by how great its factors are. -/
theorem mul_abs {a b : Int} (A B : Nat) (h : -(A : Int) ≤ a ∧ a ≤ A) (h2 : -(B : Int) ≤ b ∧ b ≤ B) : -((A * B : Nat) : Int) ≤ a * b ∧ a * b ≤ ((A * B : Nat) : Int) := by
  have h3 : (a * b).natAbs ≤ A * B := by rw [Int.natAbs_mul]; exact Nat.mul_le_mul (by omega) (by omega)
  omega
/-! ## The index -/
def far (a b : Int) : Int := max (a - b) (b - a)
theorem far_bd {a b : Int} (h1 : 0 ≤ a ∧ a ≤ 400) (h2 : 0 ≤ b ∧ b ≤ 400) : 0 ≤ far a b ∧ far a b ≤ 400 := by unfold far; omega
theorem far_comm (a b : Int) : far a b = far b a := by unfold far; omega
theorem far_tri {D : Int} (h : 0 ≤ D) (a b c : Int) : D * far a c ≤ D * far a b + D * far b c := by
  rw [← Int.mul_add]; exact Int.mul_le_mul_of_nonneg_left (by unfold far; omega) h
theorem far_nonneg {D : Int} (h : 0 ≤ D) (a b : Int) : 0 ≤ D * far a b := Int.mul_nonneg h (by unfold far; omega)
def lowK (s : Stn) (day : Int) : Nat → Int
  | 0 => -2000
  | k + 1 => max (lowK s day k) ((nth s.ck k).lo - s.dr * far day (nth s.ck k).day)
def highK (s : Stn) (day : Int) : Nat → Int
  | 0 => 2000
  | k + 1 => min (highK s day k) ((nth s.ck k).hi + s.dr * far day (nth s.ck k).day)
def ixL (s : Stn) (day : Int) : Int := lowK s day s.ck.length
def ixH (s : Stn) (day : Int) : Int := highK s day s.ck.length
theorem StOk.far {s : Stn} (h : StOk s) {day : Int} (hd : 0 ≤ day ∧ day ≤ 400) {k : Nat} (hk : k < s.ck.length) : 0 ≤ s.dr * far day (nth s.ck k).day ∧ s.dr * far day (nth s.ck k).day ≤ 40000 :=
  mul_bd h.d.1 h.d.2 (far_bd hd (h.c k hk).1).1 (far_bd hd (h.c k hk).1).2
theorem lowK_bd {s : Stn} (h : StOk s) (day : Int) (hd : 0 ≤ day ∧ day ≤ 400) : ∀ k, k ≤ s.ck.length → -2000 ≤ lowK s day k ∧ lowK s day k ≤ 2000
  | 0, _ => by simp [lowK]
  | k + 1, hk => by
    have := lowK_bd h day hd k (by omega)
    have h2 := h.far hd (k := k) (by omega)
    have h3 := (h.c k (by omega)).2
    unfold Spn at h3
    simp only [lowK]; omega
theorem highK_bd {s : Stn} (h : StOk s) (day : Int) (hd : 0 ≤ day ∧ day ≤ 400) : ∀ k, k ≤ s.ck.length → -2000 ≤ highK s day k ∧ highK s day k ≤ 2000
  | 0, _ => by simp [highK]
  | k + 1, hk => by
    have := highK_bd h day hd k (by omega)
    have h2 := h.far hd (k := k) (by omega)
    have h3 := (h.c k (by omega)).2
    unfold Spn at h3
    simp only [highK]; omega
theorem ixL_bd {s : Stn} (h : StOk s) {day : Int} (hd : 0 ≤ day ∧ day ≤ 400) : -2000 ≤ ixL s day ∧ ixL s day ≤ 2000 := lowK_bd h day hd _ (Nat.le_refl _)
theorem ixH_bd {s : Stn} (h : StOk s) {day : Int} (hd : 0 ≤ day ∧ day ≤ 400) : -2000 ≤ ixH s day ∧ ixH s day ≤ 2000 := highK_bd h day hd _ (Nat.le_refl _)
theorem lowK_le {s : Stn} {d z : Int} : ∀ k, lowK s d k ≤ z ↔ -2000 ≤ z ∧ ∀ i, i < k → (nth s.ck i).lo - s.dr * far d (nth s.ck i).day ≤ z
  | 0 => by simp [lowK]
  | k + 1 => by
    have ih := lowK_le (s := s) (d := d) (z := z) k
    simp only [lowK]
    rw [Int.max_le, ih]
    constructor
    · rintro ⟨⟨h1, h2⟩, h3⟩
      refine ⟨h1, fun i hi => ?_⟩
      rcases Nat.lt_or_eq_of_le (Nat.le_of_lt_succ hi) with h | h
      · exact h2 i h
      · rw [h]; exact h3
    · rintro ⟨h1, h2⟩
      exact ⟨⟨h1, fun i hi => h2 i (by omega)⟩, h2 k (by omega)⟩
theorem le_highK {s : Stn} {d z : Int} : ∀ k, z ≤ highK s d k ↔ z ≤ 2000 ∧ ∀ i, i < k → z ≤ (nth s.ck i).hi + s.dr * far d (nth s.ck i).day
  | 0 => by simp [highK]
  | k + 1 => by
    have ih := le_highK (s := s) (d := d) (z := z) k
    simp only [highK]
    rw [Int.le_min, ih]
    constructor
    · rintro ⟨⟨h1, h2⟩, h3⟩
      refine ⟨h1, fun i hi => ?_⟩
      rcases Nat.lt_or_eq_of_le (Nat.le_of_lt_succ hi) with h | h
      · exact h2 i h
      · rw [h]; exact h3
    · rintro ⟨h1, h2⟩
      exact ⟨⟨h1, fun i hi => h2 i (by omega)⟩, h2 k (by omega)⟩
theorem ixL_le {s : Stn} {d z : Int} : ixL s d ≤ z ↔ -2000 ≤ z ∧ ∀ i, i < s.ck.length → (nth s.ck i).lo - s.dr * far d (nth s.ck i).day ≤ z := lowK_le _
theorem le_ixH {s : Stn} {d z : Int} : z ≤ ixH s d ↔ z ≤ 2000 ∧ ∀ i, i < s.ck.length → z ≤ (nth s.ck i).hi + s.dr * far d (nth s.ck i).day := le_highK _
/-- Two comparisons contradict. -/
def Con (s : Stn) (i k : Nat) : Prop := s.dr * far (nth s.ck i).day (nth s.ck k).day < max ((nth s.ck i).lo - (nth s.ck k).hi) ((nth s.ck k).lo - (nth s.ck i).hi)
instance (s : Stn) (i k : Nat) : Decidable (Con s i k) := by unfold Con; infer_instance
/-- The first two that contradict. -/
def Clashes (s : Stn) (i k : Nat) : Prop := i < k ∧ k < s.ck.length ∧ Con s i k ∧ ∀ a b, a < b → b < s.ck.length → (a < i ∨ a = i ∧ b < k) → ¬ Con s a b
def NoClash (s : Stn) : Prop := ∀ a b, a < b → b < s.ck.length → ¬ Con s a b
noncomputable instance (s : Stn) : Decidable (NoClash s) := Classical.propDecidable _
open Classical in
noncomputable def clashP (s : Stn) : Option (Nat × Nat) := if h : ∃ p : Nat × Nat, Clashes s p.1 p.2 then some h.choose else none
theorem clashP_none {s : Stn} (h : NoClash s) : clashP s = none := by
  unfold clashP
  rw [dif_neg]
  rintro ⟨p, h1, h2, h3, _⟩
  exact h _ _ h1 h2 h3
theorem Clashes.uniq {s : Stn} {i k a b : Nat} (h : Clashes s i k) (g : Clashes s a b) : a = i ∧ b = k := by
  have h1 : ¬ (a < i ∨ a = i ∧ b < k) := fun e => h.2.2.2 a b g.1 g.2.1 e g.2.2.1
  have h2 : ¬ (i < a ∨ i = a ∧ k < b) := fun e => g.2.2.2 i k h.1 h.2.1 e h.2.2.1
  omega
theorem clashP_some {s : Stn} {i k : Nat} (h : Clashes s i k) : clashP s = some (i, k) := by
  unfold clashP
  have hex : ∃ p : Nat × Nat, Clashes s p.1 p.2 := ⟨(i, k), h⟩
  rw [dif_pos hex]
  obtain ⟨e1, e2⟩ := h.uniq hex.choose_spec
  congr 1; exact Prod.ext e1 e2
theorem first_of (p : Nat → Prop) : ∀ n, (∀ i, i < n → ¬ p i) ∨ ∃ i, i < n ∧ p i ∧ ∀ j, j < i → ¬ p j
  | 0 => .inl fun i hi => absurd hi (Nat.not_lt_zero i)
  | n + 1 => by
    rcases first_of p n with h | ⟨i, hi, h1, h2⟩
    · by_cases hp : p n
      · exact .inr ⟨n, by omega, hp, h⟩
      · refine .inl fun i hi => ?_
        rcases Nat.lt_or_eq_of_le (Nat.le_of_lt_succ hi) with h' | h'
        · exact h i h'
        · rw [h']; exact hp
    · exact .inr ⟨i, by omega, h1, h2⟩
theorem clash_or (s : Stn) : NoClash s ∨ ∃ i k, Clashes s i k := by
  rcases first_of (fun a => ∃ b, a < b ∧ b < s.ck.length ∧ Con s a b) s.ck.length with h | ⟨i, hi, ⟨b, hb⟩, h2⟩
  · exact .inl fun a b h1 h3 h4 => h a (by omega) ⟨b, h1, h3, h4⟩
  · rcases first_of (fun k => i < k ∧ k < s.ck.length ∧ Con s i k) s.ck.length with h | ⟨k, hk, h3, h4⟩
    · exact absurd hb (h b hb.2.1)
    · refine .inr ⟨i, k, h3.1, h3.2.1, h3.2.2, fun x y g1 g2 g3 g4 => ?_⟩
      rcases g3 with g3 | ⟨rfl, g3⟩
      · exact h2 x g3 ⟨y, g1, g2, g4⟩
      · exact h4 y g3 ⟨g1, g2, g4⟩
theorem Clashes.no {s : Stn} {i k : Nat} (h : Clashes s i k) : ¬ NoClash s := fun hn => hn i k h.1 h.2.1 h.2.2.1
/-- The comparisons agree. -/
theorem NoClash.all {s : Stn} (h : NoClash s) (hs : StOk s) {i k : Nat} (hi : i < s.ck.length) (hk : k < s.ck.length) : (nth s.ck i).lo - (nth s.ck k).hi ≤ s.dr * far (nth s.ck i).day (nth s.ck k).day := by
  rcases Nat.lt_trichotomy i k with hlt | e | hlt
  · have := h i k hlt hk; unfold Con at this; omega
  · subst e
    have := (hs.c i hi).2; unfold Spn at this
    have h2 := far_nonneg hs.d.1 (nth s.ck i).day (nth s.ck i).day
    omega
  · have := h k i hlt hi; unfold Con at this; rw [far_comm]; omega
theorem ix_le {s : Stn} (hs : StOk s) (hn : NoClash s) (d : Int) : ixL s d ≤ ixH s d := by
  refine le_ixH.2 ⟨ixL_le.2 ⟨by omega, fun i hi => ?_⟩, fun k hk => ixL_le.2 ⟨?_, fun i hi => ?_⟩⟩
  · have := (hs.c i hi).2; unfold Spn at this
    have h2 := far_nonneg hs.d.1 d (nth s.ck i).day
    omega
  · have := (hs.c k hk).2; unfold Spn at this
    have h2 := far_nonneg hs.d.1 d (nth s.ck k).day
    omega
  · have h1 := hn.all hs hi hk
    have h2 := far_tri hs.d.1 (nth s.ck i).day d (nth s.ck k).day
    rw [far_comm (nth s.ck i).day d] at h2
    omega
/-! ## Due -/
def dueK (s : Stn) (w : Int) : Nat → Int → Int
  | 0, _ => -1
  | n + 1, d => if w < ixH s d - ixL s d then d else dueK s w n (d + 1)
def dueI (s : Stn) (f w : Int) : Int := dueK s w (401 - f).toNat f
/-! ## What air holds -/
def airT : List Int := [38, 61, 96, 144, 216, 316, 458, 654, 921, 1279, 1753, 2376, 3182, 4218, 5532, 7188, 9251]
def air (t : Int) : Int := if (t + 300) % 50 = 0 then nth airT ((t + 300) / 50).toNat else
  nth airT ((t + 300) / 50).toNat + (nth airT (((t + 300) / 50).toNat + 1) - nth airT ((t + 300) / 50).toNat) * ((t + 300) % 50) / 50
theorem air_all : ((List.range 801).all fun k => decide (38 ≤ air ((k : Int) - 300) ∧ air ((k : Int) - 300) ≤ 9251 ∧ (k < 800 → air ((k : Int) - 300) ≤ air ((k : Int) - 300 + 1)))) = true := by decide +kernel
theorem air_at {t : Int} (h : -300 ≤ t ∧ t ≤ 500) : 38 ≤ air t ∧ air t ≤ 9251 ∧ (t < 500 → air t ≤ air (t + 1)) := by
  have := List.all_eq_true.1 air_all (t + 300).toNat (List.mem_range.2 (by omega))
  have e : (((t + 300).toNat : Nat) : Int) - 300 = t := by omega
  simp only [e, decide_eq_true_eq] at this
  exact ⟨this.1, this.2.1, fun h => this.2.2 (by omega)⟩
theorem air_mono {a b : Int} (h1 : -300 ≤ a) (h2 : a ≤ b) (h3 : b ≤ 500) : air a ≤ air b := by
  obtain ⟨n, hn⟩ : ∃ n : Nat, b = a + n := ⟨(b - a).toNat, by omega⟩
  subst hn
  clear h2
  induction n with
  | zero => simp
  | succ n ih =>
    have := ih (by omega)
    have h := (air_at (t := a + n) (by omega)).2.2 (by omega)
    rw [show a + ((n + 1 : Nat) : Int) = a + n + 1 by omega]
    omega
/-! ## Weather -/
def hereA (m a : Int) : Int := m - m * a * 163 / 10000000
def hereG (h g : Int) : Int := h + h * g / 1000000
def hereOf (m a g : Int) : Int := hereG (hereA m a) g
def seaOf (h ht d : Int) : Int := h + h * ht * 10 / (79900 + 29 * d)
def vapOf (h d w : Int) : Int := max 0 (air (min w d) - h * (d - min w d) * 8 / 100000)
def humOf (h d w : Int) : Int := 100 * vapOf h d w / air d
theorem hereA_bd {m a : Int} (hm : 37800 ≤ m ∧ m ≤ 92200) (ha : -300 ≤ a ∧ a ≤ 500) : (-46100000 ≤ m * a ∧ m * a ≤ 46100000) ∧ 37000 ≤ hereA m a ∧ hereA m a ≤ 92700 := by
  have h := mul_abs 92200 500 (a := m) (b := a) (by omega) (by omega)
  have h1 : m * a ≤ 92200 * 500 := by
    have := h.2; omega
  have h2 : -(92200 * 300) ≤ m * a := by
    have e : m * (-a) ≤ 92200 * 300 := by
      rcases Int.le_total 0 (-a) with h | h
      · exact (mul_bd (A := 92200) (B := 300) (by omega) hm.2 h (by omega)).2
      · have := Int.mul_le_mul_of_nonneg_left h (show (0 : Int) ≤ m by omega); omega
    rw [Int.mul_neg] at e; omega
  refine ⟨by omega, ?_⟩
  unfold hereA; omega
theorem hereG_bd {h g : Int} (hh : 37000 ≤ h ∧ h ≤ 92700) (hg : -3000 ≤ g ∧ g ≤ 3000) : (-278100000 ≤ h * g ∧ h * g ≤ 278100000) ∧ 36700 ≤ hereG h g ∧ hereG h g ≤ 93000 := by
  have h2 := mul_abs 92700 3000 (a := h) (b := g) (by omega) (by omega)
  unfold hereG; omega
theorem hereOf_bd {m a g : Int} (hm : 37800 ≤ m ∧ m ≤ 92200) (ha : -300 ≤ a ∧ a ≤ 500) (hg : -3000 ≤ g ∧ g ≤ 3000) : 36700 ≤ hereOf m a g ∧ hereOf m a g ≤ 93000 := (hereG_bd (hereA_bd hm ha).2 hg).2
theorem seaOf_bd {h ht d : Int} (hh : 36700 ≤ h ∧ h ≤ 93000) (ht' : 0 ≤ ht ∧ ht ≤ 3000) (hd : -300 ≤ d ∧ d ≤ 500) : (0 ≤ h * ht ∧ h * ht ≤ 279000000) ∧ (0 ≤ h * ht * 10 / (79900 + 29 * d) ∧ h * ht * 10 / (79900 + 29 * d) ≤ 2790000000) ∧ h ≤ seaOf h ht d ∧ seaOf h ht d ≤ 3000000000 := by
  have h1 := mul_bd (A := 93000) (B := 3000) (by omega) hh.2 ht'.1 ht'.2
  have h2 : 0 ≤ h * ht * 10 / (79900 + 29 * d) := Int.ediv_nonneg (by omega) (by omega)
  have h3 : h * ht * 10 / (79900 + 29 * d) ≤ h * ht * 10 := Int.ediv_le_self _ (by omega)
  unfold seaOf; omega
theorem vapOf_bd {h d w : Int} (hh : 36700 ≤ h ∧ h ≤ 93000) (hd : -300 ≤ d ∧ d ≤ 500) (hw : -300 ≤ w ∧ w ≤ 500) : (0 ≤ h * (d - min w d) ∧ h * (d - min w d) ≤ 74400000) ∧ 0 ≤ vapOf h d w ∧ vapOf h d w ≤ air d := by
  have h1 := mul_bd (A := 93000) (B := 800) (a := h) (b := d - min w d) (by omega) hh.2 (by omega) (by omega)
  have h2 := air_mono (a := min w d) (b := d) (by omega) (by omega) (by omega)
  have h3 := air_at hd
  unfold vapOf; omega
theorem humOf_bd {h d w : Int} (hh : 36700 ≤ h ∧ h ≤ 93000) (hd : -300 ≤ d ∧ d ≤ 500) (hw : -300 ≤ w ∧ w ≤ 500) : 0 ≤ humOf h d w ∧ humOf h d w ≤ 100 := by
  have h1 := (vapOf_bd hh hd hw).2
  have h3 := air_at hd
  unfold humOf
  refine ⟨Int.ediv_nonneg (by omega) (by omega), ?_⟩
  have : 100 * vapOf h d w / air d < 101 := Int.ediv_lt_of_lt_mul (by omega) (by omega)
  omega
theorem ediv_shift {a b k c : Int} (hc : 0 < c) (h : a ≤ b + k * c) : a / c ≤ b / c + k := by
  have := Int.ediv_le_ediv hc h
  rwa [Int.add_mul_ediv_right _ _ (by omega)] at this
theorem hereA_mono {m m' a a' : Int} (h : m ≤ m') (h0 : 0 ≤ m) (ha : a' ≤ a) (hb : a' ≤ 500) : hereA m a ≤ hereA m' a' := by
  have h1 : m' * a' * 163 / 10000000 ≤ m * a' * 163 / 10000000 + (m' - m) := by
    refine ediv_shift (by omega) ?_
    have : (m' - m) * (a' * 163) ≤ (m' - m) * 10000000 := Int.mul_le_mul_of_nonneg_left (by omega) (by omega)
    rw [Int.sub_mul] at this
    rw [Int.mul_assoc, Int.mul_assoc]
    omega
  have h2 : m * a' * 163 / 10000000 ≤ m * a * 163 / 10000000 := by
    refine Int.ediv_le_ediv (by omega) ?_
    have := Int.mul_le_mul_of_nonneg_left ha h0
    omega
  unfold hereA; omega
theorem hereG_mono {h h' g g' : Int} (hh : h ≤ h') (h0 : 0 ≤ h) (hg : g ≤ g') (hb : -3000 ≤ g') : hereG h g ≤ hereG h' g' := by
  have h1 : h * g' / 1000000 ≤ h' * g' / 1000000 + (h' - h) := by
    refine ediv_shift (by omega) ?_
    have : 0 ≤ (h' - h) * (g' + 1000000) := Int.mul_nonneg (by omega) (by omega)
    rw [Int.sub_mul, Int.mul_add, Int.mul_add] at this
    rw [Int.sub_mul]
    omega
  have h2 : h * g / 1000000 ≤ h * g' / 1000000 := Int.ediv_le_ediv (by omega) (Int.mul_le_mul_of_nonneg_left hg h0)
  unfold hereG; omega
theorem hereOf_mono {m m' a a' g g' : Int} (hm : m ≤ m') (hm0 : 37800 ≤ m ∧ m' ≤ 92200) (ha : a' ≤ a) (ha0 : -300 ≤ a' ∧ a ≤ 500) (hg : g ≤ g') (hg0 : -3000 ≤ g ∧ g' ≤ 3000) : hereOf m a g ≤ hereOf m' a' g' :=
  hereG_mono (hereA_mono hm (by omega) ha (by omega)) (by have := (hereA_bd (m := m) (a := a) (by omega) (by omega)).2; omega) hg (by omega)
theorem ediv_den {a b c : Int} (ha : 0 ≤ a) (hc : 0 < c) (h : c ≤ b) : a / b ≤ a / c := by
  refine Int.le_ediv_of_mul_le hc ?_
  have h1 : 0 ≤ a / b := Int.ediv_nonneg ha (by omega)
  have h2 := Int.ediv_mul_le a (b := b) (by omega)
  have h3 := Int.mul_le_mul_of_nonneg_left h h1
  omega
theorem seaOf_mono {h h' t t' d d' : Int} (hh : h ≤ h') (h0 : 36700 ≤ h ∧ h' ≤ 93000) (ht : t ≤ t') (ht0 : 0 ≤ t) (hd : d' ≤ d) (hd0 : -300 ≤ d') : seaOf h t d ≤ seaOf h' t' d' := by
  have h1 : h * t ≤ h' * t' := (mul_bd (A := h') (B := t') (by omega) hh ht0 ht).2
  have hp : 0 ≤ h' * t' := Int.mul_nonneg (by omega) (by omega)
  have h2 : h * t * 10 / (79900 + 29 * d) ≤ h' * t' * 10 / (79900 + 29 * d) := Int.ediv_le_ediv (by omega) (by omega)
  have h3 : h' * t' * 10 / (79900 + 29 * d) ≤ h' * t' * 10 / (79900 + 29 * d') := ediv_den (by omega) (by omega) (by omega)
  unfold seaOf; omega
theorem humOf_mono {h h' d d' w w' : Int} (hh : h' ≤ h) (h0 : 36700 ≤ h' ∧ h ≤ 93000) (hd : d' ≤ d) (hd0 : -300 ≤ d' ∧ d ≤ 500) (hw : w ≤ w') (hw0 : -300 ≤ w ∧ w' ≤ 500) : humOf h d w ≤ humOf h' d' w' := by
  rcases Int.lt_or_le w' d' with hc | hc
  · have e1 : min w d = w := by omega
    have e2 : min w' d' = w' := by omega
    have h1 : h' * (d' - w') ≤ h * (d - w) := (mul_bd (A := h) (B := d - w) (by omega) hh (by omega) (by omega)).2
    have h2 : h' * (d' - w') * 8 / 100000 ≤ h * (d - w) * 8 / 100000 := Int.ediv_le_ediv (by omega) (by omega)
    have h3 := air_mono (a := w) (b := w') (by omega) hw (by omega)
    have h4 := air_mono (a := d') (b := d) (by omega) hd (by omega)
    have hv : vapOf h d w ≤ vapOf h' d' w' := by unfold vapOf; rw [e1, e2]; omega
    have hp : 0 ≤ vapOf h' d' w' := by unfold vapOf; omega
    have ha := air_at (t := d') (by omega)
    unfold humOf
    exact Int.le_trans (Int.ediv_le_ediv (by omega) (show 100 * vapOf h d w ≤ 100 * vapOf h' d' w' by omega)) (ediv_den (by omega) (by omega) h4)
  · have h1 := (humOf_bd (h := h) (d := d) (w := w) (by omega) (by omega) (by omega)).2
    have e2 : min w' d' = d' := by omega
    have ha := air_at (t := d') (by omega)
    have : humOf h' d' w' = 100 := by
      unfold humOf vapOf
      rw [e2, Int.sub_self, Int.mul_zero, Int.zero_mul, Int.zero_ediv, Int.sub_zero, Int.max_eq_right (by omega)]
      exact Int.mul_ediv_cancel _ (by omega)
    omega
end Go.Proofs.YtmnepfejoneghaaGreatDoor
namespace Go.Proofs.YtmnepfejoneghaaGreatDoor
open Go.Ab
/-! ## Stations that are changed -/
/-! ## Truths -/
def TrOk (s : Stn) (r : Rdg) (t : Tru) : Prop := (ixL s r.day ≤ t.ix ∧ t.ix ≤ ixH s r.day) ∧ (-s.rd ≤ t.er ∧ t.er ≤ s.rd) ∧ (s.gl ≤ t.gr ∧ t.gr ≤ s.gh) ∧ (s.hl ≤ t.ht ∧ t.ht ≤ s.hh) ∧ (r.al ≤ t.at_ ∧ t.at_ ≤ r.ah) ∧ (r.dl ≤ t.dy ∧ t.dy ≤ r.dh) ∧ (r.wl ≤ t.wt ∧ t.wt ≤ r.wh)
instance (s : Stn) (r : Rdg) (t : Tru) : Decidable (TrOk s r t) := by unfold TrOk; infer_instance
/-- As far as any truth goes. -/
structure TrB (t : Tru) : Prop where
  i : -2000 ≤ t.ix ∧ t.ix ≤ 2000
  e : -200 ≤ t.er ∧ t.er ≤ 200
  g : -3000 ≤ t.gr ∧ t.gr ≤ 3000
  h : 0 ≤ t.ht ∧ t.ht ≤ 3000
  a : -300 ≤ t.at_ ∧ t.at_ ≤ 500
  d : -300 ≤ t.dy ∧ t.dy ≤ 500
  w : -300 ≤ t.wt ∧ t.wt ≤ 500
theorem trB_of {s : Stn} {r : Rdg} {t : Tru} (hs : StOk s) (hr : RdOk r) (h : TrOk s r t) : TrB t := by
  have h1 := ixL_bd hs hr.d; have h2 := ixH_bd hs hr.d
  have h3 := hs.h; have h4 := hs.g; have h5 := hs.r; have h6 := hr.a; have h7 := hr.y; have h8 := hr.w
  unfold TrOk at h
  unfold Spn at *
  constructor <;> omega
def mer (r : Rdg) (t : Tru) : Int := r.mer - t.ix - t.er
def here (r : Rdg) (t : Tru) : Int := hereOf (mer r t) t.at_ t.gr
def seaT (r : Rdg) (t : Tru) : Int := seaOf (here r t) t.ht t.dy
def hum (r : Rdg) (t : Tru) : Int := humOf (here r t) t.dy t.wt
theorem mer_bd {r : Rdg} {t : Tru} (hr : RdOk r) (ht : TrB t) : 37800 ≤ mer r t ∧ mer r t ≤ 92200 := by
  have := hr.q; have := ht.i; have := ht.e; unfold mer; omega
theorem here_bd {r : Rdg} {t : Tru} (hr : RdOk r) (ht : TrB t) : 36700 ≤ here r t ∧ here r t ≤ 93000 := hereOf_bd (mer_bd hr ht) ht.a ht.g
/-- The truth of an end: which of the six. -/
def much (e : Int) : Prop := e = 1 ∨ e = 3 ∨ e = 4
instance (e : Int) : Decidable (much e) := by unfold much; infer_instance
def endT (s : Stn) (r : Rdg) (e : Int) : Tru :=
  ⟨if much e then ixL s r.day else ixH s r.day, if much e then -s.rd else s.rd, if much e then s.gh else s.gl, if e = 3 then s.hh else s.hl, if much e then r.al else r.ah, if e = 2 ∨ e = 4 then r.dh else r.dl, if e = 5 then r.wh else r.wl⟩
theorem endT_ok {s : Stn} {r : Rdg} (hs : StOk s) (hr : RdOk r) (hn : NoClash s) (e : Int) : TrOk s r (endT s r e) := by
  have h1 := ix_le hs hn r.day
  have h3 := hs.h; have h4 := hs.g; have h5 := hs.r; have h6 := hr.a; have h7 := hr.y; have h8 := hr.w
  unfold Spn at *
  unfold TrOk endT
  simp only
  refine ⟨?_, ?_, ?_, ?_, ?_, ?_, ?_⟩ <;> split <;> omega
theorem here_lo {s : Stn} {r : Rdg} {t : Tru} (hs : StOk s) (hr : RdOk r) (hn : NoClash s) (h : TrOk s r t) : ∀ e : Int, ¬ much e → here r (endT s r e) ≤ here r t := fun e he => by
  have hb := trB_of hs hr h
  have hm := mer_bd hr hb
  have he' := trB_of hs hr (endT_ok hs hr hn e)
  have hm' := mer_bd hr he'
  have ha := hr.a; have hg := hs.g; have hbg := hb.g; have hba := hb.a
  unfold Spn at ha hg
  unfold TrOk at h
  unfold mer endT at hm'
  simp only [if_neg he] at hm'
  unfold here mer endT
  simp only [if_neg he]
  unfold mer at hm
  exact hereOf_mono (by omega) (by omega) (by omega) (by omega) (by omega) (by omega)
theorem here_hi {s : Stn} {r : Rdg} {t : Tru} (hs : StOk s) (hr : RdOk r) (hn : NoClash s) (h : TrOk s r t) : ∀ e : Int, much e → here r t ≤ here r (endT s r e) := fun e he => by
  have hb := trB_of hs hr h
  have hm := mer_bd hr hb
  have he' := trB_of hs hr (endT_ok hs hr hn e)
  have hm' := mer_bd hr he'
  have ha := hr.a; have hg := hs.g; have hbg := hb.g; have hba := hb.a
  unfold Spn at ha hg
  unfold TrOk at h
  unfold mer endT at hm'
  simp only [if_pos he] at hm'
  unfold here mer endT
  simp only [if_pos he]
  unfold mer at hm
  exact hereOf_mono (by omega) (by omega) (by omega) (by omega) (by omega) (by omega)
theorem holds {s : Stn} {r : Rdg} {t : Tru} (hs : StOk s) (hr : RdOk r) (hn : NoClash s) (h : TrOk s r t) :
    (here r (endT s r 0) ≤ here r t ∧ here r t ≤ here r (endT s r 1)) ∧ (seaT r (endT s r 2) ≤ seaT r t ∧ seaT r t ≤ seaT r (endT s r 3)) ∧ (hum r (endT s r 4) ≤ hum r t ∧ hum r t ≤ hum r (endT s r 5)) ∧
    (0 ≤ hum r t ∧ hum r t ≤ 100) ∧ here r t ≤ seaT r t := by
  have hb := trB_of hs hr h
  have b : ∀ e, TrB (endT s r e) := fun e => trB_of hs hr (endT_ok hs hr hn e)
  have h0 := here_bd hr hb
  have h1 := fun e => here_bd hr (b e)
  have hy := hr.y; have hw := hr.w; have hh := hs.h
  unfold Spn at hy hw hh
  have ht := h
  unfold TrOk at ht
  have lo := here_lo hs hr hn h
  have hi := here_hi hs hr hn h
  have hbd := hb.d; have hbw := hb.w; have hbh := hb.h
  refine ⟨⟨lo 0 (by decide), hi 1 (by decide)⟩, ⟨?_, ?_⟩, ⟨?_, ?_⟩, humOf_bd h0 hb.d hb.w, (seaOf_bd h0 hb.h hb.d).2.2.1⟩
  · exact seaOf_mono (lo 2 (by decide)) ⟨(h1 2).1, h0.2⟩ (by show s.hl ≤ t.ht; omega) (by show 0 ≤ s.hl; omega) (by show t.dy ≤ r.dh; omega) (by omega)
  · exact seaOf_mono (hi 3 (by decide)) ⟨h0.1, (h1 3).2⟩ (by show t.ht ≤ s.hh; omega) (by omega) (by show r.dl ≤ t.dy; omega) (by show -300 ≤ r.dl; omega)
  · exact humOf_mono (hi 4 (by decide)) ⟨h0.1, (h1 4).2⟩ (by show t.dy ≤ r.dh; omega) ⟨by omega, by show r.dh ≤ 500; omega⟩ (by show r.wl ≤ t.wt; omega) ⟨by show -300 ≤ r.wl; omega, by omega⟩
  · exact humOf_mono (lo 5 (by decide)) ⟨(h1 5).1, h0.2⟩ (by show r.dl ≤ t.dy; omega) ⟨by show -300 ≤ r.dl; omega, by omega⟩ (by show t.wt ≤ r.wh; omega) ⟨by omega, by show r.wh ≤ 500; omega⟩
end Go.Proofs.YtmnepfejoneghaaGreatDoor
namespace Go.Sheet
open Go.Lib
/-- The parts of a text between bytes. -/
def parts (c : UInt8) : List UInt8 → List (List UInt8)
  | [] => [[]]
  | b :: s => if b = c then [] :: parts c s else match parts c s with
    | w :: ws => (b :: w) :: ws
    | [] => [[b]]
theorem parts_ne (c : UInt8) : ∀ s, parts c s ≠ []
  | [] => by simp [parts]
  | b :: s => by
    unfold parts
    split
    · simp
    · split <;> simp
theorem parts_cons_ne {c b : UInt8} {s : List UInt8} (h : b ≠ c) : ∃ w ws, parts c s = w :: ws ∧ parts c (b :: s) = (b :: w) :: ws := by
  cases hp : parts c s with
  | nil => exact absurd hp (parts_ne c s)
  | cons w ws =>
    refine ⟨w, ws, rfl, ?_⟩
    rw [parts, if_neg h, hp]
theorem parts_cons_eq {c : UInt8} {s : List UInt8} : parts c (c :: s) = [] :: parts c s := by rw [parts, if_pos rfl]
theorem join_two (w x : List UInt8) (ws : List (List UInt8)) (sep : List UInt8) : join (w :: x :: ws) sep = w ++ sep ++ join (x :: ws) sep := by
  rw [join_cons, join_cons]; simp [joinTail]
theorem parts_free (c : UInt8) : ∀ s, ∀ w ∈ parts c s, c ∉ w
  | [], w, hw => by simp [parts] at hw; subst hw; simp
  | b :: s, w, hw => by
    by_cases h : b = c
    · subst h
      rw [parts_cons_eq] at hw
      rcases List.mem_cons.1 hw with rfl | hw
      · simp
      · exact parts_free b s w hw
    · obtain ⟨x, xs, h1, h2⟩ := parts_cons_ne (s := s) h
      rw [h2] at hw
      rcases List.mem_cons.1 hw with rfl | hw
      · have := parts_free c s x (by rw [h1]; exact List.mem_cons_self ..)
        simp only [List.mem_cons, not_or]
        exact ⟨fun e => h e.symm, this⟩
      · exact parts_free c s w (by rw [h1]; exact List.mem_cons_of_mem _ hw)
theorem parts_app (c : UInt8) (t : List UInt8) : ∀ p : List UInt8, c ∉ p → parts c (p ++ c :: t) = p :: parts c t
  | [], _ => parts_cons_eq
  | b :: p, h => by
    simp only [List.mem_cons, not_or] at h
    have ih := parts_app c t p h.2
    obtain ⟨w, ws, h1, h2⟩ := parts_cons_ne (c := c) (b := b) (s := p ++ c :: t) (fun e => h.1 e.symm)
    rw [List.cons_append, h2]
    rw [ih] at h1
    cases h1; rfl
theorem parts_one (c : UInt8) : ∀ p : List UInt8, c ∉ p → parts c p = [p]
  | [], _ => rfl
  | b :: p, h => by
    simp only [List.mem_cons, not_or] at h
    have ih := parts_one c p h.2
    obtain ⟨w, ws, h1, h2⟩ := parts_cons_ne (c := c) (b := b) (s := p) (fun e => h.1 e.symm)
    rw [h2]
    rw [ih] at h1
    cases h1; rfl
theorem parts_join (c : UInt8) : ∀ ws : List (List UInt8), ws ≠ [] → (∀ w ∈ ws, c ∉ w) → parts c (join ws [c]) = ws
  | [], h, _ => absurd rfl h
  | [w], _, h => by rw [join_one]; exact parts_one c w (h w (List.mem_cons_self ..))
  | w :: x :: ws, _, h => by
    rw [join_two, List.append_assoc]
    show parts c (w ++ c :: join (x :: ws) [c]) = _
    rw [parts_app c _ w (h w (List.mem_cons_self ..)), parts_join c (x :: ws) (by simp) (fun y hy => h y (List.mem_cons_of_mem _ hy))]
theorem count_free (c : UInt8) : ∀ p : List UInt8, c ∉ p → p.count c = 0 := fun p h => List.count_eq_zero.2 h
theorem occ_one {c : UInt8} {s : List UInt8} {j : Nat} : occAt s [c] j = true ↔ s[j]? = some c := by
  unfold occAt
  cases h : s.drop j with
  | nil =>
    have : s[j]? = none := by rw [List.getElem?_eq_none_iff]; have := List.length_drop (l := s) (i := j); rw [h] at this; simp at this; omega
    simp [this]
  | cons a t =>
    have : s[j]? = some a := by have := List.getElem?_drop (xs := s) (i := j) (j := 0); rw [h] at this; simpa using this.symm
    rw [this]; simp only [List.isPrefixOf, Bool.and_true, beq_iff_eq, Option.some.injEq]; exact eq_comm
theorem index_free {c : UInt8} {s : List UInt8} (h : c ∉ s) : index s [c] = -1 := index_none fun j _ => by
  rw [Bool.eq_false_iff]
  intro hh
  exact h (List.mem_of_getElem? (occ_one.1 hh))
theorem index_at {c : UInt8} {p t : List UInt8} (h : c ∉ p) : index (p ++ c :: t) [c] = p.length :=
  index_first (by simp) (occ_one.2 (by simp)) fun j hj => by
    rw [Bool.eq_false_iff]
    intro hh
    have := occ_one.1 hh
    rw [List.getElem?_append_left hj] at this
    exact h (List.mem_of_getElem? this)
theorem cut_at {c : UInt8} : ∀ s : List UInt8, c ∈ s → ∃ p t, s = p ++ c :: t ∧ c ∉ p
  | b :: s, h => by
    by_cases hb : b = c
    · exact ⟨[], s, by rw [hb]; rfl, by simp⟩
    · obtain ⟨p, t, e, hp⟩ := cut_at s (by rcases List.mem_cons.1 h with h | h; exact absurd h.symm hb; exact h)
      exact ⟨b :: p, t, by rw [e]; rfl, by simp only [List.mem_cons, not_or]; exact ⟨fun e => hb e.symm, hp⟩⟩
theorem splitK_parts (c : UInt8) : ∀ (k : Nat) (s : List UInt8), s.count c = k → splitK [c] 0 k s = parts c s
  | 0, s, h => by
    have hf : c ∉ s := List.count_eq_zero.1 h
    rw [parts_one c s hf]; rfl
  | k + 1, s, h => by
    obtain ⟨p, t, rfl, hp⟩ := cut_at s (List.count_pos_iff.1 (show 0 < s.count c by omega))
    have hc : t.count c = k := by rw [List.count_append, count_free c p hp] at h; simp at h; omega
    have e : splitK [c] 0 (k + 1) (p ++ c :: t) = p :: splitK [c] 0 k t := by
      have h1 : ¬ ((index (p ++ c :: t) [c] == -1) = true) := by rw [index_at hp]; simp
      rw [splitK, if_neg h1, index_at hp]
      simp
    rw [parts_app c t p hp, ← splitK_parts c k t hc, e]
/-- Parts, as byte arrays. -/
def partsB (c : UInt8) (s : ByteArray) : List ByteArray := (parts c s.data.toList).map fun w => ⟨w.toArray⟩
theorem splitB_parts (c : UInt8) (s : ByteArray) : splitB ⟨#[c]⟩ 0 (countB s ⟨#[c]⟩) s = partsB c s := by
  have h := splitB_data ⟨#[c]⟩ 0 (countB s ⟨#[c]⟩) s
  have e : countB s ⟨#[c]⟩ = s.data.toList.count c := by unfold countB; exact count_one c _
  rw [e] at h ⊢
  rw [show (ByteArray.mk #[c]).data.toList = [c] from rfl, splitK_parts c _ _ rfl] at h
  unfold partsB
  rw [← h, List.map_map]
  conv => lhs; rw [← List.map_id (splitB _ _ _ _)]
  refine List.map_congr_left fun x _ => ?_
  show x = ⟨x.data.toList.toArray⟩
  simp
/-! ## Numerals -/
theorem dec_small {u : Nat} (h : u < 10) : decDigits u = [UInt8.ofNat (48 + u)] := by rw [decDigits, dif_pos h]
theorem dec_big {u : Nat} (h : ¬ u < 10) : decDigits u = decDigits (u / 10) ++ [UInt8.ofNat (48 + u % 10)] := by rw [decDigits, dif_neg h]
def isDig (b : UInt8) : Prop := 48 ≤ b.toNat ∧ b.toNat ≤ 57
instance (b : UInt8) : Decidable (isDig b) := by unfold isDig; infer_instance
theorem dig_toNat {n : Nat} (h : n < 10) : (UInt8.ofNat (48 + n)).toNat = 48 + n := by
  rw [UInt8.toNat_ofNat']; omega
theorem dec_dig : ∀ (u : Nat), ∀ b ∈ decDigits u, isDig b := by
  intro u
  induction u using Nat.strongRecOn with
  | _ u ih =>
    intro b hb
    by_cases h : u < 10
    · rw [dec_small h] at hb
      simp only [List.mem_singleton] at hb
      subst hb
      unfold isDig; rw [dig_toNat h]; omega
    · rw [dec_big h] at hb
      rcases List.mem_append.1 hb with hb | hb
      · exact ih (u / 10) (by omega) b hb
      · simp only [List.mem_singleton] at hb
        subst hb
        unfold isDig; rw [dig_toNat (Nat.mod_lt _ (by decide))]; omega
/-- The number that digits say. -/
def val (l : List UInt8) : Nat := l.foldl (fun n b => 10 * n + (b.toNat - 48)) 0
theorem val_snoc (l : List UInt8) (b : UInt8) : val (l ++ [b]) = 10 * val l + (b.toNat - 48) := by simp [val]
theorem val_dec : ∀ u : Nat, val (decDigits u) = u := by
  intro u
  induction u using Nat.strongRecOn with
  | _ u ih =>
    by_cases h : u < 10
    · rw [dec_small h]
      show 10 * 0 + ((UInt8.ofNat (48 + u)).toNat - 48) = u
      rw [dig_toNat h]; omega
    · rw [dec_big h, val_snoc, ih (u / 10) (by omega), dig_toNat (Nat.mod_lt _ (by decide))]; omega
theorem dec_ne (u : Nat) : decDigits u ≠ [] := by
  by_cases h : u < 10
  · rw [dec_small h]; simp
  · rw [dec_big h]; simp
theorem itoa_head (n : Int) (h : 0 ≤ n) : itoa n = decDigits n.toNat := by unfold itoa; rw [if_neg (by omega)]
theorem itoa_minus (n : Int) (h : n < 0) : itoa n = 45 :: decDigits n.natAbs := by unfold itoa; rw [if_pos h]
theorem dec_no45 (u : Nat) : (45 : UInt8) ∉ decDigits u := fun h => by have := dec_dig u 45 h; unfold isDig at this; exact absurd this.1 (by decide)
theorem itoa_bytes (n : Int) : ∀ b ∈ itoa n, b = 45 ∨ isDig b := fun b hb => by
  unfold itoa at hb
  split at hb
  · rcases List.mem_cons.1 hb with h | h
    · exact .inl h
    · exact .inr (dec_dig _ b h)
  · exact .inr (dec_dig _ b hb)
end Go.Sheet
namespace Go.Lib
theorem index_byte (c : UInt8) : ∀ s : List UInt8, index s [c] = indexByte s c := by
  intro s
  by_cases h : c ∈ s
  · obtain ⟨p, t, rfl, hp⟩ := Go.Sheet.cut_at s h
    rw [Go.Sheet.index_at hp]
    rcases Int.lt_or_le (indexByte (p ++ c :: t) c) 0 with hn | hn
    · have hm : indexByte (p ++ c :: t) c = -1 := by have := indexByte_ge (p ++ c :: t) c; omega
      exact absurd (by simp) (indexByte_none hm p.length)
    · obtain ⟨o, ho⟩ := Int.eq_ofNat_of_zero_le hn
      obtain ⟨h1, h2⟩ := indexByte_some ho
      rw [ho]
      rcases Nat.lt_trichotomy o p.length with hlt | he | hgt
      · rw [List.getElem?_append_left hlt] at h1
        exact absurd (List.mem_of_getElem? h1) hp
      · rw [he]
      · exact absurd (by simp) (h2 p.length hgt)
  · rw [Go.Sheet.index_free h]
    rcases Int.lt_or_le (indexByte s c) 0 with hn | hn
    · have := indexByte_ge s c; omega
    · obtain ⟨o, ho⟩ := Int.eq_ofNat_of_zero_le hn
      exact absurd (List.mem_of_getElem? (indexByte_some ho).1) h
end Go.Lib
