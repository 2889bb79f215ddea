import Derived.Test.YtdbiiegohemahaaGreatDoorSg
set_option linter.unusedVariables false
set_option linter.unusedSimpArgs false
namespace Go.Proofs.YtdbiiegohemahaaGreatDoor
open Go.Ab

theorem mul_bd {a b A B : Int} (h0 : 0 ≤ a) (h1 : a ≤ A) (h2 : 0 ≤ b) (h3 : b ≤ B) : 0 ≤ a * b ∧ a * b ≤ A * B := by
  refine ⟨Int.mul_nonneg h0 h2, ?_⟩
  exact Int.le_trans (Int.mul_le_mul_of_nonneg_right h1 h2) (Int.mul_le_mul_of_nonneg_left h3 (by omega))
/-- A product, by how great its factors are. -/
theorem mul_abs {a b : Int} (A B : Nat) (h : -(A : Int) ≤ a ∧ a ≤ A) (h2 : -(B : Int) ≤ b ∧ b ≤ B) : -((A * B : Nat) : Int) ≤ a * b ∧ a * b ≤ ((A * B : Nat) : Int) := by
  have h3 : (a * b).natAbs ≤ A * B := by rw [Int.natAbs_mul]; exact Nat.mul_le_mul (by omega) (by omega)
  omega
/-! ## The index -/
def far (a b : Int) : Int := max (a - b) (b - a)
theorem far_bd {a b : Int} (h1 : 0 ≤ a ∧ a ≤ 400) (h2 : 0 ≤ b ∧ b ≤ 400) : 0 ≤ far a b ∧ far a b ≤ 400 := by unfold far; omega
theorem far_comm (a b : Int) : far a b = far b a := by unfold far; omega
theorem far_self (a : Int) : far a a = 0 := by unfold far; omega
theorem far_tri {D : Int} (h : 0 ≤ D) (a b c : Int) : D * far a c ≤ D * far a b + D * far b c := by
  rw [← Int.mul_add]; exact Int.mul_le_mul_of_nonneg_left (by unfold far; omega) h
theorem far_nonneg {D : Int} (h : 0 ≤ D) (a b : Int) : 0 ≤ D * far a b := Int.mul_nonneg h (by unfold far; omega)
theorem far_succ (D a : Int) : D * far a (a + 1) = D := by
  have : far a (a + 1) = 1 := by unfold far; omega
  rw [this, Int.mul_one]
def lowK (s : Stn) (day : Int) : Nat → Int
  | 0 => -2000
  | k + 1 => max (lowK s day k) ((nth s.ck k).lo - s.dr * far day (nth s.ck k).day)
def highK (s : Stn) (day : Int) : Nat → Int
  | 0 => 2000
  | k + 1 => min (highK s day k) ((nth s.ck k).hi + s.dr * far day (nth s.ck k).day)
def ixL (s : Stn) (day : Int) : Int := lowK s day s.ck.length
def ixH (s : Stn) (day : Int) : Int := highK s day s.ck.length
theorem StOk.far {s : Stn} (h : StOk s) {day : Int} (hd : 0 ≤ day ∧ day ≤ 400) {k : Nat} (hk : k < s.ck.length) : 0 ≤ s.dr * far day (nth s.ck k).day ∧ s.dr * far day (nth s.ck k).day ≤ 40000 :=
  mul_bd h.d.1 h.d.2 (far_bd hd (h.c k hk).1).1 (far_bd hd (h.c k hk).1).2
theorem lowK_bd {s : Stn} (h : StOk s) (day : Int) (hd : 0 ≤ day ∧ day ≤ 400) : ∀ k, k ≤ s.ck.length → -2000 ≤ lowK s day k ∧ lowK s day k ≤ 2000
  | 0, _ => by simp [lowK]
  | k + 1, hk => by
    have := lowK_bd h day hd k (by omega)
    have h2 := h.far hd (k := k) (by omega)
    have h3 := (h.c k (by omega)).2
    unfold Spn at h3
    simp only [lowK]; omega
theorem highK_bd {s : Stn} (h : StOk s) (day : Int) (hd : 0 ≤ day ∧ day ≤ 400) : ∀ k, k ≤ s.ck.length → -2000 ≤ highK s day k ∧ highK s day k ≤ 2000
  | 0, _ => by simp [highK]
  | k + 1, hk => by
    have := highK_bd h day hd k (by omega)
    have h2 := h.far hd (k := k) (by omega)
    have h3 := (h.c k (by omega)).2
    unfold Spn at h3
    simp only [highK]; omega
theorem ixL_bd {s : Stn} (h : StOk s) {day : Int} (hd : 0 ≤ day ∧ day ≤ 400) : -2000 ≤ ixL s day ∧ ixL s day ≤ 2000 := lowK_bd h day hd _ (Nat.le_refl _)
theorem ixH_bd {s : Stn} (h : StOk s) {day : Int} (hd : 0 ≤ day ∧ day ≤ 400) : -2000 ≤ ixH s day ∧ ixH s day ≤ 2000 := highK_bd h day hd _ (Nat.le_refl _)
theorem lowK_le {s : Stn} {d z : Int} : ∀ k, lowK s d k ≤ z ↔ -2000 ≤ z ∧ ∀ i, i < k → (nth s.ck i).lo - s.dr * far d (nth s.ck i).day ≤ z
  | 0 => by simp [lowK]
  | k + 1 => by
    have ih := lowK_le (s := s) (d := d) (z := z) k
    simp only [lowK]
    rw [Int.max_le, ih]
    constructor
    · rintro ⟨⟨h1, h2⟩, h3⟩
      refine ⟨h1, fun i hi => ?_⟩
      rcases Nat.lt_or_eq_of_le (Nat.le_of_lt_succ hi) with h | h
      · exact h2 i h
      · rw [h]; exact h3
    · rintro ⟨h1, h2⟩
      exact ⟨⟨h1, fun i hi => h2 i (by omega)⟩, h2 k (by omega)⟩
theorem le_highK {s : Stn} {d z : Int} : ∀ k, z ≤ highK s d k ↔ z ≤ 2000 ∧ ∀ i, i < k → z ≤ (nth s.ck i).hi + s.dr * far d (nth s.ck i).day
  | 0 => by simp [highK]
  | k + 1 => by
    have ih := le_highK (s := s) (d := d) (z := z) k
    simp only [highK]
    rw [Int.le_min, ih]
    constructor
    · rintro ⟨⟨h1, h2⟩, h3⟩
      refine ⟨h1, fun i hi => ?_⟩
      rcases Nat.lt_or_eq_of_le (Nat.le_of_lt_succ hi) with h | h
      · exact h2 i h
      · rw [h]; exact h3
    · rintro ⟨h1, h2⟩
      exact ⟨⟨h1, fun i hi => h2 i (by omega)⟩, h2 k (by omega)⟩
theorem ixL_le {s : Stn} {d z : Int} : ixL s d ≤ z ↔ -2000 ≤ z ∧ ∀ i, i < s.ck.length → (nth s.ck i).lo - s.dr * far d (nth s.ck i).day ≤ z := lowK_le _
theorem le_ixH {s : Stn} {d z : Int} : z ≤ ixH s d ↔ z ≤ 2000 ∧ ∀ i, i < s.ck.length → z ≤ (nth s.ck i).hi + s.dr * far d (nth s.ck i).day := le_highK _
theorem ixL_at (s : Stn) (d : Int) {i : Nat} (h : i < s.ck.length) : (nth s.ck i).lo - s.dr * far d (nth s.ck i).day ≤ ixL s d := (ixL_le.1 (Int.le_refl _)).2 i h
theorem ixH_at (s : Stn) (d : Int) {i : Nat} (h : i < s.ck.length) : ixH s d ≤ (nth s.ck i).hi + s.dr * far d (nth s.ck i).day := (le_ixH.1 (Int.le_refl _)).2 i h
theorem ixL_ge (s : Stn) (d : Int) : -2000 ≤ ixL s d := (ixL_le.1 (Int.le_refl _)).1
theorem ixH_le (s : Stn) (d : Int) : ixH s d ≤ 2000 := (le_ixH.1 (Int.le_refl _)).1
/-- Two comparisons contradict. -/
def Con (s : Stn) (i k : Nat) : Prop := s.dr * far (nth s.ck i).day (nth s.ck k).day < max ((nth s.ck i).lo - (nth s.ck k).hi) ((nth s.ck k).lo - (nth s.ck i).hi)
instance (s : Stn) (i k : Nat) : Decidable (Con s i k) := by unfold Con; infer_instance
/-- The first two that contradict. -/
def Clashes (s : Stn) (i k : Nat) : Prop := i < k ∧ k < s.ck.length ∧ Con s i k ∧ ∀ a b, a < b → b < s.ck.length → (a < i ∨ a = i ∧ b < k) → ¬ Con s a b
def NoClash (s : Stn) : Prop := ∀ a b, a < b → b < s.ck.length → ¬ Con s a b
noncomputable instance (s : Stn) : Decidable (NoClash s) := Classical.propDecidable _
open Classical in
noncomputable def clashP (s : Stn) : Option (Nat × Nat) := if h : ∃ p : Nat × Nat, Clashes s p.1 p.2 then some h.choose else none
theorem clashP_none {s : Stn} (h : NoClash s) : clashP s = none := by
  unfold clashP
  rw [dif_neg]
  rintro ⟨p, h1, h2, h3, _⟩
  exact h _ _ h1 h2 h3
theorem Clashes.uniq {s : Stn} {i k a b : Nat} (h : Clashes s i k) (g : Clashes s a b) : a = i ∧ b = k := by
  have h1 : ¬ (a < i ∨ a = i ∧ b < k) := fun e => h.2.2.2 a b g.1 g.2.1 e g.2.2.1
  have h2 : ¬ (i < a ∨ i = a ∧ k < b) := fun e => g.2.2.2 i k h.1 h.2.1 e h.2.2.1
  omega
theorem clashP_some {s : Stn} {i k : Nat} (h : Clashes s i k) : clashP s = some (i, k) := by
  unfold clashP
  have hex : ∃ p : Nat × Nat, Clashes s p.1 p.2 := ⟨(i, k), h⟩
  rw [dif_pos hex]
  obtain ⟨e1, e2⟩ := h.uniq hex.choose_spec
  congr 1; exact Prod.ext e1 e2
theorem first_of (p : Nat → Prop) : ∀ n, (∀ i, i < n → ¬ p i) ∨ ∃ i, i < n ∧ p i ∧ ∀ j, j < i → ¬ p j
  | 0 => .inl fun i hi => absurd hi (Nat.not_lt_zero i)
  | n + 1 => by
    rcases first_of p n with h | ⟨i, hi, h1, h2⟩
    · by_cases hp : p n
      · exact .inr ⟨n, by omega, hp, h⟩
      · refine .inl fun i hi => ?_
        rcases Nat.lt_or_eq_of_le (Nat.le_of_lt_succ hi) with h' | h'
        · exact h i h'
        · rw [h']; exact hp
    · exact .inr ⟨i, by omega, h1, h2⟩
theorem clash_or (s : Stn) : NoClash s ∨ ∃ i k, Clashes s i k := by
  rcases first_of (fun a => ∃ b, a < b ∧ b < s.ck.length ∧ Con s a b) s.ck.length with h | ⟨i, hi, ⟨b, hb⟩, h2⟩
  · exact .inl fun a b h1 h3 h4 => h a (by omega) ⟨b, h1, h3, h4⟩
  · rcases first_of (fun k => i < k ∧ k < s.ck.length ∧ Con s i k) s.ck.length with h | ⟨k, hk, h3, h4⟩
    · exact absurd hb (h b hb.2.1)
    · refine .inr ⟨i, k, h3.1, h3.2.1, h3.2.2, fun x y g1 g2 g3 g4 => ?_⟩
      rcases g3 with g3 | ⟨rfl, g3⟩
      · exact h2 x g3 ⟨y, g1, g2, g4⟩
      · exact h4 y g3 ⟨g1, g2, g4⟩
theorem Clashes.no {s : Stn} {i k : Nat} (h : Clashes s i k) : ¬ NoClash s := fun hn => hn i k h.1 h.2.1 h.2.2.1
theorem noClash_iff {s : Stn} : NoClash s ↔ clashP s = none := by
  rcases clash_or s with h | ⟨i, k, h⟩
  · exact ⟨fun _ => clashP_none h, fun _ => h⟩
  · exact ⟨fun hn => absurd hn h.no, fun e => by rw [clashP_some h] at e; cases e⟩
/-- The comparisons agree. -/
theorem NoClash.all {s : Stn} (h : NoClash s) (hs : StOk s) {i k : Nat} (hi : i < s.ck.length) (hk : k < s.ck.length) : (nth s.ck i).lo - (nth s.ck k).hi ≤ s.dr * far (nth s.ck i).day (nth s.ck k).day := by
  rcases Nat.lt_trichotomy i k with hlt | e | hlt
  · have := h i k hlt hk; unfold Con at this; omega
  · subst e
    have := (hs.c i hi).2; unfold Spn at this
    have h2 := far_nonneg hs.d.1 (nth s.ck i).day (nth s.ck i).day
    omega
  · have := h k i hlt hi; unfold Con at this; rw [far_comm]; omega
theorem noClash_of {s : Stn} (h : ∀ i k, i < s.ck.length → k < s.ck.length → (nth s.ck i).lo - (nth s.ck k).hi ≤ s.dr * far (nth s.ck i).day (nth s.ck k).day) : NoClash s := fun a b h1 h2 h3 => by
  have g1 := h a b (by omega) h2
  have g2 := h b a h2 (by omega)
  rw [far_comm] at g2
  unfold Con at h3
  omega
theorem ix_le {s : Stn} (hs : StOk s) (hn : NoClash s) (d : Int) : ixL s d ≤ ixH s d := by
  refine le_ixH.2 ⟨ixL_le.2 ⟨by omega, fun i hi => ?_⟩, fun k hk => ixL_le.2 ⟨?_, fun i hi => ?_⟩⟩
  · have := (hs.c i hi).2; unfold Spn at this
    have h2 := far_nonneg hs.d.1 d (nth s.ck i).day
    omega
  · have := (hs.c k hk).2; unfold Spn at this
    have h2 := far_nonneg hs.d.1 d (nth s.ck k).day
    omega
  · have h1 := hn.all hs hi hk
    have h2 := far_tri hs.d.1 (nth s.ck i).day d (nth s.ck k).day
    rw [far_comm (nth s.ck i).day d] at h2
    omega
theorem ixL_near {s : Stn} (hs : 0 ≤ s.dr) (a b : Int) : ixL s a - ixL s b ≤ s.dr * far a b := by
  have : ixL s a ≤ ixL s b + s.dr * far a b := ixL_le.2 ⟨by have := ixL_ge s b; have := far_nonneg hs a b; omega, fun i hi => by
    have h1 := ixL_at s b hi
    have h2 := far_tri hs b a (nth s.ck i).day
    rw [far_comm b a] at h2
    omega⟩
  omega
theorem ixH_near {s : Stn} (hs : 0 ≤ s.dr) (a b : Int) : ixH s a - ixH s b ≤ s.dr * far a b := by
  have : ixH s a - s.dr * far a b ≤ ixH s b := le_ixH.2 ⟨by have := ixH_le s a; have := far_nonneg hs a b; omega, fun i hi => by
    have h1 := ixH_at s a hi
    have h2 := far_tri hs a b (nth s.ck i).day
    omega⟩
  omega
/-! ## Due -/
def dueK (s : Stn) (w : Int) : Nat → Int → Int
  | 0, _ => -1
  | n + 1, d => if w < ixH s d - ixL s d then d else dueK s w n (d + 1)
def dueI (s : Stn) (f w : Int) : Int := dueK s w (401 - f).toNat f
theorem dueK_or (s : Stn) (w : Int) : ∀ (n : Nat) (d : Int), (dueK s w n d = -1 ∧ ∀ e, d ≤ e → e < d + n → ixH s e - ixL s e ≤ w) ∨
    (d ≤ dueK s w n d ∧ dueK s w n d < d + n ∧ w < ixH s (dueK s w n d) - ixL s (dueK s w n d) ∧ ∀ e, d ≤ e → e < dueK s w n d → ixH s e - ixL s e ≤ w)
  | 0, d => .inl ⟨rfl, fun e h1 h2 => by omega⟩
  | n + 1, d => by
    simp only [dueK]
    by_cases hw : w < ixH s d - ixL s d
    · rw [if_pos hw]
      exact .inr ⟨by omega, by omega, hw, fun e h1 h2 => by omega⟩
    · rw [if_neg hw]
      have hd : ∀ e, d ≤ e → (d + 1 ≤ e → ixH s e - ixL s e ≤ w) → ixH s e - ixL s e ≤ w := fun e h1 h2 => by
        rcases Int.lt_or_eq_of_le h1 with h | h
        · exact h2 (by omega)
        · rw [← h]; omega
      rcases dueK_or s w n (d + 1) with ⟨h1, h2⟩ | ⟨h1, h2, h3, h4⟩
      · exact .inl ⟨h1, fun e g1 g2 => hd e g1 fun g => h2 e g (by omega)⟩
      · exact .inr ⟨by omega, by omega, h3, fun e g1 g2 => hd e g1 fun g => h4 e g g2⟩
/-! ## What air holds -/
def airT : List Int := [38, 61, 96, 144, 216, 316, 458, 654, 921, 1279, 1753, 2376, 3182, 4218, 5532, 7188, 9251]
def air (t : Int) : Int := if (t + 300) % 50 = 0 then nth airT ((t + 300) / 50).toNat else
  nth airT ((t + 300) / 50).toNat + (nth airT (((t + 300) / 50).toNat + 1) - nth airT ((t + 300) / 50).toNat) * ((t + 300) % 50) / 50
theorem air_all : ((List.range 801).all fun k => decide (38 ≤ air ((k : Int) - 300) ∧ air ((k : Int) - 300) ≤ 9251 ∧ (k < 800 → air ((k : Int) - 300) ≤ air ((k : Int) - 300 + 1)))) = true := by decide +kernel
theorem air_at {t : Int} (h : -300 ≤ t ∧ t ≤ 500) : 38 ≤ air t ∧ air t ≤ 9251 ∧ (t < 500 → air t ≤ air (t + 1)) := by
  have := List.all_eq_true.1 air_all (t + 300).toNat (List.mem_range.2 (by omega))
  have e : (((t + 300).toNat : Nat) : Int) - 300 = t := by omega
  simp only [e, decide_eq_true_eq] at this
  exact ⟨this.1, this.2.1, fun h => this.2.2 (by omega)⟩
theorem air_mono {a b : Int} (h1 : -300 ≤ a) (h2 : a ≤ b) (h3 : b ≤ 500) : air a ≤ air b := by
  obtain ⟨n, hn⟩ : ∃ n : Nat, b = a + n := ⟨(b - a).toNat, by omega⟩
  subst hn
  clear h2
  induction n with
  | zero => simp
  | succ n ih =>
    have := ih (by omega)
    have h := (air_at (t := a + n) (by omega)).2.2 (by omega)
    rw [show a + ((n + 1 : Nat) : Int) = a + n + 1 by omega]
    omega
/-! ## Weather -/
def hereA (m a : Int) : Int := m - m * a * 163 / 10000000
def hereG (h g : Int) : Int := h + h * g / 1000000
def hereOf (m a g : Int) : Int := hereG (hereA m a) g
def seaOf (h ht d : Int) : Int := h + h * ht * 10 / (79900 + 29 * d)
def vapOf (h d w : Int) : Int := max 0 (air (min w d) - h * (d - min w d) * 8 / 100000)
def humOf (h d w : Int) : Int := 100 * vapOf h d w / air d
theorem hereA_bd {m a : Int} (hm : 37800 ≤ m ∧ m ≤ 92200) (ha : -300 ≤ a ∧ a ≤ 500) : (-46100000 ≤ m * a ∧ m * a ≤ 46100000) ∧ 37000 ≤ hereA m a ∧ hereA m a ≤ 92700 := by
  have h := mul_abs 92200 500 (a := m) (b := a) (by omega) (by omega)
  have h1 : m * a ≤ 92200 * 500 := by
    have := h.2; omega
  have h2 : -(92200 * 300) ≤ m * a := by
    have e : m * (-a) ≤ 92200 * 300 := by
      rcases Int.le_total 0 (-a) with h | h
      · exact (mul_bd (A := 92200) (B := 300) (by omega) hm.2 h (by omega)).2
      · have := Int.mul_le_mul_of_nonneg_left h (show (0 : Int) ≤ m by omega); omega
    rw [Int.mul_neg] at e; omega
  refine ⟨by omega, ?_⟩
  unfold hereA; omega
theorem hereG_bd {h g : Int} (hh : 37000 ≤ h ∧ h ≤ 92700) (hg : -3000 ≤ g ∧ g ≤ 3000) : (-278100000 ≤ h * g ∧ h * g ≤ 278100000) ∧ 36700 ≤ hereG h g ∧ hereG h g ≤ 93000 := by
  have h2 := mul_abs 92700 3000 (a := h) (b := g) (by omega) (by omega)
  unfold hereG; omega
theorem hereOf_bd {m a g : Int} (hm : 37800 ≤ m ∧ m ≤ 92200) (ha : -300 ≤ a ∧ a ≤ 500) (hg : -3000 ≤ g ∧ g ≤ 3000) : 36700 ≤ hereOf m a g ∧ hereOf m a g ≤ 93000 := (hereG_bd (hereA_bd hm ha).2 hg).2
theorem seaOf_bd {h ht d : Int} (hh : 36700 ≤ h ∧ h ≤ 93000) (ht' : 0 ≤ ht ∧ ht ≤ 3000) (hd : -300 ≤ d ∧ d ≤ 500) : (0 ≤ h * ht ∧ h * ht ≤ 279000000) ∧ (0 ≤ h * ht * 10 / (79900 + 29 * d) ∧ h * ht * 10 / (79900 + 29 * d) ≤ 2790000000) ∧ h ≤ seaOf h ht d ∧ seaOf h ht d ≤ 3000000000 := by
  have h1 := mul_bd (A := 93000) (B := 3000) (by omega) hh.2 ht'.1 ht'.2
  have h2 : 0 ≤ h * ht * 10 / (79900 + 29 * d) := Int.ediv_nonneg (by omega) (by omega)
  have h3 : h * ht * 10 / (79900 + 29 * d) ≤ h * ht * 10 := Int.ediv_le_self _ (by omega)
  unfold seaOf; omega
theorem vapOf_bd {h d w : Int} (hh : 36700 ≤ h ∧ h ≤ 93000) (hd : -300 ≤ d ∧ d ≤ 500) (hw : -300 ≤ w ∧ w ≤ 500) : (0 ≤ h * (d - min w d) ∧ h * (d - min w d) ≤ 74400000) ∧ 0 ≤ vapOf h d w ∧ vapOf h d w ≤ air d := by
  have h1 := mul_bd (A := 93000) (B := 800) (a := h) (b := d - min w d) (by omega) hh.2 (by omega) (by omega)
  have h2 := air_mono (a := min w d) (b := d) (by omega) (by omega) (by omega)
  have h3 := air_at hd
  unfold vapOf; omega
theorem humOf_bd {h d w : Int} (hh : 36700 ≤ h ∧ h ≤ 93000) (hd : -300 ≤ d ∧ d ≤ 500) (hw : -300 ≤ w ∧ w ≤ 500) : 0 ≤ humOf h d w ∧ humOf h d w ≤ 100 := by
  have h1 := (vapOf_bd hh hd hw).2
  have h3 := air_at hd
  unfold humOf
  refine ⟨Int.ediv_nonneg (by omega) (by omega), ?_⟩
  have : 100 * vapOf h d w / air d < 101 := Int.ediv_lt_of_lt_mul (by omega) (by omega)
  omega
theorem ediv_shift {a b k c : Int} (hc : 0 < c) (h : a ≤ b + k * c) : a / c ≤ b / c + k := by
  have := Int.ediv_le_ediv hc h
  rwa [Int.add_mul_ediv_right _ _ (by omega)] at this
theorem hereA_mono {m m' a a' : Int} (h : m ≤ m') (h0 : 0 ≤ m) (ha : a' ≤ a) (hb : a' ≤ 500) : hereA m a ≤ hereA m' a' := by
  have h1 : m' * a' * 163 / 10000000 ≤ m * a' * 163 / 10000000 + (m' - m) := by
    refine ediv_shift (by omega) ?_
    have : (m' - m) * (a' * 163) ≤ (m' - m) * 10000000 := Int.mul_le_mul_of_nonneg_left (by omega) (by omega)
    rw [Int.sub_mul] at this
    rw [Int.mul_assoc, Int.mul_assoc]
    omega
  have h2 : m * a' * 163 / 10000000 ≤ m * a * 163 / 10000000 := by
    refine Int.ediv_le_ediv (by omega) ?_
    have := Int.mul_le_mul_of_nonneg_left ha h0
    omega
  unfold hereA; omega
theorem hereG_mono {h h' g g' : Int} (hh : h ≤ h') (h0 : 0 ≤ h) (hg : g ≤ g') (hb : -3000 ≤ g') : hereG h g ≤ hereG h' g' := by
  have h1 : h * g' / 1000000 ≤ h' * g' / 1000000 + (h' - h) := by
    refine ediv_shift (by omega) ?_
    have : 0 ≤ (h' - h) * (g' + 1000000) := Int.mul_nonneg (by omega) (by omega)
    rw [Int.sub_mul, Int.mul_add, Int.mul_add] at this
    rw [Int.sub_mul]
    omega
  have h2 : h * g / 1000000 ≤ h * g' / 1000000 := Int.ediv_le_ediv (by omega) (Int.mul_le_mul_of_nonneg_left hg h0)
  unfold hereG; omega
theorem hereOf_mono {m m' a a' g g' : Int} (hm : m ≤ m') (hm0 : 37800 ≤ m ∧ m' ≤ 92200) (ha : a' ≤ a) (ha0 : -300 ≤ a' ∧ a ≤ 500) (hg : g ≤ g') (hg0 : -3000 ≤ g ∧ g' ≤ 3000) : hereOf m a g ≤ hereOf m' a' g' :=
  hereG_mono (hereA_mono hm (by omega) ha (by omega)) (by have := (hereA_bd (m := m) (a := a) (by omega) (by omega)).2; omega) hg (by omega)
theorem ediv_den {a b c : Int} (ha : 0 ≤ a) (hc : 0 < c) (h : c ≤ b) : a / b ≤ a / c := by
  refine Int.le_ediv_of_mul_le hc ?_
  have h1 : 0 ≤ a / b := Int.ediv_nonneg ha (by omega)
  have h2 := Int.ediv_mul_le a (b := b) (by omega)
  have h3 := Int.mul_le_mul_of_nonneg_left h h1
  omega
theorem seaOf_mono {h h' t t' d d' : Int} (hh : h ≤ h') (h0 : 36700 ≤ h ∧ h' ≤ 93000) (ht : t ≤ t') (ht0 : 0 ≤ t) (hd : d' ≤ d) (hd0 : -300 ≤ d') : seaOf h t d ≤ seaOf h' t' d' := by
  have h1 : h * t ≤ h' * t' := (mul_bd (A := h') (B := t') (by omega) hh ht0 ht).2
  have hp : 0 ≤ h' * t' := Int.mul_nonneg (by omega) (by omega)
  have h2 : h * t * 10 / (79900 + 29 * d) ≤ h' * t' * 10 / (79900 + 29 * d) := Int.ediv_le_ediv (by omega) (by omega)
  have h3 : h' * t' * 10 / (79900 + 29 * d) ≤ h' * t' * 10 / (79900 + 29 * d') := ediv_den (by omega) (by omega) (by omega)
  unfold seaOf; omega
theorem humOf_mono {h h' d d' w w' : Int} (hh : h' ≤ h) (h0 : 36700 ≤ h' ∧ h ≤ 93000) (hd : d' ≤ d) (hd0 : -300 ≤ d' ∧ d ≤ 500) (hw : w ≤ w') (hw0 : -300 ≤ w ∧ w' ≤ 500) : humOf h d w ≤ humOf h' d' w' := by
  rcases Int.lt_or_le w' d' with hc | hc
  · have e1 : min w d = w := by omega
    have e2 : min w' d' = w' := by omega
    have h1 : h' * (d' - w') ≤ h * (d - w) := (mul_bd (A := h) (B := d - w) (by omega) hh (by omega) (by omega)).2
    have h2 : h' * (d' - w') * 8 / 100000 ≤ h * (d - w) * 8 / 100000 := Int.ediv_le_ediv (by omega) (by omega)
    have h3 := air_mono (a := w) (b := w') (by omega) hw (by omega)
    have h4 := air_mono (a := d') (b := d) (by omega) hd (by omega)
    have hv : vapOf h d w ≤ vapOf h' d' w' := by unfold vapOf; rw [e1, e2]; omega
    have hp : 0 ≤ vapOf h' d' w' := by unfold vapOf; omega
    have ha := air_at (t := d') (by omega)
    unfold humOf
    exact Int.le_trans (Int.ediv_le_ediv (by omega) (show 100 * vapOf h d w ≤ 100 * vapOf h' d' w' by omega)) (ediv_den (by omega) (by omega) h4)
  · have h1 := (humOf_bd (h := h) (d := d) (w := w) (by omega) (by omega) (by omega)).2
    have e2 : min w' d' = d' := by omega
    have ha := air_at (t := d') (by omega)
    have : humOf h' d' w' = 100 := by
      unfold humOf vapOf
      rw [e2, Int.sub_self, Int.mul_zero, Int.zero_mul, Int.zero_ediv, Int.sub_zero, Int.max_eq_right (by omega)]
      exact Int.mul_ediv_cancel _ (by omega)
    omega
end Go.Proofs.YtdbiiegohemahaaGreatDoor
