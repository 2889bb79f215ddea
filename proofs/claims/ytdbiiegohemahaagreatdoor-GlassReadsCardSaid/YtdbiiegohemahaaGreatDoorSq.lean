import Derived.Test.YtdbiiegohemahaaGreatDoorSp
set_option linter.unusedVariables false
set_option linter.unusedSimpArgs false
namespace Go.Proofs.YtdbiiegohemahaaGreatDoor
open Go.Ab
/-! ## Stations that are changed -/
/-- One comparison more. -/
def addC (s : Stn) (c : Ck) : Stn := ⟨s.hl, s.hh, s.gl, s.gh, s.dr, s.rd, s.ea, s.sl, s.ck ++ [c]⟩
theorem nth_left {α : Type} [Inhabited α] {l t : List α} {i : Nat} (h : i < l.length) : nth (l ++ t) i = nth l i := by
  unfold nth; rw [List.getD_eq_getElem?_getD, List.getD_eq_getElem?_getD, List.getElem?_append_left h]
theorem nth_last {α : Type} [Inhabited α] {l : List α} {x : α} : nth (l ++ [x]) l.length = x := by
  unfold nth; rw [List.getD_eq_getElem?_getD]; simp
theorem lowK_add (s : Stn) (c : Ck) (d : Int) : ∀ k, k ≤ s.ck.length → lowK (addC s c) d k = lowK s d k
  | 0, _ => rfl
  | k + 1, h => by
    have e : nth (s.ck ++ [c]) k = nth s.ck k := nth_left (by omega)
    simp only [lowK, lowK_add s c d k (by omega)]
    simp only [addC, e]
theorem highK_add (s : Stn) (c : Ck) (d : Int) : ∀ k, k ≤ s.ck.length → highK (addC s c) d k = highK s d k
  | 0, _ => rfl
  | k + 1, h => by
    have e : nth (s.ck ++ [c]) k = nth s.ck k := nth_left (by omega)
    simp only [highK, highK_add s c d k (by omega)]
    simp only [addC, e]
theorem ixL_add (s : Stn) (c : Ck) (d : Int) : ixL (addC s c) d = max (ixL s d) (c.lo - s.dr * far d c.day) := by
  have e : (addC s c).ck.length = s.ck.length + 1 := by simp [addC]
  unfold ixL
  rw [e]
  simp only [lowK]
  rw [lowK_add s c d _ (Nat.le_refl _)]
  simp only [addC, nth_last]
theorem ixH_add (s : Stn) (c : Ck) (d : Int) : ixH (addC s c) d = min (ixH s d) (c.hi + s.dr * far d c.day) := by
  have e : (addC s c).ck.length = s.ck.length + 1 := by simp [addC]
  unfold ixH
  rw [e]
  simp only [highK]
  rw [highK_add s c d _ (Nat.le_refl _)]
  simp only [addC, nth_last]
theorem nth_cases {α : Type} [Inhabited α] {l : List α} {x : α} {i : Nat} (h : i < (l ++ [x]).length) : (i < l.length ∧ nth (l ++ [x]) i = nth l i) ∨ (i = l.length ∧ nth (l ++ [x]) i = x) := by
  simp only [List.length_append, List.length_cons, List.length_nil] at h
  rcases Nat.lt_or_ge i l.length with hl | hl
  · exact .inl ⟨hl, nth_left hl⟩
  · have : i = l.length := by omega
    subst this
    exact .inr ⟨rfl, nth_last⟩
theorem stOk_add {s : Stn} {c : Ck} (hs : StOk s) (hc : CkOk c) (hn : s.ck.length < 12) : StOk (addC s c) :=
  ⟨hs.h, hs.g, hs.d, hs.r, hs.e, hs.sl, by simp [addC]; omega, fun i hi => by
    rcases nth_cases (l := s.ck) (x := c) hi with ⟨h1, h2⟩ | ⟨h1, h2⟩
    · show CkOk (nth (s.ck ++ [c]) i); rw [h2]; exact hs.c i h1
    · show CkOk (nth (s.ck ++ [c]) i); rw [h2]; exact hc⟩
theorem stOk_of_add {s : Stn} {c : Ck} (h : StOk (addC s c)) : CkOk c := by
  have := h.c s.ck.length (by simp [addC])
  simp only [addC, nth_last] at this; exact this
theorem noClash_add {s : Stn} {c : Ck} (hs : StOk s) (hn : NoClash s) (hc : c.lo ≤ c.hi) (h1 : ixL s c.day ≤ c.hi) (h2 : c.lo ≤ ixH s c.day) : NoClash (addC s c) := by
  refine noClash_of fun i k hi hk => ?_
  show (nth (s.ck ++ [c]) i).lo - (nth (s.ck ++ [c]) k).hi ≤ s.dr * far (nth (s.ck ++ [c]) i).day (nth (s.ck ++ [c]) k).day
  rcases nth_cases (l := s.ck) (x := c) hi with ⟨a1, a2⟩ | ⟨a1, a2⟩ <;> rcases nth_cases (l := s.ck) (x := c) hk with ⟨b1, b2⟩ | ⟨b1, b2⟩ <;> rw [a2, b2]
  · exact hn.all hs a1 b1
  · have := ixL_at s c.day a1; rw [far_comm]; omega
  · have := ixH_at s c.day b1; omega
  · rw [far_self]; omega
theorem noClash_of_add {s : Stn} {c : Ck} (hs : StOk (addC s c)) (h : NoClash (addC s c)) : NoClash s ∧ ixL s c.day ≤ c.hi ∧ c.lo ≤ ixH s c.day := by
  have hlen : (addC s c).ck.length = s.ck.length + 1 := by simp [addC]
  have hat : ∀ i k, i < s.ck.length + 1 → k < s.ck.length + 1 → (nth (s.ck ++ [c]) i).lo - (nth (s.ck ++ [c]) k).hi ≤ s.dr * far (nth (s.ck ++ [c]) i).day (nth (s.ck ++ [c]) k).day := fun i k hi hk => h.all hs (by omega) (by omega)
  have hc := (stOk_of_add hs).2
  unfold Spn at hc
  refine ⟨noClash_of fun i k hi hk => ?_, ixL_le.2 ⟨by omega, fun i hi => ?_⟩, le_ixH.2 ⟨by omega, fun i hi => ?_⟩⟩
  · have := hat i k (by omega) (by omega)
    rw [nth_left hi, nth_left hk] at this; exact this
  · have := hat i s.ck.length (by omega) (by omega)
    rw [nth_left hi, nth_last, far_comm] at this; omega
  · have := hat s.ck.length i (by omega) (by omega)
    rw [nth_left hi, nth_last] at this; omega
/-- A lesser drift. -/
def drift (s : Stn) (n : Int) : Stn := ⟨s.hl, s.hh, s.gl, s.gh, n, s.rd, s.ea, s.sl, s.ck⟩
theorem ixL_drift {s : Stn} {n : Int} (h : n ≤ s.dr) (d : Int) : ixL s d ≤ ixL (drift s n) d := ixL_le.2 ⟨ixL_ge _ _, fun i hi => by
  have h1 := ixL_at (drift s n) d (i := i) hi
  have h2 : n * far d (nth s.ck i).day ≤ s.dr * far d (nth s.ck i).day := Int.mul_le_mul_of_nonneg_right h (by unfold far; omega)
  simp only [drift] at h1 ⊢
  omega⟩
theorem ixH_drift {s : Stn} {n : Int} (h : n ≤ s.dr) (d : Int) : ixH (drift s n) d ≤ ixH s d := le_ixH.2 ⟨ixH_le _ _, fun i hi => by
  have h1 := ixH_at (drift s n) d (i := i) hi
  have h2 : n * far d (nth s.ck i).day ≤ s.dr * far d (nth s.ck i).day := Int.mul_le_mul_of_nonneg_right h (by unfold far; omega)
  simp only [drift] at h1 ⊢
  omega⟩
/-! ## What is true -/
theorem walk_near {f : Nat → Int} {D : Int} {N : Nat} (h : ∀ d, d < N → -D ≤ f (d + 1) - f d ∧ f (d + 1) - f d ≤ D) (a : Nat) : ∀ n, a + n ≤ N → -(D * n) ≤ f (a + n) - f a ∧ f (a + n) - f a ≤ D * n
  | 0, _ => by simp
  | n + 1, hn => by
    have h1 := walk_near h a n (by omega)
    have h2 := h (a + n) (by omega)
    have e : D * ((n + 1 : Nat) : Int) = D * n + D := by rw [Int.natCast_succ, Int.mul_add, Int.mul_one]
    rw [e]
    rw [show a + (n + 1) = a + n + 1 by omega]
    omega
theorem walk_far {f : Nat → Int} {D : Int} {N : Nat} (h : ∀ d, d < N → -D ≤ f (d + 1) - f d ∧ f (d + 1) - f d ≤ D) {a b : Nat} (ha : a ≤ N) (hb : b ≤ N) : f a - f b ≤ D * far a b := by
  rcases Nat.le_total a b with hab | hab
  · have := walk_near h a (b - a) (by omega)
    rw [show a + (b - a) = b by omega] at this
    have e : far (a : Int) b = ((b - a : Nat) : Int) := by unfold far; omega
    rw [e]; omega
  · have := walk_near h b (a - b) (by omega)
    rw [show b + (a - b) = a by omega] at this
    have e : far (a : Int) b = ((a - b : Nat) : Int) := by unfold far; omega
    rw [e]; omega
theorem true_ix {s : Stn} (hs : StOk s) {f : Nat → Int} (h : ∀ d, d < 400 → -s.dr ≤ f (d + 1) - f d ∧ f (d + 1) - f d ≤ s.dr) (hb : ∀ d, d ≤ 400 → -2000 ≤ f d ∧ f d ≤ 2000)
    (hc : ∀ i, i < s.ck.length → (nth s.ck i).lo ≤ f (nth s.ck i).day.toNat ∧ f (nth s.ck i).day.toNat ≤ (nth s.ck i).hi) :
    NoClash s ∧ ∀ d : Nat, d ≤ 400 → ixL s d ≤ f d ∧ f d ≤ ixH s d := by
  have hday : ∀ i, i < s.ck.length → (((nth s.ck i).day.toNat : Nat) : Int) = (nth s.ck i).day ∧ (nth s.ck i).day.toNat ≤ 400 := fun i hi => by have := (hs.c i hi).1; omega
  refine ⟨noClash_of fun i k hi hk => ?_, fun d hd => ⟨ixL_le.2 ⟨(hb d hd).1, fun i hi => ?_⟩, le_ixH.2 ⟨(hb d hd).2, fun i hi => ?_⟩⟩⟩
  · have := walk_far h (hday i hi).2 (hday k hk).2
    rw [(hday i hi).1, (hday k hk).1] at this
    have h1 := hc i hi; have h2 := hc k hk
    omega
  · have := walk_far h (hday i hi).2 hd
    rw [(hday i hi).1, far_comm] at this
    have h1 := hc i hi
    omega
  · have := walk_far h hd (hday i hi).2
    rw [(hday i hi).1] at this
    have h1 := hc i hi
    omega
/-- Two of the comparisons. -/
def onlyC (s : Stn) (i k : Nat) : Stn := ⟨s.hl, s.hh, s.gl, s.gh, s.dr, s.rd, s.ea, s.sl, [nth s.ck i, nth s.ck k]⟩
theorem stOk_only {s : Stn} (hs : StOk s) {i k : Nat} (hi : i < s.ck.length) (hk : k < s.ck.length) : StOk (onlyC s i k) :=
  ⟨hs.h, hs.g, hs.d, hs.r, hs.e, hs.sl, by simp [onlyC], fun j hj => by
    simp only [onlyC, List.length_cons, List.length_nil] at hj
    match j, hj with
    | 0, _ => exact hs.c i hi
    | 1, _ => exact hs.c k hk⟩
theorem only_iff {s : Stn} {i k : Nat} : NoClash (onlyC s i k) ↔ ¬ Con s i k := by
  constructor
  · intro h; exact h 0 1 (by omega) (by simp [onlyC])
  · intro h a b h1 h2
    simp only [onlyC, List.length_cons, List.length_nil] at h2
    obtain rfl : a = 0 := by omega
    obtain rfl : b = 1 := by omega
    exact h
/-! ## Truths -/
def TrOk (s : Stn) (r : Rdg) (t : Tru) : Prop := (ixL s r.day ≤ t.ix ∧ t.ix ≤ ixH s r.day) ∧ (-s.rd ≤ t.er ∧ t.er ≤ s.rd) ∧ (s.gl ≤ t.gr ∧ t.gr ≤ s.gh) ∧ (s.hl ≤ t.ht ∧ t.ht ≤ s.hh) ∧ (r.al ≤ t.at_ ∧ t.at_ ≤ r.ah) ∧ (r.dl ≤ t.dy ∧ t.dy ≤ r.dh) ∧ (r.wl ≤ t.wt ∧ t.wt ≤ r.wh)
instance (s : Stn) (r : Rdg) (t : Tru) : Decidable (TrOk s r t) := by unfold TrOk; infer_instance
/-- As far as any truth goes. -/
structure TrB (t : Tru) : Prop where
  i : -2000 ≤ t.ix ∧ t.ix ≤ 2000
  e : -200 ≤ t.er ∧ t.er ≤ 200
  g : -3000 ≤ t.gr ∧ t.gr ≤ 3000
  h : 0 ≤ t.ht ∧ t.ht ≤ 3000
  a : -300 ≤ t.at_ ∧ t.at_ ≤ 500
  d : -300 ≤ t.dy ∧ t.dy ≤ 500
  w : -300 ≤ t.wt ∧ t.wt ≤ 500
theorem trB_of {s : Stn} {r : Rdg} {t : Tru} (hs : StOk s) (hr : RdOk r) (h : TrOk s r t) : TrB t := by
  have h1 := ixL_bd hs hr.d; have h2 := ixH_bd hs hr.d
  have h3 := hs.h; have h4 := hs.g; have h5 := hs.r; have h6 := hr.a; have h7 := hr.y; have h8 := hr.w
  unfold TrOk at h
  unfold Spn at *
  constructor <;> omega
def mer (r : Rdg) (t : Tru) : Int := r.mer - t.ix - t.er
def here (r : Rdg) (t : Tru) : Int := hereOf (mer r t) t.at_ t.gr
def seaT (r : Rdg) (t : Tru) : Int := seaOf (here r t) t.ht t.dy
def hum (r : Rdg) (t : Tru) : Int := humOf (here r t) t.dy t.wt
theorem mer_bd {r : Rdg} {t : Tru} (hr : RdOk r) (ht : TrB t) : 37800 ≤ mer r t ∧ mer r t ≤ 92200 := by
  have := hr.q; have := ht.i; have := ht.e; unfold mer; omega
theorem here_bd {r : Rdg} {t : Tru} (hr : RdOk r) (ht : TrB t) : 36700 ≤ here r t ∧ here r t ≤ 93000 := hereOf_bd (mer_bd hr ht) ht.a ht.g
/-- The truth of an end: which of the six. -/
def much (e : Int) : Prop := e = 1 ∨ e = 3 ∨ e = 4
instance (e : Int) : Decidable (much e) := by unfold much; infer_instance
def endT (s : Stn) (r : Rdg) (e : Int) : Tru :=
  ⟨if much e then ixL s r.day else ixH s r.day, if much e then -s.rd else s.rd, if much e then s.gh else s.gl, if e = 3 then s.hh else s.hl, if much e then r.al else r.ah, if e = 2 ∨ e = 4 then r.dh else r.dl, if e = 5 then r.wh else r.wl⟩
theorem endT_ok {s : Stn} {r : Rdg} (hs : StOk s) (hr : RdOk r) (hn : NoClash s) (e : Int) : TrOk s r (endT s r e) := by
  have h1 := ix_le hs hn r.day
  have h3 := hs.h; have h4 := hs.g; have h5 := hs.r; have h6 := hr.a; have h7 := hr.y; have h8 := hr.w
  unfold Spn at *
  unfold TrOk endT
  simp only
  refine ⟨?_, ?_, ?_, ?_, ?_, ?_, ?_⟩ <;> split <;> omega
/-- What is known. -/
def endV (s : Stn) (r : Rdg) (e : Int) : Int := if e = 0 ∨ e = 1 then here r (endT s r e) else if e = 2 ∨ e = 3 then seaT r (endT s r e) else hum r (endT s r e)
theorem here_lo {s : Stn} {r : Rdg} {t : Tru} (hs : StOk s) (hr : RdOk r) (hn : NoClash s) (h : TrOk s r t) : ∀ e : Int, ¬ much e → here r (endT s r e) ≤ here r t := fun e he => by
  have hb := trB_of hs hr h
  have hm := mer_bd hr hb
  have he' := trB_of hs hr (endT_ok hs hr hn e)
  have hm' := mer_bd hr he'
  have ha := hr.a; have hg := hs.g; have hbg := hb.g; have hba := hb.a
  unfold Spn at ha hg
  unfold TrOk at h
  unfold mer endT at hm'
  simp only [if_neg he] at hm'
  unfold here mer endT
  simp only [if_neg he]
  unfold mer at hm
  exact hereOf_mono (by omega) (by omega) (by omega) (by omega) (by omega) (by omega)
theorem here_hi {s : Stn} {r : Rdg} {t : Tru} (hs : StOk s) (hr : RdOk r) (hn : NoClash s) (h : TrOk s r t) : ∀ e : Int, much e → here r t ≤ here r (endT s r e) := fun e he => by
  have hb := trB_of hs hr h
  have hm := mer_bd hr hb
  have he' := trB_of hs hr (endT_ok hs hr hn e)
  have hm' := mer_bd hr he'
  have ha := hr.a; have hg := hs.g; have hbg := hb.g; have hba := hb.a
  unfold Spn at ha hg
  unfold TrOk at h
  unfold mer endT at hm'
  simp only [if_pos he] at hm'
  unfold here mer endT
  simp only [if_pos he]
  unfold mer at hm
  exact hereOf_mono (by omega) (by omega) (by omega) (by omega) (by omega) (by omega)
theorem holds {s : Stn} {r : Rdg} {t : Tru} (hs : StOk s) (hr : RdOk r) (hn : NoClash s) (h : TrOk s r t) :
    (here r (endT s r 0) ≤ here r t ∧ here r t ≤ here r (endT s r 1)) ∧ (seaT r (endT s r 2) ≤ seaT r t ∧ seaT r t ≤ seaT r (endT s r 3)) ∧ (hum r (endT s r 4) ≤ hum r t ∧ hum r t ≤ hum r (endT s r 5)) ∧
    (0 ≤ hum r t ∧ hum r t ≤ 100) ∧ here r t ≤ seaT r t := by
  have hb := trB_of hs hr h
  have b : ∀ e, TrB (endT s r e) := fun e => trB_of hs hr (endT_ok hs hr hn e)
  have h0 := here_bd hr hb
  have h1 := fun e => here_bd hr (b e)
  have hy := hr.y; have hw := hr.w; have hh := hs.h
  unfold Spn at hy hw hh
  have ht := h
  unfold TrOk at ht
  have lo := here_lo hs hr hn h
  have hi := here_hi hs hr hn h
  have hbd := hb.d; have hbw := hb.w; have hbh := hb.h
  refine ⟨⟨lo 0 (by decide), hi 1 (by decide)⟩, ⟨?_, ?_⟩, ⟨?_, ?_⟩, humOf_bd h0 hb.d hb.w, (seaOf_bd h0 hb.h hb.d).2.2.1⟩
  · exact seaOf_mono (lo 2 (by decide)) ⟨(h1 2).1, h0.2⟩ (by show s.hl ≤ t.ht; omega) (by show 0 ≤ s.hl; omega) (by show t.dy ≤ r.dh; omega) (by omega)
  · exact seaOf_mono (hi 3 (by decide)) ⟨h0.1, (h1 3).2⟩ (by show t.ht ≤ s.hh; omega) (by omega) (by show r.dl ≤ t.dy; omega) (by show -300 ≤ r.dl; omega)
  · exact humOf_mono (hi 4 (by decide)) ⟨h0.1, (h1 4).2⟩ (by show t.dy ≤ r.dh; omega) ⟨by omega, by show r.dh ≤ 500; omega⟩ (by show r.wl ≤ t.wt; omega) ⟨by show -300 ≤ r.wl; omega, by omega⟩
  · exact humOf_mono (lo 5 (by decide)) ⟨(h1 5).1, h0.2⟩ (by show r.dl ≤ t.dy; omega) ⟨by show -300 ≤ r.dl; omega, by omega⟩ (by show t.wt ≤ r.wh; omega) ⟨by omega, by show r.wh ≤ 500; omega⟩
end Go.Proofs.YtdbiiegohemahaaGreatDoor
