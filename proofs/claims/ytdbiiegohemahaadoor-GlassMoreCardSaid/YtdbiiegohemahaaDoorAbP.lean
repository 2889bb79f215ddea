import Derived.Test.YtdbiiegohemahaaDoorAbQ
set_option linter.unusedVariables false
set_option linter.unusedSimpArgs false
namespace Go.Ab
open Go.RowKit
/-!
  Regions that draw their order and make more boxes: each order in which they may be made, by a tree; the boxes' names are swapped back behind each.
-/
/-- Which one is made next, and what then; at the end, the swaps that bring the boxes into the text's order. -/
inductive Tr where
  | leaf (sw : List Nat)
  | alt (a : Nat) (t : Tr) (r : Tr)
  | stop
def Tr.heads : Tr → List Nat
  | .alt a _ r => a :: r.heads
  | _ => []
def evTr (P : Program) (l : List Oper) (post : List Nat) (F : List Nat → St → Prop) : Tr → St → Prop
  | .leaf sw, s => evOps P l (pick l post) s (F sw)
  | .alt a t r, s => evOps P l (pick l [a]) s (fun s' => evTr P l post F t s') ∧ evTr P l post F r s
  | .stop, _ => True
def trB (ps : List (Tmp × Tmp)) (ops : Array Oper) (post : List Nat) : Bool → Tr → Nat → Array Bool → Bool
  | root, .leaf _, n, listed => root && n == post.length && seqB ps ops listed post
  | root, .alt a t r, n, listed => (!root || ((Region.ready .any ops listed).all (fun i => (a :: r.heads).contains i) && !(Region.ready .any ops listed).isEmpty)) && decide (1 ≤ n) && (ops[a]?).isSome &&
      trB ps ops post true t (n - 1) (listed.setIfInBounds a true) && trB ps ops post false r n listed
  | root, .stop, _, _ => !root
section
variable {P : Program}
theorem anyA_tr {ps : List (Tmp × Tmp)} {ops : Array Oper} {K : St → Prop} {F : List Nat → St → Prop} {post : List Nat} (hk : kindsOk ops.toList = true) (hw : wrOk ops = true) (hC : ∀ s, K s → ∀ x y, (x, y) ∈ ps → disj (s.sl x) (s.sl y)) (hF : ∀ sw s, F sw s → K s) :
    ∀ t : Tr, (∀ n listed s, trB ps ops post true t n listed = true → evTr P ops.toList post F t s → anyA P ops K n listed s) ∧
      (∀ n listed s, trB ps ops post false t n listed = true → evTr P ops.toList post F t s → ∀ i ∈ t.heads, ∀ o, ops[i]? = some o → gst P ops.toList o s fun s' => anyA P ops K (n - 1) (listed.setIfInBounds i true) s')
  | .leaf sw => ⟨fun n listed s hB h => by
      simp only [trB, Bool.true_and, Bool.and_eq_true, beq_iff_eq] at hB
      obtain ⟨rfl, hB⟩ := hB
      exact anyA_seq hk hw hC post listed s hB (evG_mono (kindsL_pick hk post) (fun s hs => hF _ s hs) (evOps_evG (kindsL_pick hk post) h)), fun n listed s _ _ i hi => by cases hi⟩
  | .stop => ⟨fun n listed s hB h => by simp [trB] at hB, fun n listed s _ _ i hi => by cases hi⟩
  | .alt a t r => by
    have iht := anyA_tr (post := post) hk hw hC hF t
    have ihr := anyA_tr (post := post) hk hw hC hF r
    have kids : ∀ n listed s, trB ps ops post false (.alt a t r) n listed = true → evTr P ops.toList post F (.alt a t r) s → ∀ i ∈ (Tr.alt a t r).heads, ∀ o, ops[i]? = some o → gst P ops.toList o s fun s' => anyA P ops K (n - 1) (listed.setIfInBounds i true) s' := by
      intro n listed s hB h i hi o ho
      simp only [trB, Bool.not_false, Bool.true_or, Bool.true_and, Bool.and_eq_true] at hB
      obtain ⟨h1, h2⟩ := h
      rcases List.mem_cons.1 hi with e | hi
      · subst e
        have k := kindsL_pick hk [i]
        have g := evOps_evG k h1
        rw [pick_at ho] at g
        have hm := kinds_of hk ho
        exact gst_mono hm.1 hm.2 (fun s' hs' => iht.1 _ _ s' hB.1.2 hs') g
      · exact ihr.2 n listed s hB.2 h2 i hi o ho
    refine ⟨fun n listed s hB h => ?_, kids⟩
    have hB' : trB ps ops post false (.alt a t r) n listed = true := by
      simp only [trB, Bool.and_eq_true, Bool.not_false, Bool.true_or, Bool.true_and] at hB ⊢
      exact ⟨⟨⟨hB.1.1.1.2, hB.1.1.2⟩, hB.1.2⟩, hB.2⟩
    simp only [trB, Bool.and_eq_true, Bool.not_true, Bool.false_or, decide_eq_true_eq, List.all_eq_true, List.contains_iff_mem, Bool.not_eq_true', List.isEmpty_eq_false_iff] at hB
    obtain ⟨n', rfl⟩ : ∃ n', n = n' + 1 := ⟨n - 1, by have := hB.1.1.1.2; omega⟩
    exact ⟨fun e => absurd e hB.1.1.1.1.2, fun i hi o ho => kids _ _ s hB' h i (hB.1.1.1.1.1 i hi) o ho⟩
def setAll (listed : Array Bool) : List Nat → Array Bool
  | [] => listed
  | i :: is => setAll (listed.setIfInBounds i true) is
def preB (ps : List (Tmp × Tmp)) (ops : Array Oper) : Array Bool → List Nat → Bool
  | _, [] => true
  | listed, i :: is => stepB ps ops listed i && preB ps ops (listed.setIfInBounds i true) is
theorem anyA_pre {ps : List (Tmp × Tmp)} {ops : Array Oper} {K : St → Prop} (hk : kindsOk ops.toList = true) (hw : wrOk ops = true) (hC : ∀ s, K s → ∀ x y, (x, y) ∈ ps → disj (s.sl x) (s.sl y)) (n : Nat) :
    ∀ (is : List Nat) (listed : Array Bool) (s : St), preB ps ops listed is = true → evG P ops.toList (pick ops.toList is) s (fun s1 => anyA P ops K n (setAll listed is) s1) → anyA P ops K (is.length + n) listed s
  | [], listed, s, hB, h => by
    rw [List.length_nil, Nat.zero_add]; exact h
  | i :: is, listed, s, hB, h => by
    simp only [preB, Bool.and_eq_true] at hB
    obtain ⟨hr, oi, hoi, hf⟩ := stepB_at hB.1
    rw [pick_at hoi] at h
    have hm := kinds_of hk hoi
    have e : (i :: is).length + n = (is.length + n) + 1 := by simp; omega
    rw [e]
    exact anyA_firstD hk hw hC hoi _ listed s hf hr (gst_mono hm.1 hm.2 (fun s' hs' => anyA_pre hk hw hC n is _ s' hB.2 hs') h)
def swAll (s : St) : List Nat → St
  | [] => s
  | m :: ms => swAll (s.sw m) ms
/-- What is asked at the end of another order. -/
def SameL (m0 : Nat) (ps : List (Tmp × Tmp)) (s1 : St) (sw : List Nat) (s2 : St) : Prop := Sep s2 ps ∧ (sw.all fun m => decide (m0 ≤ m) && decide (m + 1 < s2.bx.length)) = true ∧ SLe (swAll s2 sw) s1
theorem sw_len (s : St) (m : Nat) : (s.sw m).bx.length = s.bx.length := by show (swp m (s.bx.map (swB m))).length = _; rw [swp_len]; simp
theorem R.swAll {c : Ctx} {a : Act} {w : World} {m0 : Nat} (h0 : c.β0.length ≤ m0) : ∀ (sw : List Nat) (s : St), R c s a w → (sw.all fun m => decide (m0 ≤ m) && decide (m + 1 < s.bx.length)) = true → R c (Go.Ab.swAll s sw) a w
  | [], s, h, _ => h
  | m :: ms, s, ⟨g, hg⟩, hb => by
    simp only [List.all_cons, Bool.and_eq_true, decide_eq_true_eq] at hb
    refine R.swAll h0 ms (s.sw m) ⟨_, hg.sw hb.1.2 (Nat.le_trans h0 hb.1.1)⟩ ?_
    rw [sw_len]; exact hb.2
theorem abs_drawT {c : Ctx} {id : Nat} {l : List Oper} {Q : Exit → St → Prop} {s : St} (ps : List (Tmp × Tmp)) (pre can : List Nat) (t : Tr) (post : List Nat) (hm : c.P.follows .mixedOrders = true)
    (hB : (decide (pre.length + (can.length + post.length) = l.length) && kindsOk l && wrOk l.toArray && preB ps l.toArray (Array.replicate l.length false) pre &&
      trB ps l.toArray post true t (can.length + post.length) (setAll (Array.replicate l.length false) pre)) = true)
    (h : ∀ K : St → Prop, (∀ s', Q .normal s' ∧ Sep s' ps → K s') → evOps c.P l (pick l pre) s fun s1 => evOps c.P l (pick l (can ++ post)) s1 fun s' => K s' ∧ evTr c.P l post (SameL s.bx.length ps s') t s1) :
    Abs c (.region id l.toArray true) Q s := by
  intro act w hr
  simp only [Bool.and_eq_true, decide_eq_true_eq] at hB
  obtain ⟨⟨⟨⟨hlen, hk⟩, hw⟩, hp⟩, ht⟩ := hB
  have h0 : c.β0.length ≤ s.bx.length := by
    obtain ⟨g, hg⟩ := hr
    rw [← hg.lβ]
    rcases Nat.lt_or_ge g.β.length c.β0.length with hlt | hge
    · have := hg.df.anc g.β.length _ (List.getElem?_eq_getElem hlt)
      rw [List.getElem?_eq_none (Nat.le_refl _)] at this; cases this
    · exact hge
  let K : St → Prop := fun s' => (∃ sf sw, Q .normal sf ∧ (sw.all fun m => decide (s.bx.length ≤ m) && decide (m + 1 < s'.bx.length)) = true ∧ SLe (swAll s' sw) sf) ∧ Sep s' ps
  have hk' : kindsOk l.toArray.toList = true := by simpa using hk
  have k1 := kindsL_pick hk' pre
  have k2 := kindsL_pick hk' (can ++ post)
  have h1 := h (fun s' => Q .normal s' ∧ Sep s' ps) (fun _ h => h)
  have hC : ∀ s, K s → ∀ x y, (x, y) ∈ ps → disj (s.sl x) (s.sl y) := fun s hs => hs.2.at
  have h2 : evG c.P l.toArray.toList (pick l.toArray.toList pre) s (fun s1 => anyA c.P l.toArray K (can.length + post.length) (setAll (Array.replicate l.length false) pre) s1) := by
    refine evG_mono k1 (fun s1 hs1 => ?_) (evOps_evG k1 (by simpa using h1))
    obtain ⟨s', ⟨⟨q1, q2⟩, q3⟩, q4⟩ := evG_ex k2 (evOps_evG k2 (by simpa using hs1))
    exact (anyA_tr (ps := ps) (K := K) (F := SameL s.bx.length ps s') hk' hw hC (fun sw s'' hs => ⟨⟨s', sw, q1, hs.2.1, hs.2.2⟩, hs.1⟩) t).1 _ _ s1 ht (by simpa using q3)
  refine wpIn_region_any hm (anyA_sound (K := K) (fun s' a w hr hq => ?_) _ _ s _ _ (RG.drewTick hr) ?_)
  · obtain ⟨⟨sf, sw, hq, hl, hs⟩, _⟩ := hq
    exact ⟨sf, (R.swAll h0 sw s' hr hl).sle hs, hq⟩
  · have := anyA_pre (ops := l.toArray) (ps := ps) (K := K) hk' hw hC (can.length + post.length) pre (Array.replicate l.length false) s hp h2
    rw [hlen] at this
    simpa using this
end
/-! The same with appends: no boxes are made, but some orders are walked one by one. -/
section
variable {P : Program}
def stepXB (ps : List (Tmp × Tmp)) (qs : List Tmp) (ops : Array Oper) (listed : Array Bool) (i : Nat) : Bool := (Region.ready .any ops listed).contains i && match ops[i]? with
  | some oi => (List.range ops.size).all fun j => j == i || listed.getD j true || match ops[j]? with
    | some oj => oj.after.any (fun e => Region.binds .any e && e.on == i) || (oi.apart ops oj && (dynX ps qs oi oj || (anc ops j [j]).contains i))
    | none => true
  | none => false
def seqXB (ps : List (Tmp × Tmp)) (qs : List Tmp) (ops : Array Oper) : Array Bool → List Nat → Bool
  | listed, [] => (Region.ready .any ops listed).isEmpty
  | listed, i :: is => stepXB ps qs ops listed i && seqXB ps qs ops (listed.setIfInBounds i true) is
def preXB (ps : List (Tmp × Tmp)) (qs : List Tmp) (ops : Array Oper) : Array Bool → List Nat → Bool
  | _, [] => true
  | listed, i :: is => stepXB ps qs ops listed i && preXB ps qs ops (listed.setIfInBounds i true) is
def trXB (ps : List (Tmp × Tmp)) (qs : List Tmp) (ops : Array Oper) (post : List Nat) : Bool → Tr → Nat → Array Bool → Bool
  | root, .leaf _, n, listed => root && n == post.length && seqXB ps qs ops listed post
  | root, .alt a t r, n, listed => (!root || ((Region.ready .any ops listed).all (fun i => (a :: r.heads).contains i) && !(Region.ready .any ops listed).isEmpty)) && decide (1 ≤ n) && (ops[a]?).isSome && (Region.ready .any ops listed).contains a &&
      trXB ps qs ops post true t (n - 1) (listed.setIfInBounds a true) && trXB ps qs ops post false r n listed
  | root, .stop, _, _ => !root
theorem stepXB_at {ps : List (Tmp × Tmp)} {qs : List Tmp} {ops : Array Oper} {listed : Array Bool} {i : Nat} (h : stepXB ps qs ops listed i = true) : i ∈ Region.ready .any ops listed ∧ ∃ oi, ops[i]? = some oi ∧
    ∀ (j : Nat) (oj : Oper), ops[j]? = some oj → j ≠ i → listed.getD j true = false → (∀ e ∈ oj.after, Region.binds .any e = true → e.on ≠ i) → oi.apart ops oj = true ∧ (dynX ps qs oi oj = true ∨ i ∈ anc ops j [j]) := by
  simp only [stepXB, Bool.and_eq_true, List.contains_iff_mem] at h
  refine ⟨h.1, ?_⟩
  have h2 := h.2
  cases ho : ops[i]? with
  | none => rw [ho] at h2; cases h2
  | some oi =>
    rw [ho] at h2
    refine ⟨oi, rfl, fun j oj hj hji hl hno => ?_⟩
    have := List.all_eq_true.1 h2 j (List.mem_range.2 (Array.getElem?_eq_some_iff.1 hj).1)
    simp only [hj, Bool.or_eq_true, beq_iff_eq, hji, hl, Bool.false_eq_true, false_or, Array.any_eq_true', Bool.and_eq_true, List.contains_iff_mem] at this
    rcases this with ⟨e, he, h1, h2⟩ | h
    · exact absurd h2 (hno e he h1)
    · exact h
theorem ok_of {ops : Array Oper} (hk : ops.toList.all okX = true) {i : Nat} {o : Oper} (ho : ops[i]? = some o) : okX o = true := List.all_eq_true.1 hk o (by simpa using Array.mem_of_getElem? ho)
theorem okX_pick {ops : Array Oper} (hk : ops.toList.all okX = true) : ∀ (is : List Nat), ∀ o ∈ pick ops.toList is, okX o = true
  | [], o, ho => by cases ho
  | i :: is, o, ho => by
    simp only [pick] at ho
    split at ho
    · rename_i o' h'
      rcases List.mem_cons.1 ho with e | ho
      · subst e; exact ok_of hk (by simpa using h')
      · exact okX_pick hk is o ho
    · exact okX_pick hk is o ho
theorem evX_mono {ops : List Oper} : ∀ {l : List Oper} {s : St} {K K' : St → Prop}, (∀ o ∈ l, okX o = true) → (∀ s, K s → K' s) → evG P ops l s K → evG P ops l s K'
  | [], s, K, K', _, h, hk => h s hk
  | o :: l, s, K, K', hl, h, hk => (cp_gst (hl o (List.mem_cons_self ..))).mono (fun s' => evX_mono (fun x hx => hl x (List.mem_cons_of_mem _ hx)) h) hk
theorem evX_of {ops : List Oper} : ∀ {l : List Oper} {s : St} {K : St → Prop}, (∀ o ∈ l, okX o = true) → evOps P ops l s K → evG P ops l s K
  | [], s, K, _, h => h
  | o :: l, s, K, hl, h => (cp_gst (hl o (List.mem_cons_self ..))).mono (fun s' => evX_of fun x hx => hl x (List.mem_cons_of_mem _ hx)) (evOps_gst h)
theorem evX_ex {ops : List Oper} : ∀ {l : List Oper} {s : St} {K : St → Prop}, (∀ o ∈ l, okX o = true) → evG P ops l s K → ∃ s', K s' ∧ evG P ops l s fun x => x = s'
  | [], s, K, _, h => ⟨s, h, rfl⟩
  | o :: l, s, K, hl, h => by
    obtain ⟨s1, h2, h1⟩ := (cp_gst (hl o (List.mem_cons_self ..))).ex h
    obtain ⟨s', h3, h4⟩ := evX_ex (fun x hx => hl x (List.mem_cons_of_mem _ hx)) h1
    exact ⟨s', h3, (cp_gst (hl o (List.mem_cons_self ..))).mono (fun x hx => by rw [hx]; exact h4) h2⟩
section
variable {ps : List (Tmp × Tmp)} {qs : List Tmp} {ops : Array Oper} {K : St → Prop} (hk : ops.toList.all okX = true) (hw : wrOkX ops = true) (hC : ∀ s, K s → (∀ x y, (x, y) ∈ ps → disj (s.sl x) (s.sl y)) ∧ ∀ p ∈ qs, isBx (s.sl p))
include hk hw hC
theorem anyA_preX (n : Nat) : ∀ (is : List Nat) (listed : Array Bool) (s : St), closedA ops listed → preXB ps qs ops listed is = true →
    (closedA ops (setAll listed is) → evG P ops.toList (pick ops.toList is) s (fun s1 => anyA P ops K n (setAll listed is) s1)) → anyA P ops K (is.length + n) listed s
  | [], listed, s, hcl, hB, h => by
    rw [List.length_nil, Nat.zero_add]; exact h hcl
  | i :: is, listed, s, hcl, hB, h => by
    simp only [preXB, Bool.and_eq_true] at hB
    obtain ⟨hr, oi, hoi, hf⟩ := stepXB_at hB.1
    have e : (i :: is).length + n = (is.length + n) + 1 := by simp; omega
    rw [e]
    have key : ∀ (is : List Nat) (listed : Array Bool), closedA ops listed → preXB ps qs ops listed is = true → closedA ops (setAll listed is) := by
      intro is
      induction is with
      | nil => intro listed hcl _; exact hcl
      | cons i is ih =>
        intro listed hcl hB
        simp only [preXB, Bool.and_eq_true] at hB
        exact ih _ (closedA_set hcl (stepXB_at hB.1).1) hB.2
    have hcl' := closedA_set hcl hr
    have h' := h (key is _ hcl' hB.2)
    rw [pick_at hoi] at h'
    exact anyA_firstX hk hw hC hoi _ listed s hcl hf hr ((cp_gst (ok_of hk hoi)).mono (fun s' hs' => anyA_preX n is _ s' hcl' hB.2 fun _ => hs') h')
theorem anyA_seqX : ∀ (is : List Nat) (listed : Array Bool) (s : St), closedA ops listed → seqXB ps qs ops listed is = true → evG P ops.toList (pick ops.toList is) s K → anyA P ops K is.length listed s
  | [], listed, s, hcl, hB, h => ⟨by simpa [seqXB, List.isEmpty_iff] using hB, h⟩
  | i :: is, listed, s, hcl, hB, h => by
    simp only [seqXB, Bool.and_eq_true] at hB
    obtain ⟨hr, oi, hoi, hf⟩ := stepXB_at hB.1
    rw [pick_at hoi] at h
    exact anyA_firstX hk hw hC hoi is.length listed s hcl hf hr ((cp_gst (ok_of hk hoi)).mono (fun s' hs' => anyA_seqX is _ s' (closedA_set hcl hr) hB.2 hs') h)
theorem anyA_trX {F : List Nat → St → Prop} {post : List Nat} (hF : ∀ sw s, F sw s → K s) :
    ∀ t : Tr, (∀ n listed s, closedA ops listed → trXB ps qs ops post true t n listed = true → evTr P ops.toList post F t s → anyA P ops K n listed s) ∧
      (∀ n listed s, closedA ops listed → trXB ps qs ops post false t n listed = true → evTr P ops.toList post F t s → ∀ i ∈ t.heads, ∀ o, ops[i]? = some o → gst P ops.toList o s fun s' => anyA P ops K (n - 1) (listed.setIfInBounds i true) s')
  | .leaf sw => ⟨fun n listed s hcl hB h => by
      simp only [trXB, Bool.true_and, Bool.and_eq_true, beq_iff_eq] at hB
      obtain ⟨rfl, hB⟩ := hB
      exact anyA_seqX hk hw hC post listed s hcl hB (evX_mono (okX_pick hk post) (fun s hs => hF _ s hs) (evX_of (okX_pick hk post) h)), fun n listed s _ _ _ i hi => by cases hi⟩
  | .stop => ⟨fun n listed s _ hB h => by simp [trXB] at hB, fun n listed s _ _ _ i hi => by cases hi⟩
  | .alt a t r => by
    have iht := anyA_trX (post := post) hF t
    have ihr := anyA_trX (post := post) hF r
    have kids : ∀ n listed s, closedA ops listed → trXB ps qs ops post false (.alt a t r) n listed = true → evTr P ops.toList post F (.alt a t r) s → ∀ i ∈ (Tr.alt a t r).heads, ∀ o, ops[i]? = some o → gst P ops.toList o s fun s' => anyA P ops K (n - 1) (listed.setIfInBounds i true) s' := by
      intro n listed s hcl hB h i hi o ho
      simp only [trXB, Bool.not_false, Bool.true_or, Bool.true_and, Bool.and_eq_true, List.contains_iff_mem] at hB
      obtain ⟨h1, h2⟩ := h
      rcases List.mem_cons.1 hi with e | hi
      · subst e
        have g := evX_of (okX_pick hk [i]) h1
        rw [pick_at ho] at g
        exact (cp_gst (ok_of hk ho)).mono (fun s' hs' => iht.1 _ _ s' (closedA_set hcl hB.1.1.2) hB.1.2 hs') g
      · exact ihr.2 n listed s hcl hB.2 h2 i hi o ho
    refine ⟨fun n listed s hcl hB h => ?_, kids⟩
    have hB' : trXB ps qs ops post false (.alt a t r) n listed = true := by
      simp only [trXB, Bool.and_eq_true, Bool.not_false, Bool.true_or, Bool.true_and] at hB ⊢
      exact ⟨⟨⟨⟨hB.1.1.1.1.2, hB.1.1.1.2⟩, hB.1.1.2⟩, hB.1.2⟩, hB.2⟩
    simp only [trXB, Bool.and_eq_true, Bool.not_true, Bool.false_or, decide_eq_true_eq, List.all_eq_true, List.contains_iff_mem, Bool.not_eq_true', List.isEmpty_eq_false_iff] at hB
    obtain ⟨n', rfl⟩ : ∃ n', n = n' + 1 := ⟨n - 1, by have := hB.1.1.1.1.2; omega⟩
    exact ⟨fun e => absurd e hB.1.1.1.1.1.2, fun i hi o ho => kids _ _ s hcl hB' h i (hB.1.1.1.1.1.1 i hi) o ho⟩
end
def SameX (ps : List (Tmp × Tmp)) (qs : List Tmp) (s1 : St) (s2 : St) : Prop := Sep s2 ps ∧ Bxs s2 qs ∧ SLe s2 s1
theorem abs_drawXT {c : Ctx} {id : Nat} {l : List Oper} {Q : Exit → St → Prop} {s : St} (ps : List (Tmp × Tmp)) (qs : List Tmp) (pre can : List Nat) (t : Tr) (post : List Nat) (hm : c.P.follows .mixedOrders = true)
    (hB : (decide (pre.length + (can.length + post.length) = l.length) && l.all okX && wrOkX l.toArray && preXB ps qs l.toArray (Array.replicate l.length false) pre &&
      trXB ps qs l.toArray post true t (can.length + post.length) (setAll (Array.replicate l.length false) pre)) = true)
    (h : ∀ K : St → Prop, (∀ s', Q .normal s' ∧ Sep s' ps ∧ Bxs s' qs → K s') → evOps c.P l (pick l pre) s fun s1 => evOps c.P l (pick l (can ++ post)) s1 fun s' => K s' ∧ evTr c.P l post (fun _ => SameX ps qs s') t s1) :
    Abs c (.region id l.toArray true) Q s := by
  intro act w hr
  simp only [Bool.and_eq_true, decide_eq_true_eq] at hB
  obtain ⟨⟨⟨⟨hlen, hk⟩, hw⟩, hp⟩, ht⟩ := hB
  let K : St → Prop := fun s' => (∃ sf, Q .normal sf ∧ SLe s' sf) ∧ Sep s' ps ∧ Bxs s' qs
  have hk' : l.toArray.toList.all okX = true := by simpa using hk
  have k1 := okX_pick hk' pre
  have k2 := okX_pick hk' (can ++ post)
  have h1 := h (fun s' => Q .normal s' ∧ Sep s' ps ∧ Bxs s' qs) (fun _ h => h)
  have hC : ∀ s, K s → (∀ x y, (x, y) ∈ ps → disj (s.sl x) (s.sl y)) ∧ ∀ p ∈ qs, isBx (s.sl p) := fun s hs => ⟨hs.2.1.at, hs.2.2.at⟩
  have hcl0 : closedA l.toArray (Array.replicate l.length false) := fun j oj hj hl => by
    have : j < l.length := by have := (Array.getElem?_eq_some_iff.1 hj).1; simpa using this
    simp [this] at hl
  refine wpIn_region_any hm (anyA_sound (K := K) (fun s' a w hr hq => ?_) _ _ s _ _ (RG.drewTick hr) ?_)
  · obtain ⟨⟨sf, hq, hs⟩, _⟩ := hq
    exact ⟨sf, hr.sle hs, hq⟩
  · have := anyA_preX (P := c.P) (ops := l.toArray) (ps := ps) (K := K) hk' hw hC (can.length + post.length) pre (Array.replicate l.length false) s hcl0 hp (fun hcl => by
      refine evX_mono k1 (fun s1 hs1 => ?_) (evX_of k1 (by simpa using h1))
      obtain ⟨s', ⟨⟨q1, q2⟩, q3⟩, q4⟩ := evX_ex k2 (evX_of k2 (by simpa using hs1))
      exact (anyA_trX (ps := ps) (K := K) (F := fun _ => SameX ps qs s') hk' hw hC (fun sw s'' hs => ⟨⟨s', q1, hs.2.2⟩, hs.1, hs.2.1⟩) t).1 _ _ s1 hcl ht (by simpa using q3))
    rw [hlen] at this
    simpa using this
end
@[go_sem] theorem e_sameX {ps : List (Tmp × Tmp)} {qs : List Tmp} {n n' : Nat} {sl sl' : Nat → D} {bx bx' : List Bx} {rw rw' : List Row} :
    SameX ps qs ⟨n', sl', bx', rw'⟩ ⟨n, sl, bx, rw⟩ = (Sep ⟨n, sl, bx, rw⟩ ps ∧ Bxs ⟨n, sl, bx, rw⟩ qs ∧ SLe ⟨n, sl, bx, rw⟩ ⟨n', sl', bx', rw'⟩) := rfl
/-- Only these slots count from here on. -/
theorem abs_keep {c : Ctx} {code : Code} {Q : Exit → St → Prop} {s : St} {n : Nat} (l : List (Nat × D)) (bx : List Bx) (rw : List Row) (hl : Le s (mkSt n l bx rw))
    (hn : (l.all fun p => namesB bx.length rw.length p.2) = true ∧ namesBx bx.length rw.length bx = true) (h0 : c.β0 = []) (h : Abs c code Q ⟨n, l.foldr (fun p f => Ab.put f p.1 p.2) none', bx, rw⟩) : Abs c code Q s :=
  abs_le (mkSt n l bx rw) hl (named_of hn.1 hn.2) (by rw [h0]; exact Nat.zero_le _) h
@[go_sem] theorem e_tr_leaf {P : Program} {l : List Oper} {post : List Nat} {F : List Nat → St → Prop} {sw : List Nat} {s : St} : evTr P l post F (.leaf sw) s = evOps P l (pick l post) s (F sw) := rfl
@[go_sem] theorem e_tr_alt {P : Program} {l : List Oper} {post : List Nat} {F : List Nat → St → Prop} {a : Nat} {t r : Tr} {s : St} : evTr P l post F (.alt a t r) s = (evOps P l (pick l [a]) s (fun s' => evTr P l post F t s') ∧ evTr P l post F r s) := rfl
@[go_sem] theorem e_tr_stop {P : Program} {l : List Oper} {post : List Nat} {F : List Nat → St → Prop} {s : St} : evTr P l post F .stop s = True := rfl
@[go_sem] theorem e_swAll_nil {s : St} : swAll s [] = s := rfl
@[go_sem] theorem e_swAll {m n : Nat} {sl : Nat → D} {bx : List Bx} {rw : List Row} {ms : List Nat} : swAll ⟨n, sl, bx, rw⟩ (m :: ms) = swAll ⟨n, swS m sl, swp m (bx.map (swB m)), rw⟩ ms := rfl
@[go_sem] theorem e_sameL {m0 : Nat} {ps : List (Tmp × Tmp)} {n n' : Nat} {sl sl' : Nat → D} {bx bx' : List Bx} {rw rw' : List Row} {sw : List Nat} :
    SameL m0 ps ⟨n', sl', bx', rw'⟩ sw ⟨n, sl, bx, rw⟩ = (Sep ⟨n, sl, bx, rw⟩ ps ∧ (sw.all fun m => decide (m0 ≤ m) && decide (m + 1 < bx.length)) = true ∧ SLe (swAll ⟨n, sl, bx, rw⟩ sw) ⟨n', sl', bx', rw'⟩) := rfl
end Go.Ab
