import Derived.Test.YtmnepfejoneghaaGreatDoorK19
import Derived.Test.YtmnepfejoneghaaGreatDoorK11
import Derived.Test.YtmnepfejoneghaaGreatDoorK16
set_option linter.unusedVariables false
set_option linter.unusedSimpArgs false
namespace Go.Proofs.YtmnepfejoneghaaGreatDoor
open Go.Ab
attribute [local irreducible] Abs CallK CallR CallsTo IA
theorem mulB {a b A B : Int} (h0 : 0 ≤ a) (h1 : a ≤ A) (h2 : 0 ≤ b) (h3 : b ≤ B) : 0 ≤ a * b ∧ a * b ≤ A * B :=
  ⟨Int.mul_nonneg h0 h2, Int.le_trans (Int.mul_le_mul_of_nonneg_right h1 h2) (Int.mul_le_mul_of_nonneg_left h3 (by omega))⟩
/-- A byte. -/
def byteAt (s : ByteArray) (k : Nat) : Int := if h : k < s.size then ((s[k]'h).toNat : Int) else 0
theorem byteAt_eq {s : ByteArray} {k : Nat} (h : k < s.size) : byteAt s k = ((s[k]'h).toNat : Int) := by unfold byteAt; rw [dif_pos h]
def Ascii (s : ByteArray) : Prop := ∀ k (h : k < s.size), (s[k]'h).toNat < 128
/-- The sum and the number of the digits so far. -/
def sealS (s : ByteArray) : Nat → Int × Int
  | 0 => (0, 0)
  | k + 1 => if 48 ≤ byteAt s k ∧ byteAt s k ≤ 57 then ((sealS s k).1 + (byteAt s k - 48) * (1 + (sealS s k).2 % 8), (sealS s k).2 + 1) else sealS s k
theorem sealS_bd (s : ByteArray) : ∀ k, (0 ≤ (sealS s k).1 ∧ (sealS s k).1 ≤ 72 * k) ∧ 0 ≤ (sealS s k).2 ∧ (sealS s k).2 ≤ k
  | 0 => by simp [sealS]
  | k + 1 => by
    have := sealS_bd s k
    simp only [sealS]
    split
    · have := mulB (a := byteAt s k - 48) (b := 1 + (sealS s k).2 % 8) (A := 9) (B := 8) (by omega) (by omega) (by omega) (by omega)
      simp only
      omega
    · omega
def endW : ByteArray := ⟨#[101, 110, 100]⟩
def lastB (s : ByteArray) : ByteArray := joinB [endW, itoa ((sealS s s.size).1 % 97 / 10) ++ itoa ((sealS s s.size).1 % 97 % 10)] sp ++ nl
set_option maxRecDepth 100000 in
set_option maxHeartbeats 4000000 in
theorem last_ok (s : ByteArray) (hs : s.size ≤ 100000) (ha : Ascii s) (hlen : (Lib.join ([endW, itoa ((sealS s s.size).1 % 97 / 10) ++ itoa ((sealS s s.size).1 % 97 % 10)].map (·.data.toList)) sp.data.toList).length ≤ 1000000)
    (hlen2 : (itoa ((sealS s s.size).1 % 97 / 10)).size + (itoa ((sealS s s.size).1 % 97 % 10)).size ≤ 1000) : CallsTo Tryz.prog 29 [.str s] (.str (lastB s)) := by
  have hb := sealS_bd s s.size
  refine calls_abs Tryz.func29 Tryz.ntmps29 Tryz.results29 Tryz.call29 rfl (by simp) fun w0 S0 M0 => ?_
  refine abs_seq ?_
  refine abs_region fun K hK => ?_
  (refine sim ?_; try exact trivial)
  refine hK _ ?_; clear hK K; simp only [thenQ]
  refine abs_seq ?_
  refine abs_region fun K hK => ?_
  (refine sim ?_; try exact trivial)
  refine hK _ ?_; clear hK K; simp only [thenQ]
  refine abs_seq ?_
  refine abs_rangeStr (str := s) rfl (by kernel_rfl) ha (by show 7 < 40; decide) (by show 8 < 40; decide) (by show 9 < 40; decide) (by show 10 < 40; decide) (by decide) rfl rfl rfl (fun k => [(3, i64 (sealS s k).1), (4, i64 (sealS s k).2)]) (fun k => rfl) (fun B => le_of rfl (by try (refine sim ?_; try exact trivial); try simp [sealS]) ⟨_, rfl⟩ ⟨_, rfl⟩) (fun B k hk w1 S1 M1 o1 => ?_) (fun B => ?_)
  · have hbk := sealS_bd s k
    have hak := ha k hk
    rw [show (D.int .i32 ((s[k]'hk).toNat : Int)) = .int .i32 (byteAt s k) by rw [byteAt_eq hk]]
    have hby : 0 ≤ byteAt s k ∧ byteAt s k < 128 := by rw [byteAt_eq hk]; omega
    have e1 : Int.tmod (sealS s k).2 8 = (sealS s k).2 % 8 := Int.tmod_eq_emod_of_nonneg (by omega)
    by_cases hd : 48 ≤ byteAt s k ∧ byteAt s k ≤ 57
    · have hm := mulB (a := byteAt s k - 48) (b := 1 + (sealS s k).2 % 8) (A := 9) (B := 8) (by omega) (by omega) (by omega) (by omega)
      have e5 : sealS s (k + 1) = ((sealS s k).1 + (byteAt s k - 48) * (1 + (sealS s k).2 % 8), (sealS s k).2 + 1) := by simp only [sealS]; rw [if_pos hd]
      show Abs ⟨Tryz.prog, w1, S1, M1, none, o1, []⟩ _ _ _
      (refine withX (@e1) fun hX => ?_; refine simh ?_; clear hX; try exact trivial)
      repeat' (first | refine st1 ?_ | ((first | refine abs_region fun K hK => ?_ | refine abs_draw Tryz.ty.mixed (by kernel_rfl) fun K hK => ?_ | refine abs_if ?_ | show retQ _ _ _ _ _); (refine withX (@e1) fun hX => ?_; refine simh ?_; clear hX; try exact trivial)) | ((first | (refine hK _ ?_; clear hK K) | show thenQ _ _ _ _ | show blockQ _ _ _ _ | show noGoQ _ _ _); refine qst ?_) | (intro hg; try exact fin2) | apply And.intro | exact fin | fail)
      all_goals first | trivial | exact le_of rfl (by try (refine withX (@e1) fun hX => ?_; refine simh ?_; clear hX; try exact trivial); try simp [e5]) ⟨_, rfl⟩ ⟨_, rfl⟩
    · have e5 : sealS s (k + 1) = sealS s k := by simp only [sealS]; rw [if_neg hd]
      show Abs ⟨Tryz.prog, w1, S1, M1, none, o1, []⟩ _ _ _
      (refine withX (@e1) fun hX => ?_; refine simh ?_; clear hX; try exact trivial)
      repeat' (first | refine st1 ?_ | ((first | refine abs_region fun K hK => ?_ | refine abs_draw Tryz.ty.mixed (by kernel_rfl) fun K hK => ?_ | refine abs_if ?_ | show retQ _ _ _ _ _); (refine withX (@e1) fun hX => ?_; refine simh ?_; clear hX; try exact trivial)) | ((first | (refine hK _ ?_; clear hK K) | show thenQ _ _ _ _ | show blockQ _ _ _ _ | show noGoQ _ _ _); refine qst ?_) | (intro hg; try exact fin2) | apply And.intro | exact fin | fail)
      all_goals first | trivial | exact le_of rfl (by try (refine withX (@e1) fun hX => ?_; refine simh ?_; clear hX; try exact trivial); try simp [e5]) ⟨_, rfl⟩ ⟨_, rfl⟩
  · simp only [thenQ]
    have e2 : Int.tmod (sealS s s.size).1 97 = (sealS s s.size).1 % 97 := Int.tmod_eq_emod_of_nonneg (by omega)
    have e3 : Int.tmod ((sealS s s.size).1 % 97) 10 = (sealS s s.size).1 % 97 % 10 := Int.tmod_eq_emod_of_nonneg (by omega)
    have e4 : Int.tdiv ((sealS s s.size).1 % 97) 10 = (sealS s s.size).1 % 97 / 10 := Int.tdiv_eq_ediv_of_nonneg (by omega)
    (refine withX (And.intro @e2 (And.intro @e3 (@e4))) fun hX => ?_; refine simh ?_; clear hX; try exact trivial)
    repeat' (first | refine st1 ?_ | ((first | refine abs_region fun K hK => ?_ | refine abs_draw Tryz.ty.mixed (by kernel_rfl) fun K hK => ?_ | refine abs_if ?_ | show retQ _ _ _ _ _ | refine callK (itoa_ok _ (by omega) (by omega)) ?_ | refine callK (line_ok [endW, itoa ((sealS s s.size).1 % 97 / 10) ++ itoa ((sealS s s.size).1 % 97 % 10)] (by simp) (by simp) hlen) ?_); (refine withX (And.intro @e2 (And.intro @e3 (@e4))) fun hX => ?_; refine simh ?_; clear hX; try exact trivial)) | ((first | (refine hK _ ?_; clear hK K) | show thenQ _ _ _ _ | show blockQ _ _ _ _ | show noGoQ _ _ _); refine qst ?_) | (intro hg; try exact fin2) | apply And.intro | exact fin | fail)
    rfl
end Go.Proofs.YtmnepfejoneghaaGreatDoor
namespace Go.Proofs.YtmnepfejoneghaaGreatDoor
open Go.Ab
attribute [local irreducible] Abs CallK CallR CallsTo IA
set_option maxRecDepth 100000 in
set_option maxHeartbeats 4000000 in
theorem formed_ok (l : List Rdg) (hl : l.length ≤ 20) (hr : ∀ i, i < l.length → RdOk (nth l i)) : CallsTo Tryz.prog 27 [.list (l.map rdD)] (i64 0) := by
  refine calls_abs Tryz.func27 Tryz.ntmps27 Tryz.results27 Tryz.call27 rfl (by simp) fun w0 S0 M0 => ?_
  repeat' (first | refine st1 ?_ | ((first | refine abs_region fun K hK => ?_ | refine abs_draw Tryz.ty.mixed (by kernel_rfl) fun K hK => ?_ | refine abs_if ?_ | show retQ _ _ _ _ _); (refine sim ?_; try exact trivial)) | ((first | (refine hK _ ?_; clear hK K) | show thenQ _ _ _ _ | show blockQ _ _ _ _ | show noGoQ _ _ _); refine qst ?_) | (intro hg; try exact fin2) | apply And.intro | exact fin | fail)
  refine abs_loopN (ι := Nat) (fun j => [(8, .list (l.map rdD)), (9, i64 l.length), (10, i64 j)]) (fun _ => []) (fun _ => [])
    (fun j => j ≤ l.length) (fun j => l.length - j) (fun _ _ => ⟨rfl, rfl⟩) 0 (Nat.zero_le _) (le_of rfl (by try (refine sim ?_; try exact trivial); try simp) ⟨_, rfl⟩ ⟨_, rfl⟩) (fun j hj => ?_)
  by_cases hlt : j < l.length
  · have hv : CallsTo Tryz.prog 44 [rdD (nth l j)] (.bool true) := decide_eq_true (hr j hlt) ▸ greading_ok (nth l j)
    (refine sim ?_; try exact trivial)
    repeat' (first | refine st1 ?_ | ((first | refine abs_region fun K hK => ?_ | refine abs_draw Tryz.ty.mixed (by kernel_rfl) fun K hK => ?_ | refine abs_if ?_ | show retQ _ _ _ _ _ | refine callK (hv) ?_); (refine sim ?_; try exact trivial)) | ((first | (refine hK _ ?_; clear hK K) | show thenQ _ _ _ _ | show blockQ _ _ _ _ | show noGoQ _ _ _); refine qst ?_) | (intro hg; try exact fin2) | apply And.intro | exact fin | fail)
    exact ⟨j + 1, by omega, by omega, le_of rfl (by try (refine sim ?_; try exact trivial); try simp) ⟨_, rfl⟩ ⟨_, rfl⟩⟩
  · (refine sim ?_; try exact trivial)
    repeat' (first | refine st1 ?_ | ((first | refine abs_region fun K hK => ?_ | refine abs_draw Tryz.ty.mixed (by kernel_rfl) fun K hK => ?_ | refine abs_if ?_ | show retQ _ _ _ _ _); (refine sim ?_; try exact trivial)) | ((first | (refine hK _ ?_; clear hK K) | show thenQ _ _ _ _ | show blockQ _ _ _ _ | show noGoQ _ _ _); refine qst ?_) | (intro hg; try exact fin2) | apply And.intro | exact fin | fail)
def lineB (r : Rdg) : ByteArray := joinB (wordsK r 7) sp ++ nl
def outB (l : List Rdg) : Nat → ByteArray
  | 0 => ⟨#[]⟩
  | j + 1 => outB l j ++ lineB (nth l j)
set_option maxRecDepth 100000 in
set_option maxHeartbeats 4000000 in
theorem print_ok (l : List Rdg) (hl : l.length ≤ 20) (hr : ∀ i, i < l.length → RdOk (nth l i)) (hW : ∀ i, i < l.length → CallsTo Tryz.prog 28 [rdD (nth l i)] (.str (lineB (nth l i)))) (hs : ∀ j, j ≤ l.length → (outB l j).size ≤ 1000000)
    (hs2 : ∀ j, j < l.length → (lineB (nth l j)).size ≤ 1000000) (t0 : ByteArray) (hL : CallsTo Tryz.prog 29 [.str (outB l l.length)] (.str t0)) (ht : t0.size ≤ 1000000) : CallsTo Tryz.prog 7 [.list (l.map rdD)] (.tup [.str (outB l l.length ++ t0), i64 0]) := by
  refine calls_abs Tryz.func7 Tryz.ntmps7 Tryz.results7 Tryz.call7 rfl (by simp) fun w0 S0 M0 => ?_
  repeat' (first | refine st1 ?_ | ((first | refine abs_region fun K hK => ?_ | refine abs_draw Tryz.ty.mixed (by kernel_rfl) fun K hK => ?_ | refine abs_if ?_ | show retQ _ _ _ _ _ | refine callK (formed_ok l hl hr) ?_); (refine sim ?_; try exact trivial)) | ((first | (refine hK _ ?_; clear hK K) | show thenQ _ _ _ _ | show blockQ _ _ _ _ | show noGoQ _ _ _); refine qst ?_) | (intro hg; try exact fin2) | apply And.intro | exact fin | fail)
  refine abs_loopN (ι := Nat) (fun j => [(5, .str (outB l j)), (13, .list (l.map rdD)), (14, i64 l.length), (15, i64 j)]) (fun _ => []) (fun _ => [])
    (fun j => j ≤ l.length) (fun j => l.length - j) (fun _ _ => ⟨rfl, rfl⟩) 0 (Nat.zero_le _) (le_of rfl (by try (refine sim ?_; try exact trivial); try simp [outB]) ⟨_, rfl⟩ ⟨_, rfl⟩) (fun j hj => ?_)
  have hsj := hs j hj
  by_cases hlt : j < l.length
  · have hs2j := hs2 j hlt
    (refine sim ?_; try exact trivial)
    repeat' (first | refine st1 ?_ | ((first | refine abs_region fun K hK => ?_ | refine abs_draw Tryz.ty.mixed (by kernel_rfl) fun K hK => ?_ | refine abs_if ?_ | show retQ _ _ _ _ _ | refine callK (hW j hlt) ?_); (refine sim ?_; try exact trivial)) | ((first | (refine hK _ ?_; clear hK K) | show thenQ _ _ _ _ | show blockQ _ _ _ _ | show noGoQ _ _ _); refine qst ?_) | (intro hg; try exact fin2) | apply And.intro | exact fin | fail)
    exact ⟨j + 1, by omega, by omega, le_of rfl (by try (refine sim ?_; try exact trivial); try simp [outB]) ⟨_, rfl⟩ ⟨_, rfl⟩⟩
  · obtain rfl : j = l.length := by omega
    (refine sim ?_; try exact trivial)
    repeat' (first | refine st1 ?_ | ((first | refine abs_region fun K hK => ?_ | refine abs_draw Tryz.ty.mixed (by kernel_rfl) fun K hK => ?_ | refine abs_if ?_ | show retQ _ _ _ _ _ | refine callK (hL) ?_); (refine sim ?_; try exact trivial)) | ((first | (refine hK _ ?_; clear hK K) | show thenQ _ _ _ _ | show blockQ _ _ _ _ | show noGoQ _ _ _); refine qst ?_) | (intro hg; try exact fin2) | apply And.intro | exact fin | fail)
    all_goals skip
end Go.Proofs.YtmnepfejoneghaaGreatDoor
namespace Go.Proofs.YtmnepfejoneghaaGreatDoor
open Go.Ab
attribute [local irreducible] Abs CallK CallR CallsTo IA
/-- The station and the readings of the document's examples. -/
def st0 : Stn := ⟨100, 110, -100, 100, 1, 5, 30, 2, [⟨10, 20, 30⟩, ⟨30, 25, 50⟩]⟩
def r0 : Rdg := ⟨20, 480, 2, 75050, 200, 210, 150, 152, 120, 121⟩
def q0 : Rdg := ⟨25, 480, 3, 74950, 200, 210, 150, 152, 120, 121⟩
def t0 : Tru := ⟨20, 1, 0, 105, 205, 151, 120⟩
theorem st0_ok : StOk st0 := by decide
theorem r0_ok : RdOk r0 := by decide
theorem st0_no : NoClash st0 := by
  intro a b h1 h2
  have h2 : b < 2 := h2
  obtain rfl : a = 0 := by omega
  obtain rfl : b = 1 := by omega
  decide
theorem e0 (p : Prop) [Decidable p] (h : p) : errN st0 p = 0 := errN_ok ⟨st0_ok, h⟩ st0_no
theorem k2 : CallsTo Tryz.prog 18 [stD st0, i64 0, i64 30] (.tup [i64 33, i64 0]) := by
  have h := gDue_ok st0 (by decide) 0 30
  unfold dueD at h
  rw [e0 _ (by decide), if_pos rfl, show dueI st0 0 30 = 33 by decide +kernel, if_neg (by decide)] at h
  exact h
theorem k4 : CallsTo Tryz.prog 15 [stD st0, rdD r0] (.tup [.agg [i64 74741, i64 74803, i64 75627, i64 75779, i64 67, i64 70], i64 0]) := by
  have h := gKnow_ok st0 (by decide) r0
  rw [e0 _ r0_ok, if_pos rfl] at h
  have e2 : knD st0 r0 = .agg [i64 74741, i64 74803, i64 75627, i64 75779, i64 67, i64 70] := by
    show D.agg [i64 (here r0 (endT st0 r0 0)), i64 (here r0 (endT st0 r0 1)), i64 (seaT r0 (endT st0 r0 2)), i64 (seaT r0 (endT st0 r0 3)), i64 (hum r0 (endT st0 r0 4)), i64 (hum r0 (endT st0 r0 5))] = _
    rw [show here r0 (endT st0 r0 0) = 74741 by decide +kernel, show here r0 (endT st0 r0 1) = 74803 by decide +kernel, show seaT r0 (endT st0 r0 2) = 75627 by decide +kernel, show seaT r0 (endT st0 r0 3) = 75779 by decide +kernel,
      show hum r0 (endT st0 r0 4) = 67 by decide +kernel, show hum r0 (endT st0 r0 5) = 70 by decide +kernel]
  rw [e2] at h
  exact h
def line0 : ByteArray := ⟨#[50, 48, 32, 52, 56, 48, 32, 115, 32, 55, 53, 48, 53, 48, 32, 50, 48, 48, 32, 50, 49, 48, 32, 49, 53, 48, 32, 49, 53, 50, 32, 49, 50, 48, 32, 49, 50, 49, 10]⟩
def last0 : ByteArray := ⟨#[101, 110, 100, 32, 52, 54, 10]⟩
theorem l0 : lineB r0 = line0 := by decide +kernel
theorem l1 : outB [r0] 1 = line0 := by decide +kernel
theorem l2 : lastB line0 = last0 := by decide +kernel
theorem l3 : Ascii line0 := by
  intro k h
  have : ((List.range 39).all fun k => decide ((line0.get! k).toNat < 128)) = true := by decide +kernel
  have h2 := List.all_eq_true.1 this k (List.mem_range.2 h)
  simp only [decide_eq_true_eq] at h2
  have e : line0.get! k = line0[k]'h := by
    show line0.data[k]! = line0.data[k]
    exact getElem!_pos line0.data k h
  rw [e] at h2; exact h2
set_option maxRecDepth 100000 in
set_option maxHeartbeats 4000000 in
theorem sp_ok (a b : Int) : CallsTo Tryz.prog 53 [i64 a, i64 b] (spD a b) := by
  refine calls_abs Tryz.func53 Tryz.ntmps53 Tryz.results53 Tryz.call53 rfl (by simp) fun w0 S0 M0 => ?_
  repeat' (first | refine st1 ?_ | ((first | refine abs_region fun K hK => ?_ | refine abs_draw Tryz.ty.mixed (by kernel_rfl) fun K hK => ?_ | refine abs_if ?_ | show retQ _ _ _ _ _); (refine sim ?_; try exact trivial)) | ((first | (refine hK _ ?_; clear hK K) | show thenQ _ _ _ _ | show blockQ _ _ _ _ | show noGoQ _ _ _); refine qst ?_) | (intro hg; try exact fin2) | apply And.intro | exact fin | fail)
set_option maxRecDepth 100000 in
set_option maxHeartbeats 4000000 in
theorem stat_ok : CallsTo Tryz.prog 16 [] (stD st0) := by
  refine calls_abs Tryz.func16 Tryz.ntmps16 Tryz.results16 Tryz.call16 rfl (by simp) fun w0 S0 M0 => ?_
  repeat' (first | refine st1 ?_ | ((first | refine abs_region fun K hK => ?_ | refine abs_draw Tryz.ty.mixed (by kernel_rfl) fun K hK => ?_ | refine abs_if ?_ | show retQ _ _ _ _ _ | refine callK (sp_ok _ _) ?_); (refine sim ?_; try exact trivial)) | ((first | (refine hK _ ?_; clear hK K) | show thenQ _ _ _ _ | show blockQ _ _ _ _ | show noGoQ _ _ _); refine qst ?_) | (intro hg; try exact fin2) | apply And.intro | exact fin | fail)
  all_goals try rfl
  all_goals skip
set_option maxRecDepth 100000 in
set_option maxHeartbeats 4000000 in
theorem read_ok : CallsTo Tryz.prog 17 [] (rdD r0) := by
  refine calls_abs Tryz.func17 Tryz.ntmps17 Tryz.results17 Tryz.call17 rfl (by simp) fun w0 S0 M0 => ?_
  repeat' (first | refine st1 ?_ | ((first | refine abs_region fun K hK => ?_ | refine abs_draw Tryz.ty.mixed (by kernel_rfl) fun K hK => ?_ | refine abs_if ?_ | show retQ _ _ _ _ _ | refine callK (sp_ok _ _) ?_); (refine sim ?_; try exact trivial)) | ((first | (refine hK _ ?_; clear hK K) | show thenQ _ _ _ _ | show blockQ _ _ _ _ | show noGoQ _ _ _); refine qst ?_) | (intro hg; try exact fin2) | apply And.intro | exact fin | fail)
  all_goals try rfl
end Go.Proofs.YtmnepfejoneghaaGreatDoor
namespace Go.Proofs.YtmnepfejoneghaaGreatDoor
open Go.Ab
attribute [local irreducible] Abs CallK CallR CallsTo IA
end Go.Proofs.YtmnepfejoneghaaGreatDoor
namespace Go.Proofs.YtmnepfejoneghaaGreatDoor
open Go.Ab
/-- A contract of a function that turns nothing and returns a plain value. -/
theorem callsTo_pure {f : FuncId} {ds : List D} {v : Value} {d : D} (hrel : ∀ w g, Rel w g v d) (hc : ∀ (args : Array Value) (w : World), (callFunc f args).run Tryz.prog w = .ok (.enter f args) w)
    (h : ∀ (S : Addr → Prop) (M : MM) (w : World) (args : List Value), args.length = ds.length → (∀ q x, ds[q]? = some x → Rel w ⟨S, [], [], M⟩ (args.getD q Go.undef) x) →
      Calls Tryz.prog f args.toArray w fun e w' => e = .returned v ∧ w' = w) : CallsTo Tryz.prog f ds d := by
  refine ⟨hc, fun S M w args ht hg hM hl hr => (h S M w args hl hr).mono ?_⟩
  rintro e w' ⟨rfl, rfl⟩
  have hb : Go.RowKit.Below w'.heap.size w' w' := ⟨rfl, rfl, rfl, Nat.le_refl _, fun _ _ => rfl⟩
  exact ⟨_, S, M, rfl, ⟨.of hb, fun _ h => h, fun _ h => .inl h, fun _ _ h => h, fun _ _ h => .inl h, hM⟩, hg, hrel _ _⟩
/-- .. of one that returns new strings in a row. -/
theorem callsTo_strs {f : FuncId} {ds : List D} {bs : List ByteArray} {t : TypeId} (hc : ∀ (args : Array Value) (w : World), (callFunc f args).run Tryz.prog w = .ok (.enter f args) w)
    (h : ∀ (S : Addr → Prop) (M : MM) (w : World) (args : List Value), args.length = ds.length → (∀ q x, ds[q]? = some x → Rel w ⟨S, [], [], M⟩ (args.getD q Go.undef) x) →
      Calls Tryz.prog f args.toArray w fun e w' => e = .returned (.slice (some ⟨w.heap.size, 0, none⟩) bs.length bs.length) ∧ w' = w.alloc (.cells (bs.map Value.string).toArray t)) : CallsTo Tryz.prog f ds (.list (bs.map D.str)) := by
  refine ⟨hc, fun S M w args ht hg hM hl hr => (h S M w args hl hr).mono ?_⟩
  rintro e w' ⟨rfl, rfl⟩
  generalize hw : w.alloc (.cells (bs.map Value.string).toArray t) = w'
  have hold : ∀ i, i < w.heap.size → w'.heap[i]? = w.heap[i]? := fun i hi => by
    rw [← hw]; show (w.heap.push _)[i]? = _; rw [Array.getElem?_push, if_neg (Nat.ne_of_lt hi)]
  have hnew : w'.heap[w.heap.size]? = some (.cells (bs.map Value.string).toArray t (0, 0)) := by
    rw [← hw]; show (w.heap.push _)[w.heap.size]? = _; rw [Array.getElem?_push, if_pos rfl]
  have hsz : w'.heap.size = w.heap.size + 1 := by rw [← hw]; show (w.heap.push _).size = _; rw [Array.size_push]
  have hb : Go.RowKit.Below w.heap.size w w' := ⟨by rw [← hw]; rfl, by rw [← hw]; rfl, by rw [← hw]; rfl, by omega, hold⟩
  have hcell : ∀ j, j < bs.length → w'.cell? ⟨w.heap.size, j, none⟩ = some (.string (bs.getD j .empty)) := fun j hj => by
    rw [cell_of_row w' w.heap.size j _ t (0, 0) hnew]; simp [hj]
  refine ⟨_, fun x => S x ∨ ∃ j, j < bs.length ∧ x = ⟨w.heap.size, j, none⟩, M, rfl, ⟨.of hb, fun x h => .inl h, fun x h => ?_, fun _ _ h => h, fun _ _ h => .inl h, fun b f hf => ?_⟩, fun x hx => ?_, ?_⟩
  · rcases h with h | ⟨j, _, rfl⟩
    · exact .inl h
    · exact .inr (Nat.le_refl _)
  · obtain ⟨es, cl, h1, h2⟩ := hM b f hf
    exact ⟨es, cl, (hold b (Array.getElem?_eq_some_iff.1 h1).1).trans h1, h2⟩
  · rcases hx with hx | ⟨j, hj, rfl⟩
    · exact hg.below hb x hx
    · exact ⟨_, hcell j hj⟩
  · have hfl := flat_str bs
    refine .list _ _ _ _ _ 1 (fun q => .string (bs.getD q .empty)) (by simp) (fun x hx => by obtain ⟨y, _, rfl⟩ := List.mem_map.1 hx; rfl) (Nat.le_refl _) (fun q hq => ?_) (fun q d hd => ?_)
    · rw [hfl] at hq
      simp only [List.length_map] at hq
      refine ⟨_, rfl, ?_, .inr ⟨q, hq, ?_⟩, rfl⟩
      · rw [add_block, Nat.zero_add]; exact hcell q hq
      · rw [add_block, Nat.zero_add]
    · rw [hfl, List.getElem?_map, Option.map_eq_some_iff] at hd
      obtain ⟨b, h1, rfl⟩ := hd
      rw [List.getD_eq_getElem?_getD, h1]
      exact .str _ _
theorem trim_ok (s p : ByteArray) : CallsTo Tryz.prog 162 [.str s, .str p] (.str ⟨(Lib.trimPrefix s.data.toList p.data.toList).toArray⟩) := by
  refine callsTo_pure (fun _ _ => .str _ _) Tryz.call162 fun S M w args hl hr => ?_
  match args, hl with
  | [a, b], _ =>
    have h1 := hr 0 _ rfl
    have h2 := hr 1 _ rfl
    simp only [List.getD_cons_zero, List.getD_cons_succ] at h1 h2
    cases h1; cases h2
    exact Tryz.strings_TrimPrefix s p w
theorem contains_ok (s : ByteArray) (c : UInt8) : CallsTo Tryz.prog 120 [.str s, .str ⟨#[c]⟩] (.bool (decide (0 ≤ Lib.indexByte s.data.toList c))) := by
  refine callsTo_pure (fun _ _ => .bool _ _) Tryz.call120 fun S M w args hl hr => ?_
  match args, hl with
  | [a, b], _ =>
    have h1 := hr 0 _ rfl
    have h2 := hr 1 _ rfl
    simp only [List.getD_cons_zero, List.getD_cons_succ] at h1 h2
    cases h1; cases h2
    exact Tryz.strings_Contains_one s c w
theorem index_ok1 (s : ByteArray) (c : UInt8) : CallsTo Tryz.prog 122 [.str s, .str ⟨#[c]⟩] (i64 (Lib.indexByte s.data.toList c)) := by
  refine callsTo_pure (fun _ _ => .int _ _ _) Tryz.call122 fun S M w args hl hr => ?_
  match args, hl with
  | [a, b], _ =>
    have h1 := hr 0 _ rfl
    have h2 := hr 1 _ rfl
    simp only [List.getD_cons_zero, List.getD_cons_succ] at h1 h2
    cases h1; cases h2
    exact Tryz.strings_Index_one s c w
theorem cut_ok (s p : ByteArray) (hs : s.size ≤ 9223372036854775807) : CallsTo Tryz.prog 74 [.str s, .str p] (.tup [.str ⟨(Lib.trimSuffix s.data.toList p.data.toList).toArray⟩, .bool (Lib.hasSuffix s.data.toList p.data.toList)]) := by
  refine callsTo_pure (v := .tuple #[.string ⟨(Lib.trimSuffix s.data.toList p.data.toList).toArray⟩, .bool (Lib.hasSuffix s.data.toList p.data.toList)]) (fun _ _ => .tup _ _ _ rfl fun q d hd => ?_) Tryz.call74 fun S M w args hl hr => ?_
  · match q, hd with
    | 0, hd => cases hd; exact .str _ _
    | 1, hd => cases hd; exact .bool _ _
  · match args, hl with
    | [a, b], _ =>
      have h1 := hr 0 _ rfl
      have h2 := hr 1 _ rfl
      simp only [List.getD_cons_zero, List.getD_cons_succ] at h1 h2
      cases h1; cases h2
      exact Tryz.strings_CutSuffix s p w hs
theorem split_ok (s : ByteArray) (c : UInt8) (hs : s.size < 4294967281) : CallsTo Tryz.prog 76 [.str s, .str ⟨#[c]⟩] (.list ((Go.Sheet.partsB c s).map D.str)) := by
  have hlen : Lib.countB s ⟨#[c]⟩ + 1 = (Go.Sheet.partsB c s).length := by rw [← Go.Sheet.splitB_parts]; exact (Lib.splitB_all ⟨#[c]⟩ (Nat.le_refl _) 0 _ s rfl).symm
  refine callsTo_strs (t := 9) Tryz.call76 fun S M w args hl hr => ?_
  match args, hl with
  | [a, b], _ =>
    have h1 := hr 0 _ rfl
    have h2 := hr 1 _ rfl
    simp only [List.getD_cons_zero, List.getD_cons_succ] at h1 h2
    cases h1; cases h2
    have h := split_any1 Tryz.lays146 (by kernel_rfl) s c w hs
    rw [hlen, Go.Sheet.splitB_parts] at h
    exact h
end Go.Proofs.YtmnepfejoneghaaGreatDoor
namespace Go.Proofs.YtmnepfejoneghaaGreatDoor
open Go.Ab Go.Sheet
attribute [local irreducible] Abs CallK CallR CallsTo IA
theorem mk_list (l : List UInt8) : (ByteArray.mk l.toArray).data.toList = l := by simp
theorem mk_size (l : List UInt8) : (ByteArray.mk l.toArray).size = l.length := by show l.toArray.size = _; simp
theorem mk_toList (l : List UInt8) : (ByteArray.mk l.toArray).toList = l := by rw [Go.Lib.toList_data, mk_list]
theorem nDig_le : ∀ (k u : Nat), u < 10 ^ (k + 1) → Go.Lib.nDigits u ≤ k + 1
  | 0, u, h => by rw [Go.Lib.nDigits_small (by omega)]; exact Nat.le_refl _
  | k + 1, u, h => by
    by_cases hu : u < 10
    · rw [Go.Lib.nDigits_small hu]; omega
    · rw [Go.Lib.nDigits_big hu]
      have := nDig_le k (u / 10) (by rw [Nat.pow_succ] at h; omega)
      omega
theorem dec_len {u : Nat} (h : u ≤ 99999) : (Go.Lib.decDigits u).length ≤ 5 := by rw [Go.Lib.decDigits_length]; exact nDig_le 4 u (by omega)
theorem dec_pos (u : Nat) : 1 ≤ (Go.Lib.decDigits u).length := by rw [Go.Lib.decDigits_length]; exact Go.Lib.nDigits_pos u
/-- The digits of a number, without its sign. -/
def digB (n : Int) : ByteArray := ⟨(Go.Lib.decDigits n.natAbs).toArray⟩
theorem digB_size (n : Int) : (digB n).size = (Go.Lib.decDigits n.natAbs).length := mk_size _
theorem trim_num (n : Int) : CallsTo Tryz.prog 162 [.str (itoa n), .str ⟨#[45]⟩] (.str (digB n)) := by
  have h := trim_ok (itoa n) ⟨#[45]⟩
  have e : Go.Lib.trimPrefix (itoa n).data.toList (ByteArray.mk #[45]).data.toList = Go.Lib.decDigits n.natAbs := by
    show Go.Lib.trimPrefix (ByteArray.mk (Go.Lib.itoa n).toArray).data.toList [45] = _
    rw [mk_list]
    unfold Go.Lib.trimPrefix Go.Lib.hasPrefix
    by_cases hn : n < 0
    · rw [itoa_minus n hn]; simp [List.isPrefixOf]
    · rw [itoa_head n (by omega)]
      have e2 : n.natAbs = n.toNat := by omega
      rw [e2]
      rw [if_neg]
      intro hp
      cases hd : Go.Lib.decDigits n.toNat with
      | nil => exact dec_ne _ hd
      | cons b l =>
        rw [hd] at hp
        simp only [List.isPrefixOf, Bool.and_true, beq_iff_eq] at hp
        exact dec_no45 n.toNat (by rw [hd, ← hp]; exact List.mem_cons_self ..)
  rw [e] at h
  exact h
set_option maxRecDepth 100000 in
set_option maxHeartbeats 4000000 in
theorem sure_ok (b : Bool) (hb : b = true) (w : ByteArray) : CallsTo Tryz.prog 75 [.bool b, .str w] (resD []) := by
  subst hb
  refine calls_abs Tryz.func75 Tryz.ntmps75 Tryz.results75 Tryz.call75 rfl (by simp) fun w0 S0 M0 => ?_
  repeat' (first | refine st1 ?_ | ((first | refine abs_region fun K hK => ?_ | refine abs_draw Tryz.ty.mixed (by kernel_rfl) fun K hK => ?_ | refine abs_if ?_ | show retQ _ _ _ _ _); (refine sim ?_; try exact trivial)) | ((first | (refine hK _ ?_; clear hK K) | show thenQ _ _ _ _ | show blockQ _ _ _ _ | show noGoQ _ _ _); refine qst ?_) | (intro hg; try exact fin2) | apply And.intro | exact fin | fail)
  all_goals rfl
theorem val_take {l : List UInt8} {k : Nat} (h : k < l.length) : val (l.take (k + 1)) = 10 * val (l.take k) + (l[k].toNat - 48) := by
  rw [List.take_succ_eq_append_getElem h, val_snoc]
theorem val_lt' : ∀ (l : List UInt8) (acc : Nat), (∀ b ∈ l, isDig b) → l.foldl (fun n b => 10 * n + (b.toNat - 48)) acc + 1 ≤ (acc + 1) * 10 ^ l.length
  | [], acc, _ => by simp
  | b :: l, acc, h => by
    have h2 := h b (List.mem_cons_self ..)
    unfold isDig at h2
    have ih := val_lt' l (10 * acc + (b.toNat - 48)) (fun x hx => h x (List.mem_cons_of_mem _ hx))
    rw [List.foldl_cons, List.length_cons, Nat.pow_succ]
    refine Nat.le_trans ih ?_
    rw [← Nat.mul_assoc, Nat.mul_right_comm]
    exact Nat.mul_le_mul_right _ (by omega)
theorem val_lt (l : List UInt8) (h : ∀ b ∈ l, isDig b) : val l < 10 ^ l.length := by
  have := val_lt' l 0 h
  unfold val; omega
/-- The number that the first digits say. -/
def numK (n : Int) (k : Nat) : Int := ((val ((Go.Lib.decDigits n.natAbs).take k) : Nat) : Int)
theorem dig_eq (n : Int) {k : Nat} (hk : k < (digB n).size) : (digB n)[k]'hk = (Go.Lib.decDigits n.natAbs)[k]'(by rw [← digB_size]; exact hk) := rfl
theorem dig_get (n : Int) {k : Nat} (hk : k < (digB n).size) : isDig ((digB n)[k]'hk) := by
  rw [dig_eq]; exact dec_dig _ _ (List.getElem_mem _)
theorem numK_succ (n : Int) {k : Nat} (hk : k < (digB n).size) : numK n (k + 1) = 10 * numK n k + (((digB n)[k]'hk).toNat - 48 : Int) := by
  have h2 := dig_get n hk
  unfold isDig at h2
  have hl : k < (Go.Lib.decDigits n.natAbs).length := by rw [← digB_size]; exact hk
  have e : (digB n)[k]'hk = (Go.Lib.decDigits n.natAbs)[k]'hl := dig_eq n hk
  unfold numK
  rw [val_take hl, ← e]; omega
theorem numK_bd (n : Int) (h : n.natAbs ≤ 99999) (k : Nat) : 0 ≤ numK n k ∧ numK n k < 100000 := by
  unfold numK
  have h1 := val_lt ((Go.Lib.decDigits n.natAbs).take k) (fun b hb => dec_dig _ b (List.mem_of_mem_take hb))
  have h2 : ((Go.Lib.decDigits n.natAbs).take k).length ≤ 5 := by have := dec_len h; rw [List.length_take]; omega
  have h3 : 10 ^ ((Go.Lib.decDigits n.natAbs).take k).length ≤ 10 ^ 5 := Nat.pow_le_pow_right (by decide) h2
  omega
theorem numK_all (n : Int) : numK n (digB n).size = n.natAbs := by
  unfold numK
  rw [digB_size, List.take_length, val_dec]
theorem digB_ascii (n : Int) : Ascii (digB n) := fun k hk => by have := dig_get n hk; unfold isDig at this; omega
theorem itoa_dig (n : Int) : itoa (n.natAbs : Int) = digB n := by
  unfold itoa digB
  rw [itoa_head _ (by omega)]; simp
set_option maxRecDepth 100000 in
set_option maxHeartbeats 4000000 in
theorem number_ok (n : Int) (h : n.natAbs ≤ 99999) : CallsTo Tryz.prog 121 [.str (itoa n)] (i64 n) := by
  have hd5 : (digB n).size ≤ 5 := by rw [digB_size]; exact dec_len h
  have hd1 : 1 ≤ (digB n).size := by rw [digB_size]; exact dec_pos _
  refine calls_abs Tryz.func121 Tryz.ntmps121 Tryz.results121 Tryz.call121 rfl (by simp) fun w0 S0 M0 => ?_
  refine abs_seq ?_
  refine abs_region fun K hK => ?_
  (refine sim ?_; try exact trivial)
  refine hK _ ?_; clear hK K; simp only [thenQ]
  refine abs_seq ?_
  refine abs_region fun K hK => ?_
  (refine sim ?_; try exact trivial)
  refine callK (trim_num n) ?_
  (refine sim ?_; try exact trivial)
  refine hK _ ?_; clear hK K; simp only [thenQ]
  refine abs_seq ?_
  refine abs_rangeStr (str := digB n) rfl (by kernel_rfl) (digB_ascii n) (by show 9 < 58; decide) (by show 10 < 58; decide) (by show 11 < 58; decide) (by show 12 < 58; decide) (by decide) rfl rfl rfl (fun k => [(0, .str (itoa n)), (3, .str (digB n)), (4, i64 (numK n k))]) (fun k => rfl) (fun B => le_of rfl (by try (refine sim ?_; try exact trivial); try simp [numK, val]) ⟨_, rfl⟩ ⟨_, rfl⟩) (fun B k hk w1 S1 M1 o1 => ?_) (fun B => ?_)
  · have hdg := dig_get n hk
    have hsucc := numK_succ n hk
    have hbk := numK_bd n h k
    unfold isDig at hdg
    generalize ((digB n)[k]'hk).toNat = c at *
    show Abs ⟨Tryz.prog, w1, S1, M1, none, o1, []⟩ _ _ _
    (refine sim ?_; try exact trivial)
    repeat' (first | refine st1 ?_ | ((first | refine abs_region fun K hK => ?_ | refine abs_draw Tryz.ty.mixed (by kernel_rfl) fun K hK => ?_ | refine abs_if ?_ | show retQ _ _ _ _ _ | refine callK (sure_ok _ (by simp <;> omega) _) ?_); (refine sim ?_; try exact trivial)) | ((first | (refine hK _ ?_; clear hK K) | show thenQ _ _ _ _ | show blockQ _ _ _ _ | show noGoQ _ _ _); refine qst ?_) | (intro hg; try exact fin2) | apply And.intro | exact fin | fail)
    all_goals first | trivial | exact le_of rfl (by try (refine sim ?_; try exact trivial); try simp [hsucc]) ⟨_, rfl⟩ ⟨_, rfl⟩
  · simp only [thenQ]
    have e0 : ((digB n).toList == (ByteArray.mk #[]).toList) = false := by
      rw [show (ByteArray.mk #[]).toList = [] from mk_toList [], show (digB n).toList = Go.Lib.decDigits n.natAbs from mk_toList _]
      cases hc : Go.Lib.decDigits n.natAbs with
      | nil => exact absurd hc (dec_ne _)
      | cons _ _ => rfl
    have e1 := numK_all n
    have e2 := itoa_dig n
    by_cases hn : n < 0
    · have e3 : ((itoa n).toList == (digB n).toList) = false := by
        rw [show (itoa n).toList = Go.Lib.itoa n from mk_toList _, show (digB n).toList = Go.Lib.decDigits n.natAbs from mk_toList _, itoa_minus n hn, beq_eq_false_iff_ne]
        intro hh
        exact dec_no45 n.natAbs (by rw [← hh]; exact List.mem_cons_self ..)
      simp -implicitDefEqProofs only [go_sem, bas, basL, Nat.reduceAdd, Nat.reduceSub, Nat.reduceMul, Nat.reduceLT, Nat.reduceLeDiff, Nat.reduceEqDiff, Nat.reduceBEq, Int.reduceLT, Int.reduceLE, Int.reduceToNat, Int.reduceAdd, Int.reduceSub, Int.reduceMul, Int.reduceNeg, Int.reduceEq, reduceCtorEq, eq_self, ne_eq, not_false_eq_true, if_true, reduceIte, e0, e1, e2, e3, beq_self_eq_true, Bool.not_false, Bool.not_true]
      repeat' (first | refine st1 ?_ | ((first | refine abs_region fun K hK => ?_ | refine abs_draw Tryz.ty.mixed (by kernel_rfl) fun K hK => ?_ | refine abs_if ?_ | show retQ _ _ _ _ _ | refine callK (itoa_ok _ (by omega) (by omega)) ?_ | refine callK (sure_ok _ (by simp <;> omega) _) ?_); simp -implicitDefEqProofs only [go_sem, bas, basL, Nat.reduceAdd, Nat.reduceSub, Nat.reduceMul, Nat.reduceLT, Nat.reduceLeDiff, Nat.reduceEqDiff, Nat.reduceBEq, Int.reduceLT, Int.reduceLE, Int.reduceToNat, Int.reduceAdd, Int.reduceSub, Int.reduceMul, Int.reduceNeg, Int.reduceEq, reduceCtorEq, eq_self, ne_eq, not_false_eq_true, if_true, reduceIte, e0, e1, e2, e3, beq_self_eq_true, Bool.not_false, Bool.not_true]) | ((first | (refine hK _ ?_; clear hK K) | show thenQ _ _ _ _ | show blockQ _ _ _ _ | show noGoQ _ _ _); refine qst ?_) | (intro hg; try exact fin2) | apply And.intro | exact fin | fail)
      all_goals exact congrArg (D.int .i64) (by omega)
    · have e3 : itoa n = digB n := by rw [← e2]; congr 1; omega
      simp -implicitDefEqProofs only [go_sem, bas, basL, Nat.reduceAdd, Nat.reduceSub, Nat.reduceMul, Nat.reduceLT, Nat.reduceLeDiff, Nat.reduceEqDiff, Nat.reduceBEq, Int.reduceLT, Int.reduceLE, Int.reduceToNat, Int.reduceAdd, Int.reduceSub, Int.reduceMul, Int.reduceNeg, Int.reduceEq, reduceCtorEq, eq_self, ne_eq, not_false_eq_true, if_true, reduceIte, e0, e1, e2, e3, beq_self_eq_true, Bool.not_false, Bool.not_true]
      repeat' (first | refine st1 ?_ | ((first | refine abs_region fun K hK => ?_ | refine abs_draw Tryz.ty.mixed (by kernel_rfl) fun K hK => ?_ | refine abs_if ?_ | show retQ _ _ _ _ _ | refine callK (itoa_ok _ (by omega) (by omega)) ?_ | refine callK (sure_ok _ (by simp <;> omega) _) ?_); simp -implicitDefEqProofs only [go_sem, bas, basL, Nat.reduceAdd, Nat.reduceSub, Nat.reduceMul, Nat.reduceLT, Nat.reduceLeDiff, Nat.reduceEqDiff, Nat.reduceBEq, Int.reduceLT, Int.reduceLE, Int.reduceToNat, Int.reduceAdd, Int.reduceSub, Int.reduceMul, Int.reduceNeg, Int.reduceEq, reduceCtorEq, eq_self, ne_eq, not_false_eq_true, if_true, reduceIte, e0, e1, e2, e3, beq_self_eq_true, Bool.not_false, Bool.not_true]) | ((first | (refine hK _ ?_; clear hK K) | show thenQ _ _ _ _ | show blockQ _ _ _ _ | show noGoQ _ _ _); refine qst ?_) | (intro hg; try exact fin2) | apply And.intro | exact fin | fail)
      all_goals exact congrArg (D.int .i64) (by omega)
end Go.Proofs.YtmnepfejoneghaaGreatDoor
