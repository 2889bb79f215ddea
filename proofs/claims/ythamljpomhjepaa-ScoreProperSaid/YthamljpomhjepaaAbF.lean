import Derived.Test.YthamljpomhjepaaAbE
set_option linter.unusedVariables false
set_option linter.unusedSimpArgs false
namespace Go.Ab
open Go.RowKit

/-- A call, what follows laid by as data: nothing looks into it. -/
def CallR (P : Program) (f : FuncId) (ds : List D) (ops l : List Oper) (s : St) (dst : Option Tmp) (K : St → Prop) : Prop := CallK P f ds fun d => evOps P ops l (s.put dst d) K
section congr
variable {P : Program} {d d' x x' y y' : D} {s s' : St}
@[congr] theorem wBool_cg {k : Bool → Prop} (h : d = d') : wBool d k = wBool d' k := by rw [h]
@[congr] theorem wInt_cg {k : IntKind → Int → Prop} (h : d = d') : wInt d k = wInt d' k := by rw [h]
@[congr] theorem wInt2_cg {k : IntKind → Int → Int → Prop} (h : x = x') (h' : y = y') : wInt2 x y k = wInt2 x' y' k := by rw [h, h']
@[congr] theorem wAgg_cg {k : List D → Prop} (h : d = d') : wAgg d k = wAgg d' k := by rw [h]
@[congr] theorem wTup_cg {k : List D → Prop} (h : d = d') : wTup d k = wTup d' k := by rw [h]
@[congr] theorem wOpt_cg {α : Type} {o o' : Option α} {k : α → Prop} (h : o = o') : wOpt o k = wOpt o' k := by rw [h]
@[congr] theorem wEq_cg {t : TypeId} {k : Bool → Prop} (h : x = x') (h' : y = y') : wEq P t x y k = wEq P t x' y' k := by rw [h, h']
@[congr] theorem wBx_cg {bx bx' : List Bx} {i : Nat} {k : List D → Prop} (h : bx = bx') : wBx bx i k = wBx bx' i k := by rw [h]
@[congr] theorem wSl_cg {rw rw' : List Row} {k : List D → Prop} (h : rw = rw') (h' : d = d') : wSl rw d k = wSl rw' d' k := by rw [h, h']
@[congr] theorem wNth_cg {xs xs' : List D} {n n' : Int} {k : D → Prop} (h : xs = xs') (h' : n = n') : wNth xs n k = wNth xs' n' k := by rw [h, h']
@[congr] theorem wHead_cg {xs xs' : List D} {k : D → Prop} (h : xs = xs') : wHead xs k = wHead xs' k := by rw [h]
@[congr] theorem wTake_cg {t : TypeId} {xs xs' : List D} {k : D → Prop} (h : xs = xs') : wTake P t xs k = wTake P t xs' k := by rw [h]
@[congr] theorem wLoad_cg {bx bx' : List Bx} {t : TypeId} {k : D → Prop} (h : bx = bx') (h' : d = d') : wLoad P bx t d k = wLoad P bx' t d' k := by rw [h, h']
@[congr] theorem wShift_cg {o : Nat} {k : D → Prop} (h : d = d') : wShift d o k = wShift d' o k := by rw [h]
@[congr] theorem wBin_cg {t : TypeId} {op : BinOp} {k : D → Prop} (h : x = x') (h' : y = y') : wBin P t op x y k = wBin P t op x' y' k := by rw [h, h']
@[congr] theorem wUn_cg {op : UnOp} {k : D → Prop} (h : d = d') : wUn op d k = wUn op d' k := by rw [h]
@[congr] theorem wIdxA_cg {rw rw' : List Row} {t : TypeId} {k : D → Prop} (h : rw = rw') (h1 : x = x') (h2 : y = y') : wIdxA P rw t x y k = wIdxA P rw' t x' y' k := by rw [h, h1, h2]
@[congr] theorem wPart_cg {t : TypeId} {xs xs' : List D} {o : Nat} {k : D → Prop} (h : xs = xs') : wPart P t xs o k = wPart P t xs' o k := by rw [h]
@[congr] theorem wIdx_cg {t : TypeId} {k : D → Prop} (h1 : x = x') (h2 : y = y') : wIdx P t x y k = wIdx P t x' y' k := by rw [h1, h2]
@[congr] theorem wIdxAny_cg {t : TypeId} {k : D → Prop} (h1 : x = x') (h2 : y = y') : wIdxAny P t x y k = wIdxAny P t x' y' k := by rw [h1, h2]
@[congr] theorem wField_cg {t : TypeId} {f : Nat} {k : D → Prop} (h : d = d') : wField P t d f k = wField P t d' f k := by rw [h]
@[congr] theorem wLen_cg {t : TypeId} {rw rw' : List Row} {k : D → Prop} (h : rw = rw') (h' : d = d') : wLen P t rw d k = wLen P t rw' d' k := by rw [h, h']
@[congr] theorem wStore_cg {t : TypeId} {K : St → Prop} (h : s = s') (h1 : x = x') (h2 : y = y') : wStore P s t x y K = wStore P s' t x' y' K := by rw [h, h1, h2]
@[congr] theorem wApp_cg {dst : Option Tmp} {t : TypeId} {K : St → Prop} (h : s = s') (h1 : x = x') (h2 : y = y') : wApp P s dst t x y K = wApp P s' dst t x' y' K := by rw [h, h1, h2]
@[congr] theorem wLookup_cg {t : TypeId} {k : D → Prop} (h : x = x') (h' : y = y') : wLookup P t x y k = wLookup P t x' y' k := by rw [h, h']
@[congr] theorem wMapUp_cg {t : TypeId} {z z' : D} {k : Prop} (h : x = x') (h' : y = y') (h2 : z = z') : wMapUp P t x y z k = wMapUp P t x' y' z' k := by rw [h, h', h2]
@[congr] theorem wSlice_cg {t : TypeId} {lo lo' hi hi' : Option D} {k : D → Prop} (h : x = x') (h1 : lo = lo') (h2 : hi = hi') : wSlice P t x lo hi k = wSlice P t x' lo' hi' k := by rw [h, h1, h2]
@[congr] theorem wBnd_cg {e e' : Option D} {n n' m m' : Nat} {k : Nat → Prop} (h : e = e') (h1 : n = n') (h2 : m = m') : wBnd e n m k = wBnd e' n' m' k := by rw [h, h1, h2]
@[congr] theorem wCopy_cg {dst : Option Tmp} {t : TypeId} {K : St → Prop} (h : s = s') (h1 : x = x') (h2 : y = y') : wCopy P s dst t x y K = wCopy P s' dst t x' y' K := by rw [h, h1, h2]
@[congr] theorem wMake_cg {dst : Option Tmp} {t : TypeId} {K : St → Prop} (h : s = s') (h1 : x = x') (h2 : y = y') : wMake P s dst t x y K = wMake P s' dst t x' y' K := by rw [h, h1, h2]
@[congr] theorem wSrc_cg {bx bx' : List Bx} {k : List D → Prop} (h : bx = bx') (h1 : x = x') : wSrc bx x k = wSrc bx' x' k := by rw [h, h1]
@[congr] theorem wFn_cg {k : FuncId → List D → List D → Prop} (h : d = d') : wFn d k = wFn d' k := by rw [h]
@[congr] theorem CallK_cg {f : FuncId} {ds ds' : List D} {k : D → Prop} (h : ds = ds') : CallK P f ds k = CallK P f ds' k := by rw [h]
@[congr] theorem opA_cg {o : Op} {ρ : Operand → D} {rw : List Row} {k : D → Prop} : opA P o ρ rw k = opA P o ρ rw k := rfl
@[congr] theorem opB_cg {o : Op} {ρ : Operand → D} {bx : List Bx} {rw : List Row} {k : D → Prop} : opB P o ρ bx rw k = opB P o ρ bx rw k := rfl
@[congr] theorem stepOp_cg {o : Oper} {K : St → Prop} : stepOp P o s K = stepOp P o s K := rfl
@[congr] theorem evOps_cg {ops l : List Oper} {K : St → Prop} (h : s = s') : evOps P ops l s K = evOps P ops l s' K := by rw [h]
@[congr] theorem resK_cg {r : ResultVar} {k : D → Prop} : resK P s r k = resK P s r k := rfl
@[congr] theorem resL_cg {rs : List ResultVar} {k : List D → Prop} : resL P s rs k = resL P s rs k := rfl
@[congr] theorem Abs_cg {c : Ctx} {code : Code} {Q : Exit → St → Prop} (h : s = s') : Abs c code Q s = Abs c code Q s' := by rw [h]
end congr

section eqs
variable {P : Program} {k : D → Prop} {K : St → Prop} {s : St} {ty : TypeId} {pos : String} {aft : Array Edge} {dst : Option Tmp} {gd : Option (Nat × Bool)} {ops l : List Oper} {rw : List Row} {bx : List Bx} {ρ : Operand → D}

@[go_sem] theorem ev_nil : evOps P ops [] s K = K s := rfl
@[go_sem] theorem ev_plain {op : Op} : evOps P ops (⟨dst, op, ty, pos, aft, none⟩ :: l) s K = stepOp P ⟨dst, op, ty, pos, aft, none⟩ s fun s' => evOps P ops l s' K := rfl
/-- A guarded operation, or none. -/
def wGuard (s : St) (t : Nat) (want : Bool) (A B : St → Prop) : Prop := wG (s.sl t) (B s) fun b => (b = want → A (s.put (some t) (.bool want))) ∧ (b = !want → B (s.put (some t) (.bool (!want))))
@[congr] theorem wG_cg {d d' : D} {no : Prop} {k : Bool → Prop} (h : d = d') : wG d no k = wG d' no k := by rw [h]
theorem e_wG_bool {b : Bool} {no : Prop} {k : Bool → Prop} : wG (.bool b) no k = k b := rfl
theorem e_wG_skp {no : Prop} {k : Bool → Prop} : wG .skp no k = no := rfl
@[congr] theorem wGuard_cg {s s' : St} {t : Nat} {want : Bool} {A B : St → Prop} (h : s = s') : wGuard s t want A B = wGuard s' t want A B := by rw [h]
theorem guard_is {t : Nat} {want : Bool} {A B : St → Prop} {b : Bool} (h : s.sl t = .bool b) : wGuard s t want A B = ((b = want → A (s.put (some t) (.bool want))) ∧ (b = !want → B (s.put (some t) (.bool (!want))))) := by
  unfold wGuard; rw [h]; rfl
/-- What a guard that is not known yet asks. -/
def wG2 (d : D) (s : St) (t : Nat) (want : Bool) (A B : St → Prop) : Prop := wG d (B s) fun b => (b = want → A (s.put (some t) (.bool want))) ∧ (b = !want → B (s.put (some t) (.bool (!want))))
@[congr] theorem wG2_cg {d d' : D} {t : Nat} {want : Bool} {A B : St → Prop} (h : d = d') : wG2 d s t want A B = wG2 d' s t want A B := by rw [h]
@[go_sem] theorem e_wG2_bool {b : Bool} {t : Nat} {want : Bool} {A B : St → Prop} : wG2 (.bool b) s t want A B = ((b = want → A (s.put (some t) (.bool want))) ∧ (b = !want → B (s.put (some t) (.bool (!want))))) := rfl
attribute [go_sem ↓] e_wG2_bool
@[go_sem ↓ low] theorem guard_any {N : Nat} {sl : Nat → D} {t : Nat} {want : Bool} {A B : St → Prop} : wGuard ⟨N, sl, bx, rw⟩ t want A B = wG2 (sl t) ⟨N, sl, bx, rw⟩ t want A B := rfl
@[go_sem ↓ high] theorem guard_sk {N : Nat} {sl : Nat → D} {t : Nat} {want : Bool} {A B : St → Prop} (h : sl t = .skp) : wGuard ⟨N, sl, bx, rw⟩ t want A B = B ⟨N, sl, bx, rw⟩ := by
  unfold wGuard; simp only [h]; rfl
@[go_sem ↓ high] theorem guard_tt {N : Nat} {sl : Nat → D} {t : Nat} {A B : St → Prop} (h : sl t = .bool true) : wGuard ⟨N, sl, bx, rw⟩ t true A B = A ⟨N, sl, bx, rw⟩ := by
  rw [guard_is h]; simp [reput (s := ⟨N, sl, bx, rw⟩) h]
@[go_sem ↓ high] theorem guard_tf {N : Nat} {sl : Nat → D} {t : Nat} {A B : St → Prop} (h : sl t = .bool false) : wGuard ⟨N, sl, bx, rw⟩ t true A B = B ⟨N, sl, bx, rw⟩ := by
  rw [guard_is h]; simp [reput (s := ⟨N, sl, bx, rw⟩) h]
@[go_sem ↓ high] theorem guard_ft {N : Nat} {sl : Nat → D} {t : Nat} {A B : St → Prop} (h : sl t = .bool true) : wGuard ⟨N, sl, bx, rw⟩ t false A B = B ⟨N, sl, bx, rw⟩ := by
  rw [guard_is h]; simp [reput (s := ⟨N, sl, bx, rw⟩) h]
@[go_sem ↓ high] theorem guard_ff {N : Nat} {sl : Nat → D} {t : Nat} {A B : St → Prop} (h : sl t = .bool false) : wGuard ⟨N, sl, bx, rw⟩ t false A B = A ⟨N, sl, bx, rw⟩ := by
  rw [guard_is h]; simp [reput (s := ⟨N, sl, bx, rw⟩) h]
@[go_sem] theorem ev_guard {op : Op} {j : Nat} {want : Bool} : evOps P ops (⟨dst, op, ty, pos, aft, some (j, want)⟩ :: l) s K = wOpt (gslot ops j) fun t => wGuard s t want
    (fun s => evOps P ops (⟨dst, op, ty, pos, aft, none⟩ :: l) s K)
    (fun s => dstOk s dst ∧ evOps P ops l (s.put dst .skp) K) := rfl
@[go_sem] theorem gslot_eq {j : Nat} : gslot l j = (l[j]?).bind (·.dst) := rfl

@[go_sem] theorem st_alloc {t : TypeId} : stepOp P ⟨dst, .alloc t, ty, pos, aft, gd⟩ s K = (dstOk s dst ∧ wOpt (zeroD P t) fun zs => K (St.put { s with bx := s.bx ++ [.mu zs] } dst (.box s.bx.length 0))) := rfl
@[go_sem] theorem st_box {t : TypeId} {x : Operand} : stepOp P ⟨dst, .box t x, ty, pos, aft, gd⟩ s K = (dstOk s dst ∧ (s.ev x).cells.all D.one = true ∧ K (St.put { s with bx := s.bx ++ [.mu (s.ev x).cells] } dst (.box s.bx.length 0))) := rfl
@[go_sem] theorem st_store {t : TypeId} {x y : Operand} : stepOp P ⟨dst, .store t x y, ty, pos, aft, gd⟩ s K = (dst = none ∧ wStore P s t (s.ev x) (s.ev y) K) := rfl
@[go_sem] theorem st_append {t t' : TypeId} {x y : Operand} : stepOp P ⟨dst, .call ⟨.builtin .append, #[x, y], #[t, t']⟩, ty, pos, aft, gd⟩ s K = (dstOk s dst ∧ t' = t ∧ wApp P s dst t (s.ev x) (s.ev y) K) := rfl
@[go_sem] theorem st_move {x : Operand} : stepOp P ⟨dst, .move x, ty, pos, aft, gd⟩ s K = (dstOk s dst ∧ K (s.put dst (s.ev x))) := rfl
@[go_sem] theorem st_assign {x : Operand} : stepOp P ⟨dst, .assign x, ty, pos, aft, gd⟩ s K = (dstOk s dst ∧ K (s.put dst (s.ev x))) := rfl
@[go_sem] theorem st_pick {a b d : Operand} : stepOp P ⟨dst, .pick a b d, ty, pos, aft, gd⟩ s K = (dstOk s dst ∧ wBool (s.ev a) fun t => K (s.put dst (pickD t (s.ev b) (s.ev d)))) := rfl
@[go_sem] theorem st_bin {op : BinOp} {xt yt : TypeId} {x y : Operand} : stepOp P ⟨dst, .binOp op xt x y yt, ty, pos, aft, gd⟩ s K = (dstOk s dst ∧ wBin P xt op (s.ev x) (s.ev y) fun d => K (s.put dst d)) := rfl
@[go_sem] theorem st_un {op : UnOp} {xt : TypeId} {x : Operand} : stepOp P ⟨dst, .unOp op xt x, ty, pos, aft, gd⟩ s K = (dstOk s dst ∧ wUn op (s.ev x) fun d => K (s.put dst d)) := rfl
@[go_sem] theorem st_convert {a b : TypeId} {x : Operand} : stepOp P ⟨dst, .convert a b x, ty, pos, aft, gd⟩ s K = (dstOk s dst ∧ wOpt (intOfTy P a) fun _ => wOpt (intOfTy P b) fun q => wInt (s.ev x) fun _ n => InR q n ∧ K (s.put dst (.int q n))) := rfl
@[go_sem] theorem st_extract {x : Operand} {i : Nat} : stepOp P ⟨dst, .extract x i, ty, pos, aft, gd⟩ s K = (dstOk s dst ∧ wTup (s.ev x) fun ds => wOpt ds[i]? fun d => K (s.put dst d)) := rfl
@[go_sem] theorem st_fieldAddr {t : TypeId} {x : Operand} {f : Nat} : stepOp P ⟨dst, .fieldAddr t x f, ty, pos, aft, gd⟩ s K = (dstOk s dst ∧ wOpt (fieldOff P t f) fun ot => wShift (s.ev x) ot.1 fun d => K (s.put dst d)) := rfl
@[go_sem] theorem st_field {t : TypeId} {x : Operand} {f : Nat} : stepOp P ⟨dst, .field t x f, ty, pos, aft, gd⟩ s K = (dstOk s dst ∧ wField P t (s.ev x) f fun d => K (s.put dst d)) := rfl
@[go_sem] theorem st_indexAddr {t : TypeId} {x y : Operand} : stepOp P ⟨dst, .indexAddr t x y, ty, pos, aft, gd⟩ s K = (dstOk s dst ∧ wIdxA P s.rw t (s.ev x) (s.ev y) fun d => K (s.put dst d)) := rfl
@[go_sem] theorem st_index {t : TypeId} {x y : Operand} : stepOp P ⟨dst, .index t x y, ty, pos, aft, gd⟩ s K = (dstOk s dst ∧ wIdxAny P t (s.ev x) (s.ev y) fun d => K (s.put dst d)) := rfl
@[go_sem] theorem st_makeFunc {f : FuncId} {cap : Array Operand} : stepOp P ⟨dst, .makeFunc (.func f) #[] cap, ty, pos, aft, gd⟩ s K = (dstOk s dst ∧ K (s.put dst (.clo f (cap.toList.map s.ev)))) := rfl
@[go_sem] theorem st_build {t : TypeId} {ps : Array (Nat × Operand)} : stepOp P ⟨dst, .build t ps, ty, pos, aft, gd⟩ s K = (dstOk s dst ∧ wOpt (zeroD P t) fun zs => wOpt (placeD P t) fun place =>
    wOpt (fillD' place zs (ps.toList.map fun p => (p.1, s.ev p.2))) fun cs => K (s.put dst (.agg cs))) := rfl
@[go_sem] theorem st_len {x : Operand} {t : TypeId} : stepOp P ⟨dst, .call ⟨.builtin .len, #[x], #[t]⟩, ty, pos, aft, gd⟩ s K = (dstOk s dst ∧ wLen P t s.rw (s.ev x) fun d => K (s.put dst d)) := rfl
@[go_sem] theorem st_max {x y : Operand} {at_ : Array TypeId} : stepOp P ⟨dst, .call ⟨.builtin .max, #[x, y], at_⟩, ty, pos, aft, gd⟩ s K = (dstOk s dst ∧ wInt2 (s.ev x) (s.ev y) fun q n m => K (s.put dst (.int q (max n m)))) := rfl
@[go_sem] theorem st_min {x y : Operand} {at_ : Array TypeId} : stepOp P ⟨dst, .call ⟨.builtin .min, #[x, y], at_⟩, ty, pos, aft, gd⟩ s K = (dstOk s dst ∧ wInt2 (s.ev x) (s.ev y) fun q n m => K (s.put dst (.int q (min n m)))) := rfl
@[go_sem] theorem st_makeMth {f : FuncId} {x : Operand} {fs : List Operand} : stepOp P ⟨dst, .makeFunc (.func f) ⟨x :: fs⟩ #[], ty, pos, aft, gd⟩ s K = (dstOk s dst ∧ K (s.put dst (.mth f ((x :: fs).map s.ev)))) := rfl
@[go_sem] theorem st_slice {t : TypeId} {x : Operand} {lo hi : Option Operand} : stepOp P ⟨dst, .slice t x lo hi none, ty, pos, aft, gd⟩ s K = (dstOk s dst ∧ wSlice P t (s.ev x) (lo.map s.ev) (hi.map s.ev) fun d => K (s.put dst d)) := rfl
@[go_sem] theorem st_copy {t t' : TypeId} {x y : Operand} : stepOp P ⟨dst, .call ⟨.builtin .copy, #[x, y], #[t, t']⟩, ty, pos, aft, gd⟩ s K = (dstOk s dst ∧ wCopy P s dst t (s.ev x) (s.ev y) K) := rfl
@[go_sem] theorem st_makeSlice {t : TypeId} {x y : Operand} : stepOp P ⟨dst, .makeSlice t x y, ty, pos, aft, gd⟩ s K = (dstOk s dst ∧ wMake P s dst t (s.ev x) (s.ev y) K) := rfl
@[go_sem] theorem st_load {t : TypeId} {x : Operand} : stepOp P ⟨dst, .load t x, ty, pos, aft, gd⟩ s K = (dstOk s dst ∧ wLoad P s.bx t (s.ev x) fun d => K (s.put dst d)) := rfl
@[go_sem] theorem st_buildSlice {t : TypeId} {n : Nat} {ps : Array (Nat × Operand)} : stepOp P ⟨dst, .buildSlice t n ps, ty, pos, aft, gd⟩ s K = (dstOk s dst ∧ wOpt (elemOf P t) fun e => szOf P e ≠ 0 ∧ n * szOf P e ≤ 16777216 ∧ (zeroD P e).isSome = true ∧
    ps.toList.map (·.1) = List.range n ∧ wOpt (pureDs s.bx s.rw (ps.toList.map fun p => s.ev p.2)) fun ds => (∀ d ∈ ds, d.cells.length = szOf P e ∧ d.cells.all D.one = true) ∧ K (s.put dst (.list ds))) := rfl
@[go_sem ↓ high] theorem ev_call {fx : Operand} {xs : Array Operand} {at_ : Array TypeId} : evOps P ops (⟨dst, .call ⟨.value fx, xs, at_⟩, ty, pos, aft, none⟩ :: l) s K = (dstOk s dst ∧ wFn (s.ev fx) fun f fs cs =>
    wOpt (pureDs s.bx s.rw (fs ++ xs.toList.map s.ev ++ cs)) fun ds => CallR P f ds ops l s dst K) := by
  show (dstOk s dst ∧ wFn (s.ev fx) fun f fs cs => wOpt (pureDs s.bx s.rw (fs ++ xs.toList.map s.ev ++ cs)) fun ds => CallK P f ds fun d => evOps P ops l (s.put dst d) K) = _
  rfl

@[go_sem] theorem st_lookup {t : TypeId} {x y : Operand} : stepOp P ⟨dst, .lookup t x y true, ty, pos, aft, gd⟩ s K = (dstOk s dst ∧ wLookup P t (s.ev x) (s.ev y) fun d => K (s.put dst d)) := rfl
@[go_sem] theorem st_mapUpdate {t : TypeId} {x y z : Operand} : stepOp P ⟨dst, .mapUpdate t x y z, ty, pos, aft, gd⟩ s K = (dst = none ∧ wMapUp P t (s.ev x) (s.ev y) (s.ev z) (K s)) := rfl
@[go_sem] theorem st_makeMap {t : TypeId} : stepOp P ⟨dst, .makeMap t none, ty, pos, aft, gd⟩ s K = (dstOk s dst ∧ ∃ m : Memo, K (s.put dst (.memo m))) := rfl
@[go_sem] theorem e_lookup {t : TypeId} {ka va : Bool} {n : Nat} {f : List Int → List Int} {dk : D} : wLookup P t (.memo ⟨ka, va, n, f⟩) dk k = wOpt (mapOf P t) fun ke => wOpt (keyInts ka dk) fun xs => xs.length = n ∧ KeyOk P ke.1 ka n ∧
    wOpt (zeroV P ke.2) fun z => k (.tup [mkD va (f xs), .bool true]) ∧ k (.tup [z, .bool false]) := rfl
@[go_sem] theorem e_mapUp {t : TypeId} {ka va : Bool} {n : Nat} {f : List Int → List Int} {dk dv : D} {K : Prop} : wMapUp P t (.memo ⟨ka, va, n, f⟩) dk dv K = wOpt (mapOf P t) fun ke => wOpt (keyInts ka dk) fun xs => xs.length = n ∧ KeyOk P ke.1 ka n ∧ dv = mkD va (f xs) ∧ K := rfl
attribute [go_sem] mkD keyInts
@[go_sem] theorem dstOk_some {n : Nat} : dstOk s (some n) = (n < s.n) := rfl
@[go_sem] theorem dstOk_none : dstOk s none = True := rfl
@[go_sem] theorem put_some {N n : Nat} {sl : Nat → D} {d : D} : St.put ⟨N, sl, bx, rw⟩ (some n) d = ⟨N, Ab.put sl n d, bx, rw⟩ := rfl
@[go_sem] theorem put_none {d : D} : St.put s none d = s := rfl
@[go_sem] theorem ev_tmp {t : Tmp} : St.ev s (.tmp t) = s.sl t := rfl
@[go_sem] theorem ev_const {v : Value} : St.ev s (.const v) = constD v := rfl
@[go_sem] theorem ev_func {f : FuncId} : St.ev s (.func f) = .clo f [] := rfl
@[go_sem] theorem ev_global {n : Nat} : St.ev s (.global n) = .val (.pointer (some ⟨n, 0, none⟩)) := rfl
attribute [go_sem] constD put_same put_ne none'_at ofL

@[go_sem] theorem e_bool {b : Bool} {k : Bool → Prop} : wBool (.bool b) k = k b := rfl
@[go_sem] theorem e_int {q : IntKind} {n : Int} {k : IntKind → Int → Prop} : wInt (.int q n) k = k q n := rfl
@[go_sem] theorem e_int2 {q q' : IntKind} {n m : Int} {k : IntKind → Int → Int → Prop} : wInt2 (.int q n) (.int q' m) k = (q = q' ∧ k q n m) := rfl
@[go_sem] theorem e_agg {cs : List D} {k : List D → Prop} : wAgg (.agg cs) k = k cs := rfl
@[go_sem] theorem e_tup {cs : List D} {k : List D → Prop} : wTup (.tup cs) k = k cs := rfl
@[go_sem] theorem e_some {α : Type} {x : α} {k : α → Prop} : wOpt (some x) k = k x := rfl
@[go_sem] theorem e_fn {f : FuncId} {cs : List D} {k : FuncId → List D → List D → Prop} : wFn (.clo f cs) k = k f [] cs := rfl
@[go_sem] theorem e_mth {f : FuncId} {cs : List D} {k : FuncId → List D → List D → Prop} : wFn (.mth f cs) k = k f cs [] := rfl
@[go_sem] theorem e_eq_nil {t : TypeId} {xs : List D} {k : Bool → Prop} : wEq P t (.list xs) (.val (.slice none 0 0)) k = (elemOf' P t = true ∧ xs ≠ [] ∧ (∀ x ∈ xs, x.cells ≠ []) ∧ k false) := rfl
@[go_sem] theorem e_eq_nil' {t : TypeId} {k : Bool → Prop} : wEq P t (.val (.slice none 0 0)) (.val (.slice none 0 0)) k = (elemOf' P t = true ∧ k true) := rfl
@[go_sem] theorem e_slice_box {t : TypeId} {i off : Nat} {lo hi : Option D} {k : D → Prop} : wSlice P t (.box i off) lo hi k =
    wOpt (arrOf P t) fun ne => wBnd hi ne.1 ne.1 fun h => wBnd lo 0 h fun l => szOf P ne.2 ≠ 0 ∧ k (.bsl i (if ne.1 = l then off else off + l * szOf P ne.2) (h - l) (ne.1 - l)) := rfl
@[go_sem] theorem e_slice_bsl {t : TypeId} {i off n c : Nat} {lo hi : Option D} {k : D → Prop} : wSlice P t (.bsl i off n c) lo hi k =
    wOpt (elemOf P t) fun e => wBnd hi n c fun h => wBnd lo 0 h fun l => szOf P e ≠ 0 ∧ k (.bsl i (if c = l then off else off + l * szOf P e) (h - l) (c - l)) := rfl
@[go_sem] theorem e_bnd_none {n m : Nat} {k : Nat → Prop} : wBnd none n m k = k n := rfl
@[go_sem] theorem e_bnd_some {d : D} {n m : Nat} {k : Nat → Prop} : wBnd (some d) n m k = wInt d fun _ j => 0 ≤ j ∧ j ≤ m ∧ k j.toNat := rfl
@[go_sem] theorem e_src_bsl {i off n c : Nat} {k : List D → Prop} : wSrc bx (.bsl i off n c) k = wBx bx i fun cs => off + n ≤ cs.length ∧ k ((cs.drop off).take n) := rfl
@[go_sem] theorem e_src_list {xs : List D} {k : List D → Prop} : wSrc bx (.list xs) k = k xs := rfl
@[go_sem] theorem e_copy {dst : Option Tmp} {t : TypeId} {i off n c : Nat} {dy : D} {K : St → Prop} : wCopy P s dst t (.bsl i off n c) dy K = wOpt (elemOf P t) fun e => szOf P e = 1 ∧ wSrc s.bx dy fun ys => ys.all D.one = true ∧ match s.bx[i]? with
      | some (.mu cs) => off + n ≤ cs.length ∧ K (St.put { s with bx := s.bx.set i (.mu (cs.take off ++ ys.take n ++ cs.drop (off + (ys.take n).length))) } dst (.int .i64 (ys.take n).length))
      | _ => False := rfl
@[go_sem] theorem e_make {dst : Option Tmp} {t : TypeId} {dl dc : D} {K : St → Prop} : wMake P s dst t dl dc K = wOpt (elemOf P t) fun e => wInt2 dl dc fun _ n m => n = m ∧ 0 ≤ n ∧ n ≤ 9223372036854775807 ∧ (bytes' P e : Int) * n ≤ 140737488355328 ∧ wOpt (zeroD P e) fun zs => zs ≠ [] ∧
    K (St.put { s with bx := s.bx ++ [.mu (List.replicate n.toNat zs).flatten] } dst (.bsl s.bx.length 0 n.toNat n.toNat)) := rfl
@[go_sem] theorem e_all_map {α : Type} {f : α → D} {l : List α} : (l.map f).all D.one = l.all (fun x => (f x).one) := by rw [List.all_map]; rfl
@[go_sem] theorem e_all_true {α : Type} {l : List α} : (l.all fun _ => true) = true := by simp
@[go_sem] theorem e_bx {i : Nat} {k : List D → Prop} : wBx bx i k = match bx[i]? with | some (.mu cs) => k cs | some (.fz cs) => k cs | _ => False := rfl
@[go_sem] theorem e_eq_int {t : TypeId} {a b : IntKind} {n m : Int} {k : Bool → Prop} : wEq P t (.int a n) (.int b m) k = (a = b ∧ k (decide (n = m))) := rfl
@[go_sem] theorem e_eq_bool {t : TypeId} {a b : Bool} {k : Bool → Prop} : wEq P t (.bool a) (.bool b) k = (P.underlying t = some .bool ∧ k (a == b)) := rfl
@[go_sem] theorem e_eq_str {t : TypeId} {a b : ByteArray} {k : Bool → Prop} : wEq P t (.str a) (.str b) k = k (a.toList == b.toList) := rfl
@[go_sem] theorem e_eq_agg {t : TypeId} {cs ds : List D} {k : Bool → Prop} : wEq P t (.agg cs) (.agg ds) k = wOpt (intsOf cs) fun xs => wOpt (intsOf ds) fun ys => xs.length = ys.length ∧ EqInts P t xs.length ∧ k (decide (xs = ys)) := rfl
attribute [go_sem] intsOf
@[go_sem] theorem e_sl_list {xs : List D} {k : List D → Prop} : wSl rw (.list xs) k = k xs := rfl
@[go_sem] theorem e_sl_own {r : Nat} {k : List D → Prop} : wSl rw (.own r) k = match rw[r]? with | some row => k row.xs | none => False := rfl
@[go_sem] theorem e_head {d : D} {ds : List D} : wHead (d :: ds) k = k d := rfl
@[go_sem] theorem e_take {t : TypeId} {cs : List D} : wTake P t cs k = wOpt (aggO P t) fun b => match b with
  | true => szOf P t ≠ 0 ∧ szOf P t ≤ cs.length ∧ k (.agg (cs.take (szOf P t)))
  | false => wHead cs k := rfl
@[go_sem] theorem e_load_box {t : TypeId} {i off : Nat} : wLoad P bx t (.box i off) k = wBx bx i fun cs => wTake P t (cs.drop off) k := rfl
@[go_sem] theorem e_load_ro {t : TypeId} {cs : List D} : wLoad P bx t (.ro cs) k = wTake P t cs k := rfl
@[go_sem] theorem e_shift_box {i off o : Nat} : wShift (.box i off) o k = k (.box i (off + o)) := rfl
@[go_sem] theorem e_shift_ro {cs : List D} {o : Nat} : wShift (.ro cs) o k = k (.ro (cs.drop o)) := rfl
attribute [go_sem] wBin wUn pickD wIdxA wField wIdx strTy
@[go_sem] theorem e_part {t : TypeId} {cs : List D} {off : Nat} : wPart P t cs off k = wOpt (aggO P t) fun b => match b with
  | true => szOf P t ≠ 0 ∧ off + szOf P t ≤ cs.length ∧ k (.agg ((cs.drop off).take (szOf P t)))
  | false => wOpt cs[off]? k := rfl
@[go_sem] theorem e_idx_agg {t : TypeId} {cs : List D} {ix : D} : wIdxAny P t (.agg cs) ix k = wIdx P t (.agg cs) ix k := rfl
@[go_sem] theorem e_idx_str {t : TypeId} {b : ByteArray} {ix : D} : wIdxAny P t (.str b) ix k = (strTy P t = true ∧ wInt ix fun _ n => 0 ≤ n ∧ ∃ hl : n.toNat < b.size, k (.int .u8 (b[n.toNat]'hl).toNat)) := rfl
@[go_sem] theorem e_len {t : TypeId} {x : D} : wLen P t rw x k = match elemOf P t with
  | some _ => (match x with
    | .list xs => k (.int .i64 xs.length)
    | .own r => wOpt rw[r]? fun row => k (.int .i64 row.xs.length)
    | .val (.slice none 0 0) => k (.int .i64 0)
    | .bsl _ _ n _ => k (.int .i64 n)
    | _ => False)
  | none => strTy P t = true ∧ (match x with
    | .str s => k (.int .i64 s.size)
    | _ => False) := rfl
@[go_sem] theorem e_store {t : TypeId} {i off : Nat} {d : D} : wStore P s t (.box i off) d K = match s.bx[i]? with
    | some (.mu cs) => szOf P t ≠ 0 ∧ d.cells.length = szOf P t ∧ d.cells.all D.one = true ∧ off + d.cells.length ≤ cs.length ∧
        K { s with bx := s.bx.set i (.mu (cs.take off ++ d.cells ++ cs.drop (off + d.cells.length))) }
    | _ => False := rfl
@[go_sem] theorem e_app {t : TypeId} {dx dy : D} : wApp P s dst t dx dy K = wOpt (elemOf P t) fun e => szOf P e ≠ 0 ∧ (zeroD P e).isSome = true ∧ wSl s.rw dy fun ys => (∀ y ∈ ys, y.cells.length = szOf P e) ∧
    match dx with
    | .own r => wOpt s.rw[r]? fun row => row.live = true ∧ row.e = e ∧ row.sz = szOf P e ∧ row.xs.length + ys.length ≤ 9223372036854775807 ∧
        (row.xs.length + ys.length) * bytesOf P e ≤ 140737488355328 ∧ K ((s.appended r ⟨true, e, szOf P e, row.xs ++ ys⟩).put dst (.own r))
    | .val (.slice none 0 0) => ys.length ≤ 9223372036854775807 ∧ ys.length * bytesOf P e ≤ 140737488355328 ∧
        K (St.put { s with rw := s.rw ++ [⟨true, e, szOf P e, ys⟩] } dst (.own s.rw.length))
    | _ => False := rfl
attribute [go_sem] D.cells D.one pureZ pureLZ pureA pureL pureD pureDs fillD' resK resL resD retQ purge purgeB D.men menL thenQ blockQ
def purgeS (r : Nat) (sl : Nat → D) : Nat → D := fun m => purge r (sl m)
@[go_sem] theorem appended_eq {r : Nat} {row : Row} : s.appended r row = ⟨s.n, purgeS r s.sl, s.bx.map (purgeB r), s.rw.set r row⟩ := rfl
@[go_sem] theorem purge_put {sl : Nat → D} {n r : Nat} {v : D} : purgeS r (Ab.put sl n v) = Ab.put (purgeS r sl) n (purge r v) := by
  funext m; simp only [purgeS, Ab.put]; split <;> rfl
@[go_sem] theorem purge_none' {r : Nat} : purgeS r none' = none' := rfl

/-- Small rules, in one. -/
theorem bas : (∀ p : Prop, (True ∧ p) = p) ∧ (∀ p : Prop, (p ∧ True) = p) ∧ (∀ p : Prop, (False → p) = True) ∧ (∀ p : Prop, (True → p) = p) ∧ (∀ p : Prop, (False ∧ p) = False) ∧ (∀ p : Prop, (p ∨ False) = p) ∧ (∀ p : Prop, (False ∨ p) = p) ∧
    (∀ b : Bool, (b && true) = b) ∧ (∀ b : Bool, (true && b) = b) ∧ (∀ b : Bool, (b && false) = false) ∧ (∀ b : Bool, (false && b) = false) ∧
    (∀ b : Bool, (b || true) = true) ∧ (∀ b : Bool, (true || b) = true) ∧ (∀ b : Bool, (b || false) = b) ∧ (∀ b : Bool, (false || b) = b) ∧ ((!true) = false) ∧ ((!false) = true) ∧ (∀ b : Bool, (!!b) = b) ∧
    (∀ (p : Prop) [Decidable p], (decide p = true) = p) ∧ (∀ (p : Prop) [Decidable p], (decide p = false) = ¬ p) ∧ (∀ b : Bool, ((!b) = true) = (b = false)) ∧ (∀ b : Bool, ((!b) = false) = (b = true)) ∧
    (∀ n : Nat, (n : Int).toNat = n) ∧ (∀ n : Nat, (0 ≤ (n : Int)) = True) ∧ (∀ (p q : Bool), ((p && q) = true) = (p = true ∧ q = true)) ∧ (∀ p : Prop, (¬ ¬ p) = p) ∧ ((decide True) = true) ∧ ((decide False) = false) :=
  ⟨fun _ => by simp, fun _ => by simp, fun _ => by simp, fun _ => by simp, fun _ => by simp, fun _ => by simp, fun _ => by simp, by decide, by decide, by decide, by decide, by decide, by decide, by decide, by decide, rfl, rfl, by decide,
   fun _ => by simp, fun _ => by simp, fun _ => by simp, fun _ => by simp, fun _ => by simp, fun _ => by simp, fun _ _ => by simp, fun _ => by simp, rfl, rfl⟩
theorem basL : (∀ {α β : Type} (f : α → β) (l : List α), (l.map f).length = l.length) ∧ (∀ {α : Type} (a : α) (l : List α), (a :: l).length = l.length + 1) ∧ (∀ {α : Type}, ([] : List α).length = 0) ∧
    (∀ {α : Type} (l l' : List α), (l ++ l').length = l.length + l'.length) ∧ (∀ {α : Type} (l : List α), l.drop 0 = l) ∧ (∀ {α : Type} (a : α) (l : List α) (n : Nat), (a :: l).drop (n + 1) = l.drop n) ∧ (∀ {α : Type} (n : Nat), ([] : List α).drop n = []) ∧
    (∀ {α : Type} (l : List α), l.take 0 = []) ∧ (∀ {α : Type} (a : α) (l : List α) (n : Nat), (a :: l).take (n + 1) = a :: l.take n) ∧ (∀ {α : Type} (n : Nat), ([] : List α).take n = []) ∧
    (∀ {α : Type} (l : List α), [] ++ l = l) ∧ (∀ {α : Type} (a : α) (l l' : List α), (a :: l) ++ l' = a :: (l ++ l')) ∧ (∀ {α : Type} (l : List α), l ++ [] = l) ∧
    (∀ {α : Type} (a : α) (l : List α), (a :: l)[0]? = some a) ∧ (∀ {α : Type} (a : α) (l : List α) (n : Nat), (a :: l)[n + 1]? = l[n]?) ∧ (∀ {α : Type} (n : Nat), ([] : List α)[n]? = none) ∧
    (∀ {α : Type} (a b : α) (l : List α), (a :: l).set 0 b = b :: l) ∧ (∀ {α : Type} (a b : α) (l : List α) (n : Nat), (a :: l).set (n + 1) b = a :: l.set n b) ∧
    (∀ {α β : Type} (f : α → β) (a : α) (l : List α), (a :: l).map f = f a :: l.map f) ∧ (∀ {α β : Type} (f : α → β), ([] : List α).map f = []) ∧
    (∀ {α : Type} (p : α → Bool) (a : α) (l : List α), (a :: l).all p = (p a && l.all p)) ∧ (∀ {α : Type} (p : α → Bool), ([] : List α).all p = true) ∧
    (∀ {α β : Type} (f : α → β) (a : α), (some a).map f = some (f a)) ∧ (∀ {α β : Type} (f : α → β), (none : Option α).map f = none) ∧ (∀ {α β : Type} (f : α → Option β) (a : α), (some a).bind f = f a) ∧
    (∀ {α : Type} (a : α), (some a).isSome = true) ∧ (∀ {α β : Type} (f : α → β → β) (b : β) (a : α) (l : List α), (a :: l).foldr f b = f a (l.foldr f b)) ∧ (∀ {α β : Type} (f : α → β → β) (b : β), ([] : List α).foldr f b = b) ∧
    (∀ {α : Type} (p : α → Prop) (a : α) (l : List α), (∀ x ∈ a :: l, p x) = (p a ∧ ∀ x ∈ l, p x)) ∧ (∀ {α : Type} (p : α → Prop), (∀ x ∈ ([] : List α), p x) = True) ∧ (List.range 0 = []) ∧ (List.range 1 = [0]) ∧ (List.range 2 = [0, 1]) ∧ (List.range 3 = [0, 1, 2]) ∧ (List.range 4 = [0, 1, 2, 3]) :=
  ⟨fun _ _ => by simp, fun _ _ => by simp, by simp, fun _ _ => by simp, fun _ => by simp, fun _ _ _ => by simp, fun _ => by simp, fun _ => by simp, fun _ _ _ => by simp, fun _ => by simp, fun _ => by simp, fun _ _ _ => by simp, fun _ => by simp,
   fun _ _ => by simp, fun _ _ _ => by simp, fun _ => by simp, fun _ _ _ => by simp, fun _ _ _ _ => by simp, fun _ _ _ => by simp, fun _ => by simp, fun _ _ _ => by simp, fun _ => by simp, fun _ _ => by simp, fun _ => by simp, fun _ _ => by simp,
   fun _ => by simp, fun _ _ _ _ => by simp, fun _ _ => by simp, fun _ _ _ => by simp, fun _ => by simp, rfl, rfl, rfl, rfl, rfl⟩

/-- The i-th of a list: a name of its own. -/
def nth {α : Type} [Inhabited α] (xs : List α) (i : Nat) : α := xs.getD i default
theorem nth_eq {α : Type} [Inhabited α] (xs : List α) (i : Nat) (h : i < xs.length) : nth xs i = xs[i] := by simp [nth, h]
@[go_sem] theorem e_nth_map {α : Type} [Inhabited α] {f : α → D} {xs : List α} {n : Int} : wNth (xs.map f) n k = ((0 ≤ n ∧ n < xs.length) ∧ k (f (nth xs n.toNat))) := by
  unfold wNth
  refine propext ⟨fun ⟨h0, d, hd, hk⟩ => ?_, fun ⟨⟨h0, h1⟩, hk⟩ => ?_⟩
  · have hl := (List.getElem?_eq_some_iff.1 hd).1
    simp only [List.length_map] at hl
    rw [List.getElem?_map, List.getElem?_eq_getElem hl] at hd
    simp only [Option.map_some, Option.some.injEq] at hd
    refine ⟨⟨h0, by omega⟩, ?_⟩
    rw [nth_eq xs _ hl, hd]; exact hk
  · have hl : n.toNat < xs.length := by omega
    refine ⟨h0, _, by rw [List.getElem?_map, List.getElem?_eq_getElem hl]; rfl, ?_⟩
    rw [nth_eq xs _ hl] at hk; exact hk
end eqs

theorem calls_abs {P : Program} {f : FuncId} {fn : Func} {code : Code} {ds : List D} {d : D} {n : Nat} {rs : Array ResultVar} (hf : P.funcs[f]? = some fn) (hn : fn.ntmps = n) (hr : fn.results = rs)
    (hc : ∀ (args : Array Value) (w : World), (callFunc f args).run P w = .ok (.enter f args) w) (hb : fn.body = some code) (hl : ds.length ≤ n)
    (h : ∀ (w0 : World) (S0 : Addr → Prop) (M0 : MM), Abs ⟨P, w0, S0, M0, none, fun b => w0.heap.size ≤ b, []⟩ code (retQ P rs d) ⟨n, ofL 0 ds, [], []⟩) : CallsTo P f ds d := by
  subst hn; subst hr
  refine callsTo_of_abs hf hb hc hl ?_
  rintro ⟨_, w0, S0, M0, l, own, b0⟩ h1 h2 h3 h4
  simp only at h1 h2 h3 h4
  subst h1; subst h2; subst h3; subst h4
  exact h w0 S0 M0

theorem abs_if {c : Ctx} {x : Operand} {t e : Code} {Q : Exit → St → Prop} {s : St} (h : wBool (s.ev x) fun b => (b = true → Abs c t Q s) ∧ (b = false → Abs c e Q s)) : Abs c (.cond x t e) Q s := by
  cases hs : s.ev x <;> rw [hs] at h <;> simp only [wBool] at h
  exact abs_cond _ hs h.1 h.2

theorem inR64 {n : Int} (h1 : -9223372036854775808 ≤ n) (h2 : n ≤ 9223372036854775807) : InR .i64 n := ⟨h1, h2⟩

mutual
def namesB (nb nr : Nat) : D → Bool
  | .agg cs => namesL nb nr cs
  | .tup cs => namesL nb nr cs
  | .clo _ cs => namesL nb nr cs
  | .mth _ cs => namesL nb nr cs
  | .box i _ => decide (i < nb)
  | .own r => decide (r < nr)
  | .bsl i _ _ _ => decide (i < nb)
  | _ => true
def namesL (nb nr : Nat) : List D → Bool
  | [] => true
  | d :: ds => namesB nb nr d && namesL nb nr ds
end
attribute [go_sem] namesB namesL
mutual
theorem names_of {nb nr : Nat} : ∀ (d : D), namesB nb nr d = true → Names nb nr d
  | .undef, _ => .undef
  | .int _ _, _ => .int _ _
  | .bool _, _ => .bool _
  | .str _, _ => .str _
  | .list _, _ => .list _
  | .agg cs, h => .agg _ (namesL_of cs (by simpa [namesB] using h))
  | .tup cs, h => .tup _ (namesL_of cs (by simpa [namesB] using h))
  | .box _ _, h => .box _ _ (by simpa [namesB] using h)
  | .ro _, _ => .ro _
  | .own _, h => .own _ (by simpa [namesB] using h)
  | .clo _ cs, h => .clo _ _ (namesL_of cs (by simpa [namesB] using h))
  | .val _, _ => .val _
  | .memo _, _ => .memo _
  | .skp, _ => .skp
  | .mth _ cs, h => .mth _ _ (namesL_of cs (by simpa [namesB] using h))
  | .bsl _ _ _ _, h => .bsl _ _ _ _ (by simpa [namesB] using h)
theorem namesL_of {nb nr : Nat} : ∀ (ds : List D), namesL nb nr ds = true → ∀ d ∈ ds, Names nb nr d
  | [], _ => fun d hd => by cases hd
  | x :: ds, h => by
    have h' : namesB nb nr x = true ∧ namesL nb nr ds = true := by simpa [namesL] using h
    exact List.forall_mem_cons.2 ⟨names_of x h'.1, namesL_of ds h'.2⟩
end

def namesBx (nb nr : Nat) : List Bx → Bool
  | [] => true
  | .mu cs :: bs => namesL nb nr cs && namesBx nb nr bs
  | _ :: bs => namesBx nb nr bs
attribute [go_sem] namesBx
theorem namesBx_of {nb nr : Nat} : ∀ (bs : List Bx), namesBx nb nr bs = true → ∀ (i : Nat) (cs : List D), bs[i]? = some (.mu cs) → ∀ d ∈ cs, Names nb nr d
  | [], _, i, cs, hi => by simp at hi
  | .mu cs' :: bs, h, i, cs, hi => by
    simp only [namesBx, Bool.and_eq_true] at h
    cases i with
    | zero => simp at hi; subst hi; exact namesL_of _ h.1
    | succ i => exact namesBx_of bs h.2 i cs (by simpa using hi)
  | .fz _ :: bs, h, i, cs, hi => by
    cases i with
    | zero => simp at hi
    | succ i => exact namesBx_of bs (by simpa [namesBx] using h) i cs (by simpa using hi)
  | .dead :: bs, h, i, cs, hi => by
    cases i with
    | zero => simp at hi
    | succ i => exact namesBx_of bs (by simpa [namesBx] using h) i cs (by simpa using hi)

/-- A state that is written out. -/
def mkSt (n : Nat) (l : List (Nat × D)) (bx : List Bx) (rw : List Row) : St := ⟨n, l.foldr (fun p f => put f p.1 p.2) none', bx, rw⟩
theorem named_of {n : Nat} {l : List (Nat × D)} {bx : List Bx} {rw : List Row} (h : (l.all fun p => namesB bx.length rw.length p.2) = true) (hb : namesBx bx.length rw.length bx = true) : (mkSt n l bx rw).named := by
  refine ⟨fun m => ?_, namesBx_of bx hb⟩
  simp only [mkSt]
  clear hb
  induction l with
  | nil => exact .undef
  | cons p l ih =>
    simp only [List.all_cons, Bool.and_eq_true] at h
    simp only [List.foldr_cons, put]
    split
    · exact names_of _ h.1
    · exact ih h.2
theorem mkSt_eq (n : Nat) (l : List (Nat × D)) (bx : List Bx) (rw : List Row) : mkSt n l bx rw = ⟨n, l.foldr (fun p f => put f p.1 p.2) none', bx, rw⟩ := rfl

/-- Slots that are known: the rest is forgotten. -/
theorem le_of {s : St} {n : Nat} {l : List (Nat × D)} {bx : List Bx} {rw : List Row} (hn : s.n = n) (hl : ∀ p ∈ l, s.sl p.1 = p.2) (hb : ∃ t, s.bx = bx ++ t) (hr : ∃ t, s.rw = rw ++ t) :
    Le s (mkSt n l bx rw) := by
  refine ⟨hn.symm, fun m => ?_, hb, hr⟩
  simp only [mkSt]
  clear hb hr
  induction l with
  | nil => exact .inl rfl
  | cons p l ih =>
    simp only [List.foldr_cons, put]
    by_cases h : m = p.1
    · rw [if_pos h]; subst h; exact .inr (hl p (List.mem_cons_self ..))
    · rw [if_neg h]; exact ih (fun q hq => hl q (List.mem_cons_of_mem _ hq))

/-- A loop; its states by an index. -/
theorem abs_loopN {c : Ctx} {body : Code} {Q : Exit → St → Prop} {s : St} {ι : Type} {n : Nat} (l : ι → List (Nat × D)) (bx : ι → List Bx) (rw : ι → List Row) (p : ι → Prop) (μ : ι → Nat)
    (hn : ∀ i, p i → ((l i).all fun q => namesB (bx i).length (rw i).length q.2) = true ∧ namesBx (bx i).length (rw i).length (bx i) = true)
    (i0 : ι) (h0 : p i0) (hle : Le s (mkSt n (l i0) (bx i0) (rw i0)))
    (round : ∀ i, p i → Abs c body (thenQ (fun s' => ∃ j, p j ∧ μ j < μ i ∧ Le s' (mkSt n (l j) (bx j) (rw j))) Q) ⟨n, (l i).foldr (fun p f => put f p.1 p.2) none', bx i, rw i⟩) (hβ : ∀ i, p i → c.β0.length ≤ (bx i).length := by first | exact fun _ _ => Nat.zero_le _ | (intros; simp; omega)) : Abs c (.loop body) Q s :=
  abs_loop (fun i => mkSt n (l i) (bx i) (rw i)) p μ (fun i hp => named_of (hn i hp).1 (hn i hp).2) hβ i0 h0 hle round

theorem callK {P : Program} {f : FuncId} {ds : List D} {ops l : List Oper} {s : St} {dst : Option Tmp} {K : St → Prop} {d : D} (h : CallsTo P f ds d) (hk : evOps P ops l (s.put dst d) K) : CallR P f ds ops l s dst K := ⟨d, h, hk⟩

end Go.Ab
namespace Go.Ab
@[go_sem] theorem elem_is {P : Program} {t : TypeId} : elemOf' P t = (elemOf P t).isSome := by
  unfold elemOf' elemOf; split <;> simp_all
@[go_sem] theorem bytes_is {P : Program} {t : TypeId} : bytes' P t = bytesOf P t := rfl
end Go.Ab

namespace Go.Ab
attribute [go_sem ↓] ev_nil ev_plain ev_guard gslot_eq st_alloc st_box st_store st_append st_move st_assign st_pick st_bin st_un st_convert st_extract st_fieldAddr st_field st_indexAddr st_index st_makeFunc st_build st_len st_max st_min st_makeMth st_slice st_copy st_makeSlice st_load st_buildSlice st_lookup st_mapUpdate st_makeMap e_lookup e_mapUp dstOk_some dstOk_none put_some put_none ev_tmp ev_const ev_func ev_global e_bool e_int e_int2 e_agg e_tup e_some e_fn e_mth e_eq_nil e_eq_nil e_slice_box e_slice_bsl e_bnd_none e_bnd_some e_src_bsl e_src_list e_copy e_make e_bx e_eq_int e_eq_bool e_eq_str e_eq_agg e_sl_list e_sl_own e_head e_take e_load_box e_load_ro e_shift_box e_shift_ro e_part e_idx_agg e_idx_str e_len e_store e_app appended_eq e_nth_map
end Go.Ab
