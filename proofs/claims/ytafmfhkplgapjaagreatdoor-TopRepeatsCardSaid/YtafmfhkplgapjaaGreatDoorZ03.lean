import Derived.Test.YtafmfhkplgapjaaGreatDoorZ02
set_option linter.unusedVariables false
set_option linter.unusedSimpArgs false
open Array renaming getD_eq_getD_getElem?->lJ,mem_singleton->alW,replicate->gW
open Bool renaming and_eq_true->c_
open Go.Call renaming operands->Cw
open Go renaming undef->bp
open Iff renaming rfl->sB
open List renaming all_eq_true->iD,ext_getElem->OM,foldr_cons->OL,getElem?_append_left->bQ,getElem?_eq_getElem->bS,getElem?_eq_none->pM,getElem?_eq_some_iff->aQ,getElem?_map->cO,length_cons->lV,map_congr_left->oS,mem_append->fA,mem_cons_of_mem->dW,mem_cons_self->dI,nodup_cons->qF,range->ct
open Nat renaming le_refl->aY,lt_or_ge->ft
open Go.Op renaming operands->gq
open Go.Oper renaming wp->fo,wp_mono->Cg
open Option renaming map_eq_some_iff->cv,map_some->eH
open Go.Region renaming binds->gV,lexFrom->Fo,ready->rq,wanted->eh
section
namespace Go.Ab
open Go.RowKit
theorem Sa {w:World}{g:Gh}{v:Value}{d:D}{r:Nat}(h:Rel w g v d):g.ρ.length<=r->d.qQ r=false:=by
 have key:∀(vs:Nat->Value) (cs:List D),(∀(q:Nat) (d:D),cs[q]? =some d->d.qQ r=false)->rO r cs=false:=by
  intro vs cs;induction cs with
  |nil=>intro _;rfl
  |cons d cs ih=>
   intro h;simp only[rO,Bool.or_eq_false_iff];exact⟨h 0 d rfl,ih (λq d hd=>h (q + 1) d (by simpa using hd))⟩
 induction h with
 |own g r' v h=>
  intro hr;have:=(aQ.1 h).1;simp only[D.qQ,beq_eq_false_iff_ne,ne_eq];omega
 |agg g vs cs hl h1 hr ih=>intro h;exact key (λ_=>bp) cs (λq d hd=>ih q d hd h)
 |aF g vs cs hl hr ih=>intro h;exact key (λ_=>bp) cs (λq d hd=>ih q d hd h)
 |ag g f vs cs hl hr ih=>intro h;exact key (λ_=>bp) cs (λq d hd=>ih q d hd h)
 |cL g f vs cs hl hr ih=>intro h;exact key (λ_=>bp) cs (λq d hd=>ih q d hd h)
 |_=>intro _;rfl
def Gb (P:Program)(s:St)(dst:Option Tmp)(t:TypeId)(dx dy:D)(K:St->Prop):Prop:=
 a_ (elemOf P t) λe=>aC P e≠0/\(bL P e).isSome=true/\oY s.rw dy λys=>(∀y∈ys,y.cells.length=aC P e)/\
  match dx with
  | .own r=>a_ s.rw[r]? λrow=>row.live=true/\row.e=e/\row.sz=aC P e/\row.xs.length + ys.length<=9223372036854775807/\
    (row.xs.length + ys.length) * bytesOf P e<=140737488355328/\K ((s.appended r ⟨true,e,aC P e,row.xs++ys⟩).put dst (.own r))
  | .val (.slice none 0 0)=>ys.length<=9223372036854775807/\ys.length * bytesOf P e<=140737488355328/\
    K (St.put {s with rw:=s.rw++[⟨true,e,aC P e,ys⟩]} dst (.own s.rw.length))
  |_=>False
def wv (P:Program)(t:TypeId)(x ix:D)(k:D->Prop):Prop:=match x with
 | .str s=>kN P t=true/\kc ix λ_ n=>0<=n/\∃hl:n.toNat < s.size,k (.int .u8 (s[n.toNat]'hl).toNat)
 |_=>Ai P t x ix k
def yp (d:D)(k:D->Prop):Prop:=match d with| .box i off=>k (.box i off)| .ro cs=>k (.ro cs)|_=>False
def BL (P:Program)(t:TypeId):Bool:=match P.underlying t with|some (.interface _)=>false|some _=>true|none=>false
def nO (P:Program)(o:Op)(ρ:Operand->D)(rw:List Row)(k:D->Prop):Prop:=match o with
 | .move x=>k (ρ x)
 | .assign x=>k (ρ x)
 | .pick c a b=>o0 (ρ c) λt=>k (GX t (ρ a) (ρ b))
 | .binOp op xt x y _=>wy P xt op (ρ x) (ρ y) k
 | .unOp op _ x=>wu op (ρ x) k
 | .nilCheck x=>yp (ρ x) k
 | .makeInterface t _=>BL P t=true/\k .any
 | .convert s t x=>tK P s t (ρ x) k
 | .extract x i=>tI (ρ x) λds=>a_ ds[i]? k
 | .fieldAddr s x f=>a_ (bc P s f) λot=>sG (ρ x) ot.1 k
 | .field s x f=>wx P s (ρ x) f k
 | .indexAddr t x ix=>uU P rw t (ρ x) (ρ ix) k
 | .index t x ix=>wv P t (ρ x) (ρ ix) k
 | .makeFunc (.func f) ⟨[]⟩ cap=>k (.ag f (cap.toList.map ρ))
 | .makeFunc (.func f) ⟨x::fs⟩ ⟨[]⟩=>k (.cL f ((x::fs).map ρ))
 | .slice t x lo hi none=>uR P t (ρ x) (lo.map ρ) (hi.map ρ) k
 | .build t ps=>a_ (bL P t) λzs=>a_ (fi P t) λplace=>a_ (tj place zs (ps.toList.map λp=>(p.1,ρ p.2))) λcs=>k (.agg cs)
 | .call ⟨.builtin .len,⟨[x]⟩,⟨[t]⟩⟩=>uT P t rw (ρ x) k
 | .call ⟨.builtin .max,⟨[x,y]⟩,_⟩=>jh (ρ x) (ρ y) λq n m=>k (.int q (max n m))
 | .call ⟨.builtin .min,⟨[x,y]⟩,_⟩=>jh (ρ x) (ρ y) λq n m=>k (.int q (min n m))
 |_=>False
def eD (P:Program)(o:Op)(ρ:Operand->D)(bx:List Bx)(rw:List Row)(k:D->Prop):Prop:=match o with
 | .load t x=>k9 P bx t (ρ x) k
 | .lookup t x y ok=>uS P bx t (ρ x) (ρ y) ok k
 | .buildSlice t n ps=>a_ (elemOf P t) λe=>aC P e≠0/\n * aC P e<=16777216/\(bL P e).isSome=true/\ps.toList.map (·.1)=ct n/\
   a_ (gm bx rw (ps.toList.map λp=>ρ p.2)) λds=>(∀d∈ds,d.cells.length=aC P e/\d.cells.all D.one=true)/\k (.list ds)
 | .call ⟨.value fx,xs,_⟩=>lW (ρ fx) λf fs cs=>a_ (gm bx rw (fs++xs.toList.map ρ++cs)) λds=>dL P f ds k
 |o=>nO P o ρ rw k
def cZ (P:Program)(o:Oper)(s:St)(K:St->Prop):Prop:=match o.op with
 | .alloc t=>bd s o.dst/\a_ (bL P t) λzs=>K (St.put {s with bx:=s.bx++[.mu zs]} o.dst (.box s.bx.length 0))
 | .box _ x=>bd s o.dst/\(s.ev x).cells.all D.one=true/\K (St.put {s with bx:=s.bx++[.mu (s.ev x).cells]} o.dst (.box s.bx.length 0))
 | .store t x y=>o.dst=none/\uQ P s t (s.ev x) (s.ev y) K
 | .call ⟨.builtin .append,⟨[x,y]⟩,⟨[t,t']⟩⟩=>bd s o.dst/\t'=t/\Gb P s o.dst t (s.ev x) (s.ev y) K
 | .call ⟨.builtin .copy,⟨[x,y]⟩,⟨[t,_]⟩⟩=>bd s o.dst/\Ga P s o.dst t (s.ev x) (s.ev y) K
 | .makeSlice t x y=>bd s o.dst/\F9 P s o.dst t (s.ev x) (s.ev y) K
 | .mapUpdate t x y z=>o.dst=none/\tH P s.bx t (s.ev x) (s.ev y) (s.ev z) λr=>K {s with bx:=r.1}
 | .insert t x y z=>o.dst=none/\tH P s.bx t (s.ev x) (s.ev y) (s.ev z) λr=>K {s with bx:=r.1}
 | .makeMap _ none=>bd s o.dst/\K (St.put {s with bx:=s.bx++[.mp []]} o.dst (.bu s.bx.length))
 |op=>bd s o.dst/\eD P op s.ev s.bx s.rw λd=>K (s.put o.dst d)
section
variable {c:Ctx} {s:St} {a:Act} {w:World} {g:Gh}
theorem KD {r:Nat}{d:D}(h:d.qQ r=false):gY r d=d:=by unfold gY;rw[h]
theorem abG {o:Oper}{x y:Operand}{t:TypeId}{K:St->Prop}{Q:Exit->Act->World->Prop}(h:RG c s a w g)
  (ho:o.op= .call {callee:= .builtin .append,args:=#[x,y],argTypes:=#[t,t]})(hd:bd s o.dst)(hk:Gb c.P s o.dst t (s.ev x) (s.ev y) K):
  o.wp c.P a w (λa' w'=>∃s',R c s' a' w'/\K s') Q:=by
 obtain⟨e,he,hz,mW,hk⟩:=cM hk;have⟨ys,hy,lg,hk⟩:=CB h.mem (h.ev y) hk;split at hk
 ·rename_i r hx;obtain⟨row,gO,hl,r7,aR,jI,hb,hk⟩:=cM hk;subst r7;have ek:=h.ev x;rw[hx]at ek;generalize yU:a.eval x=vx at ek;cases ek with
  |own _ _ _ hv=>
   obtain⟨v',w',g',aV,hr,hρ⟩:=h.append (t:=t) (ty:=o.type) gO hl hv hy he aR.symm hz mW (by rw[aR];exact lg) jI hb;have hex:(execOp a.eval o).run c.P w= .ok (.value v') w':=by
    simp[execOp,ho,resolve,invoke,builtin,yU,aV]
   unfold fo;rw[hex];rw[aR]at hr;exact⟨_,⟨g',hr.put hd (.own _ _ _ hρ)⟩,hk⟩
 ·rename_i hx;obtain⟨jI,hb,hk⟩:=hk;have ek:=h.ev x;rw[hx]at ek;generalize hv:a.eval x=vx at ek;cases ek;have hp:=h.C_ e (aC c.P e);have rR:(s.rw++[⟨true,e,aC c.P e,[]⟩])[s.rw.length]? =some ⟨true,e,aC c.P e,[]⟩:=by simp
  have AU:(g.ρ++[Value.slice none 0 0])[s.rw.length]? =some (.slice none 0 0):=by rw[<-h.lρ];simp
  have ky:fL w g w ⟨g.S,g.β,g.ρ++[.slice none 0 0],g.M⟩:=⟨λ_ _=>rfl,λ_ h=>h,λ_ _ h=>h,λi b hi=>by
   rw[bQ (aQ.1 hi).1];exact hi,λ_ _ h=>h⟩
  obtain⟨v',w',g',aV,hr,hρ⟩:=hp.append (t:=t) (ty:=o.type) rR rfl AU (hy.aZ ky) he rfl hz mW lg (by simpa using jI) (by simpa using hb);have hex:(execOp a.eval o).run c.P w= .ok (.value v') w':=by
   simp[execOp,ho,resolve,invoke,builtin,hv,aV]
  have e1:(λn=>gY s.rw.length (s.sl n))=s.sl:=funext λn=>KD (Sa (h.sl n) (by rw[h.lρ];exact aY _));have e2:s.bx.map (ij s.rw.length)=s.bx:=by
   apply OM
   ·simp
   ·intro i h1 h2;simp only[List.getElem_map];cases fQ:s.bx[i]with
    |mu cs=>
     obtain⟨b,vs,tb,f1,f2,f3,_⟩:=(h.bx i cs (by rw[bS h2,fQ])).ex;have f3:fZ w g vs cs:=f3;simp only[ij]
     congr 1
     apply OM
     ·simp
     ·intro q h1 h2;simp only[List.getElem_map];exact KD (Sa (f3.2 q _ (bS h2)).1 (by rw[h.lρ];exact aY _))
    |fz cs=>rfl
    |mp es=>rfl
    |dead=>rfl
  have e3:St.appended {s with rw:=s.rw++[⟨true,e,aC c.P e,[]⟩]} s.rw.length ⟨true,e,aC c.P e,[]++ys⟩={s with rw:=s.rw++[⟨true,e,aC c.P e,ys⟩]}:=by
   simp only[St.appended,e1,e2,List.nil_append];simp
  rw[e3]at hr;unfold fo;rw[hex];exact⟨_,⟨g',hr.put hd (.own _ _ _ hρ)⟩,hk⟩
 ·exact hk.elim
theorem adJ {o:Oper}{k:D->Prop}(h:RG c s a w g)(hk:nO c.P o.op s.ev s.rw k):Yields c.P o a w g k:=by
 unfold nO at hk;split at hk
 ·exact O9 (.inl ‹_›) (h.ev _) hk
 ·exact O9 (.inr ‹_›) (h.ev _) hk
 ·exact X0 ‹_› (h.ev _) (h.ev _) (h.ev _) hk
 ·exact Ye ‹_› (h.ev _) (h.ev _) hk
 ·exact XY ‹_› (h.ev _) hk
 ·rename_i x ho;have hx:=h.ev x;cases hs:s.ev x<;>rw[hs]at hx hk<;>simp only[yp]at hk
  ·generalize hv:a.eval x=v at hx;cases hx with
   |box _ _ _ b hb=>exact⟨_,_,by simp[execOp,ho,hv], .box _ _ _ b hb,hk⟩
  ·have wY:=hx;obtain⟨ad,u,hv,_⟩:=hx.C6;exact⟨_,_,by simp only[execOp,ho];rw[hv];simp,hv▸wY,hk⟩
 ·rename_i t x ho;obtain⟨hc,hk⟩:=hk;refine⟨.iface t (a.eval x),_, ?_, .any _ _ rfl,hk⟩;unfold BL at hc;split at hc
  ·cases hc
  ·rename_i d hn hd;have n9:∀i,d≠ .interface i:=hn;cases d<;>first|(exact absurd rfl (n9 _))|simp[execOp,ho,Instr.makeInterface,run_underlying hd]
  ·cases hc
 ·exact Yc ‹_› (h.ev _) hk
 ·exact Yb ‹_› (h.ev _) hk
 ·exact X' ‹_› (h.ev _) hk
 ·exact Ya ‹_› (h.ev _) hk
 ·exact X9 ‹_› (h.ev _) (h.ev _) h.mem hk
 ·rename_i t x ix ho;have hx:=h.ev x;unfold wv at hk;split at hk
  ·rename_i sb hs;obtain⟨aM,hk⟩:=hk;obtain⟨q,n,hn,hd,h0,hl,hk⟩:=oZ (h.ev ix) hk;rw[hs]at hx;have hi:=h.ev ix;rw[hd]at hi;exact X8 ho hx hi aM h0 hl hk
  ·exact X_ ho hx (h.ev ix) hk
 ·exact X4 ‹_› h.ev hk
 ·exact X3 ‹_› h.ev hk
 ·exact XZ ‹_› h.ev hk
 ·exact Yd h ‹_› hk
 ·exact X7 ‹_› (h.ev _) h.mem hk
 ·exact X2 ‹_› (h.ev _) (h.ev _) hk
 ·exact X1 ‹_› (h.ev _) (h.ev _) hk
 ·exact hk.elim
theorem adI {o:Oper}{K:St->Prop}{Q:Exit->Act->World->Prop}(h:RG c s a w g)(hd:bd s o.dst)(hk:eD c.P o.op s.ev s.bx s.rw λd=>K (s.put o.dst d)):
  o.wp c.P a w (λa' w'=>∃s',R c s' a' w'/\K s') Q:=by
 unfold eD at hk;split at hk
 ·exact Ku h hd (X6 ‹_› (h.ev _) h.mem hk)
 ·exact Ku h hd (X5 h ‹_› (h.ev _) (h.ev _) hk)
 ·exact abE h ‹_› hd hk
 ·rename_i fx xs at_ ho;refine abD ho h hd ?_;revert hk;unfold lW;split
  ·intro hk;obtain⟨ds,hp,hk⟩:=cM hk;exact⟨ds,hp,hk⟩
  ·intro hk;obtain⟨ds,hp,hk⟩:=cM hk;exact⟨ds,hp,hk⟩
  ·exact λh=>h.elim
 ·exact Ku h hd (adJ h hk)
theorem uY {o:Oper}{K:St->Prop}{Q:Exit->Act->World->Prop}(h:RG c s a w g)(hk:cZ c.P o s K):o.wp c.P a w (λa' w'=>∃s',R c s' a' w'/\K s') Q:=by
 unfold cZ at hk;split at hk
 ·exact abH h ‹_› hk.1 hk.2
 ·exact abF h ‹_› hk.1 hk.2
 ·exact abv h ‹_› hk.1 hk.2
 ·obtain⟨h1,h2,h3⟩:=hk;subst h2;exact abG h ‹_› h1 h3
 ·exact abC h ‹_› hk.1 hk.2
 ·exact abx h ‹_› hk.1 hk.2
 ·exact Qk h (.inl ‹_›) hk.1 hk.2
 ·exact Qk h (.inr ‹_›) hk.1 hk.2
 ·exact aby h ‹_› hk.1 hk.2
 ·exact adI h hk.1 hk.2
def wG (d:D)(no:Prop)(k:Bool->Prop):Prop:=match d with| .bool b=>k b| .skp=>no|_=>False
def iu (ops:List Oper)(j:Nat):Option Tmp:=(ops[j]?).bind (·.dst)
def bZ (P:Program)(ops:List Oper):List Oper->St->(St->Prop)->Prop
 |[],s,K=>K s
 |o::rest,s,K=>match o.guard with
  |none=>cZ P o s λs'=>bZ P ops rest s' K
  |some (j,want)=>a_ (iu ops j) λt=>wG (s.sl t) (bd s o.dst/\bZ P ops rest (s.put o.dst .skp) K) λb=>
    (b=want->cZ P o (s.put (some t) (.bool want)) λs'=>bZ P ops rest s' K)/\
    (b= !want->bd s o.dst/\bZ P ops rest ((s.put (some t) (.bool (!want))).put o.dst .skp) K)
theorem rH {t:Nat}{d:D}(hs:s.sl t=d):s.put (some t) d=s:=by
 have:Ab.put s.sl t d=s.sl:=funext λm=>by
  simp only[Ab.put];split
  ·rename_i hm;rw[hm,hs]
  ·rfl
 simp[St.put,this]
theorem R.yielded {ops:Array Oper}{j t:Nat}{b:Bool}(h:RG c s a w g)(hg:iu ops.toList j=some t)(hb:s.sl t= .bool b):yielded ops a.tmps j=some b:=by
 have gQ:(ops[j]?).bind (·.dst)=some t:=by simpa[iu]using hg
 have hr:=h.sl t;rw[hb]at hr;have hv:=hr.asBool;unfold Go.yielded;rw[gQ];have:a.tmps[t]? =some (.bool b):=by
  rw[lJ]at hv;cases hx:a.tmps[t]? with
  |none=>rw[hx]at hv;simp[bp]at hv
  |some v=>rw[hx]at hv;simp at hv;rw[hv]
 simp[this]
theorem R.AI {ops:Array Oper}{j t:Nat}(h:RG c s a w g)(hg:iu ops.toList j=some t)(hb:s.sl t= .skp):Go.yielded ops a.tmps j=none:=by
 have gQ:(ops[j]?).bind (·.dst)=some t:=by simpa[iu]using hg
 have hr:=h.sl t;rw[hb]at hr;unfold Go.yielded;rw[gQ];generalize hv:a.tmps.getD t bp=v at hr;cases hr;rw[lJ]at hv;cases hx:a.tmps[t]? with
 |none=>simp[hx]
 |some v=>rw[hx]at hv;simp at hv;rw[Option.bind_some,hx,hv];rfl
theorem wE {o:Oper}{K:St->Prop}{P:Program}(h:cZ P o s K):∀cl,o.op≠ .defer cl:=by
 obtain⟨dst,op,ty,pos,aft,gd⟩:=o;rintro cl rfl;exact h.2.elim
theorem gK {o:Oper}{N:Act->World->Prop}{Q:Exit->Act->World->Prop}(hd:∀cl,o.op≠ .defer cl)(h:o.wp c.P a w N Q):o.wpIn c.F 0 c.P a w N Q:=by
 refine⟨λ_ _=>trivial, ?_⟩;rw[Oper.semAt_eq _ _ _ hd];unfold fo at h;generalize(execOp a.eval o).run c.P w=r at h⊢;have hn:c.F.depth.isSome=true->1<=0:=λh=>by cases h
 cases r with
 |ok x w'=>
  cases x with
  |value v=>exact h
  |skip=>exact h
  |defer d=>exact h
  |enter f args=>exact⟨hn,callsIn_wide.2 h⟩
  |row r args=>
   refine⟨hn,λc' cs _=> ?_⟩;obtain⟨v,w2,h1,h2⟩:=h c' cs;exact⟨v,w2,h1,stepsIn_wide.2 h2⟩
  |_=>exact h.elim
 |halt x w'=>cases x<;>first|exact h|exact h.elim
theorem qu {ops:Array Oper}{K:St->Prop}{Q:Exit->Act->World->Prop}(hK:∀s a w,R c s a w->K s->Q .normal a w):∀(l:List Oper) (s:St) (a:Act) (w:World),R c s a w->bZ c.P ops.toList l s K->wpListIn c.F 0 c.P ops Q l a w
 |[],s,a,w,hr,h=>hK s a w hr h
 |o::l,s,a,w,hr,h=>by
  obtain⟨g,hg⟩:=hr;have next:∀{s1:St},cZ c.P o s1 (λs'=>bZ c.P ops.toList l s' K)->s1=s->o.wpIn c.F 0 c.P a w (wpListIn c.F 0 c.P ops Q l) Q:=λaM e=>by
   subst e;refine gK (wE aM) ?_;exact Cg (λa' w' ⟨s',cW,fW⟩=>qu hK l s' a' w' cW fW) (uY hg aM)
  unfold bZ at h;unfold wpListIn;split at h
  ·rename_i cP;rw[if_pos (by simp[eh,cP])];exact next h rfl
  ·rename_i j want cP;obtain⟨t,ht,h⟩:=cM h;cases hb:s.sl t<;>rw[hb]at h<;>simp only[wG]at h
   case skp=>
    have hy:=R.AI hg ht hb;rw[if_neg (by simp[eh,cP,hy])];exact⟨λ_ _=>trivial,qu hK l _ _ _ ⟨g,hg.put h.1 (.skp _)⟩ h.2⟩
   rename_i b;have hy:=R.yielded hg ht hb;by_cases gS:b=want
   ·subst gS;rw[if_pos (by simp[eh,cP,hy])];exact next (h.1 rfl) (rH hb)
   ·have r9:b= !want:=by cases b<;>cases want<;>simp_all
    rw[if_neg (by simp[eh,cP,hy,gS])];obtain⟨hd,h2⟩:=h.2 r9;rw[<-r9,rH hb]at h2;exact⟨λ_ _=>trivial,qu hK l _ _ _ ⟨g,hg.put hd (.skp _)⟩ h2⟩
theorem kI {id:Nat}{l:List Oper}{Q:Exit->St->Prop}(h:∀K:St->Prop,(∀s',Q .normal s'->K s')->bZ c.P l l s K):av c (.region id l.toArray false) Q s:=by
 intro a w hr;refine wpIn_region_lit (qu (K:=Q .normal) (λs a w hr hq=>⟨s,hr,hq⟩) l s a w hr ?_);exact h _ (λ_ h=>h)
def nF (P:Program)(o:Oper)(s:St)(K:St->Prop):Prop:=match o.op with
 | .lookup t x y true=>bd s o.dst/\yr P t (s.ev x) (s.ev y) λd=>K (s.put o.dst d)
 | .lookup t x y false=>bd s o.dst/\JZ P t (s.ev x) (s.ev y) λd=>K (s.put o.dst d)
 | .mapUpdate t x y z=>o.dst=none/\yq P t (s.ev x) (s.ev y) (s.ev z) (K s)
 | .makeMap _ none=>bd s o.dst/\∃m:eP,m.uB=[]/\K (s.put o.dst (.bM m))
 |_=>cZ P o s K
theorem aal {o:Oper}{K:St->Prop}{Q:Exit->Act->World->Prop}(h:RG c s a w g)(hk:nF c.P o s K):o.wp c.P a w (λa' w'=>∃s',R c s' a' w'/\K s') Q:=by
 unfold nF at hk;split at hk
 ·exact abA h ‹_› hk.1 hk.2
 ·exact abz h ‹_› hk.1 hk.2
 ·exact abw h ‹_› hk.1 hk.2
 ·exact Ql h ‹_› hk.1 hk.2
 ·exact uY h hk
theorem aam {o:Oper}{K:St->Prop}{P:Program}(h:nF P o s K):∀cl,o.op≠ .defer cl:=by
 obtain⟨dst,op,ty,pos,aft,gd⟩:=o;rintro cl rfl;exact h.2.elim
def BD (P:Program):List Oper->St->(St->Prop)->Prop
 |[],s,K=>K s
 |o::rest,s,K=>o.guard=none/\nF P o s λs'=>BD P rest s' K
theorem VC {ops:Array Oper}{K:St->Prop}{Q:Exit->Act->World->Prop}(hK:∀s a w,R c s a w->K s->Q .normal a w):∀(l:List Oper) (s:St) (a:Act) (w:World),R c s a w->BD c.P l s K->wpListIn c.F 0 c.P ops Q l a w
 |[],s,a,w,hr,h=>hK s a w hr h
 |o::l,s,a,w,hr,h=>by
  obtain⟨g,hg⟩:=hr;obtain⟨cP,h⟩:=h;unfold wpListIn;rw[if_pos (by simp[eh,cP])];refine gK (aam h) ?_;exact Cg (λa' w' ⟨s',cW,fW⟩=>VC hK l s' a' w' cW fW) (aal hg h)
theorem Oc {id:Nat}{l:List Oper}{Q:Exit->St->Prop}(h:∀K:St->Prop,(∀s',Q .normal s'->K s')->BD c.P l s K):av c (.region id l.toArray false) Q s:=by
 intro a w hr;refine wpIn_region_lit (VC (K:=Q .normal) (λs a w hr hq=>⟨s,hr,hq⟩) l s a w hr ?_);exact h _ (λ_ h=>h)
end
end Go.Ab
end
section
namespace Go.Ab
open Go.RowKit
def kQ:Nat->List D->(Nat->D)
 |_,[]=>dJ
 |k,d::ds=>put (kQ (k + 1) ds) k d
theorem tU:∀(ds:List D) (k m:Nat),kQ k ds m=if m < k then .undef else(ds[m - k]?).getD .undef
 |[],k,m=>by simp[kQ,dJ]
 |d::ds,k,m=>by
  simp only[kQ,put];by_cases h:m=k
  ·subst h;simp
  ·rw[if_neg h,tU ds (k + 1) m];by_cases h2:m < k
   ·rw[if_pos ae,if_pos h2]
   ·rw[if_neg ae,if_neg h2,show m - k=(m - (k + 1)) + 1 by omega];simp
def tP (P:Program)(s:St):ResultVar->(D->Prop)->Prop
 | .tmp t,k=>a_ (pg s.bx s.rw (s.sl t)) k
 | .cell t ty,k=>k9 P s.bx ty (s.sl t) λd=>a_ (pg s.bx s.rw d) k
def mQ (P:Program)(s:St):List ResultVar->(List D->Prop)->Prop
 |[],k=>k []
 |r::rs,k=>tP P s r λd=>mQ P s rs λds=>k (d::ds)
def pd:List D->D
 |[d]=>d
 |ds=> .aF ds
def bb (P:Program)(rs:Array ResultVar)(d:D):Exit->St->Prop
 | .normal,s=>mQ P s rs.toList λds=>pd ds=d
 | .ret,s=>mQ P s rs.toList λds=>pd ds=d
 |_,_=>False
def u5 (tmps:Array Value):ResultVar->Sem Value
 | .tmp t=>pure (tmps.getD t undef)
 | .cell ad t=>do loadVar t (<-asAddr (tmps.getD ad undef))
theorem GL (fn:Func)(tmps:Array Value):results fn tmps=(do
  let vs<-fn.results.mapM (u5 tmps)
  pure (if h:vs.size=1 then vs[0]else .tuple vs)):=rfl
section
variable {c:Ctx} {s:St} {a:Act} {w:World} {g:Gh}
theorem aca (h:RG c s a w g){r:ResultVar}{k:D->Prop}(hk:tP c.P s r k):
  ∃v d,(u5 a.tmps r).run c.P w= .ok v w/\Rel w g.er v d/\k d:=by
 cases r with
 |tmp t=>
  obtain⟨d,hd,hk⟩:=cM hk;exact⟨_,d,rfl,rI h (h.sl t) hd,hk⟩
 |cell t ty=>
  simp only[tP]at hk;have hx:=h.sl t;cases ed:s.sl t<;>rw[ed]at hk hx<;>simp only[k9]at hk
  ·rename_i i off;obtain⟨cs,aw,hk⟩:=CD hk;obtain⟨b,vs,tb,e1,e2,e3⟩:=h.mem.bx i cs aw;generalize hv:a.tmps.getD t undef=v at hx;cases hx with
   |box _ _ _ b' cr=>
    obtain rfl:b'=b:=by rw[e1]at cr;exact(Option.some.inj cr).symm
    obtain⟨h1,h2⟩:=vP e2 e3 off;obtain⟨v,d,aV,hr,hk⟩:=Ax (P:=c.P) (t:=ty) (ad:=⟨b',off,none⟩) h1 h2 hk;obtain⟨d',dN,hk⟩:=cM hk;exact⟨v,d',by simp only[u5,hv];simp[asAddr,aV],rI h hr dN,hk⟩
  ·rename_i cs;obtain⟨ad,u,hv,hm,hr⟩:=hx.C6;obtain⟨v,d,aV,hr,hk⟩:=Ax (P:=c.P) (w:=w) (g:=g) (t:=ty) (ad:=ad) (cs:=cs) (u:=u) (λq hq=>⟨(hm q hq).1,(hm q hq).2.2⟩) (λq d hd=>(hr q d hd).aZ (ud _ _)) hk;obtain⟨d',dN,hk⟩:=cM hk;exact⟨v,d',by simp only[u5,hv];simp[asAddr,aV],rI h hr dN,hk⟩
theorem QG (h:RG c s a w g):∀{rs:List ResultVar} {k:List D->Prop},mQ c.P s rs k->
  ∃vs ds,(rs.mapM (u5 a.tmps)).run c.P w= .ok vs w/\
   vs.length=ds.length/\(∀q d,ds[q]? =some d->Rel w g.er (vs.getD q undef) d)/\k ds
 |[],k,hk=>⟨[],[],by simp,rfl,by simp,hk⟩
 |r::rs,k,hk=>by
  obtain⟨v,d,h1,h2,hk⟩:=aca h hk;obtain⟨vs,ds,h3,h4,h5,hk⟩:=QG h hk;refine⟨v::vs,d::ds, ?_,by simp[h4],λq x hx=> ?_,hk⟩
  ·rw[List.mapM_cons];simp only[Sem.run_bind,h1,Result.andThen_ok,h3,Sem.run_pure]
  ·cases q with
   |zero=>simp at hx;subst hx;exact h2
   |succ q=>exact h5 q x (by simpa using hx)
theorem AL {fn:Func}{ds:List D}{R:Ending->World->Prop}:∀(l:List Deferred) (a:Act) (w:World),RG c s a w g->a.defers=l->(mQ c.P s fn.results.toList λbR=>bR=ds)->
  (∀v w',RG c s {a with defers:=[]} w' g->Rel w' g.er v (pd ds)->R (.returned v) w')->LeavesInM Fence.wide 0 c.P fn a.tmps R l .returning w
 |[],a,w,h,hl,hq,hR=>by
  obtain⟨vs,bR,h1,h2,h3,rfl⟩:=QG h hq;refine⟨(if h:vs.length=1 then vs[0]else .tuple vs.toArray), ?_,hR _ _ (by rw[show({a with defers:=[]}:Act)=a by rw[<-hl]];exact h) ?_⟩
  ·rw[GL,Array.mapM_eq_mapM_toList];simp only[Sem.run_bind,Sem.run_map,h1];simp
  ·match vs,bR,h2 with
   |[v],[d],_=>simpa[pd]using h3 0 d rfl
   |[],[],_=>exact .aF _ _ _ rfl aO
   |v1::v2::vs,d1::d2::ds,h2=>
    simp only[lV,pd];rw[dif_neg ae];exact .aF _ _ _ (by simpa using h2) (λq d hd=>by simpa using h3 q d hd)
 |d::l,a,w,h,hl,hq,hR=>by
  obtain⟨iR,dw⟩:=h.df.cN;rw[hl]at iR dw;obtain⟨D,hB,rfl,hD⟩:=dw d (dI ..);refine⟨by simp, .inl ⟨D,_,rfl,run_takeDeferred hD, ?_⟩⟩;have hg:RG c s {a with defers:=l} (w.putObj D (.deferred none)) g:=h.rD hD rfl aO hB rfl ⟨(qF.1 iR).2,λd' dN=>by
   obtain⟨D',rb,rfl,kX⟩:=dw d' (dW _ dN);refine⟨D',rb,rfl, ?_⟩;rw[World.putObj_heap_other (λe=>by subst e;exact(qF.1 iR).1 dN)];exact kX⟩
  exact AL l {a with defers:=l} _ hg rfl hq hR
theorem ab':∀{rs:List ResultVar} {k:List D->Prop},mQ c.P s rs k->∃ds,(mQ c.P s rs λbR=>bR=ds)/\k ds:=by
 have hk:∀{r:ResultVar} {k:D->Prop},tP c.P s r k->∃d,(∀k':D->Prop,k' d->tP c.P s r k')/\k d:=by
  intro r k h;cases r with
  |tmp t=>
   obtain⟨d,hd,h⟩:=cM h;exact⟨d,λk' fW=>by simp only[tP,hd];exact fW,h⟩
  |cell t ty=>
   have hw:∀{cs:List D} {k:D->Prop},sF c.P ty cs k->∃d,(∀k':D->Prop,k' d->sF c.P ty cs k')/\k d:=by
    intro cs k h;unfold sF at h⊢;obtain⟨b,hb,h⟩:=cM h;rw[hb];cases b with
    |true=>exact⟨_,λk' fW=>⟨h.1,h.2.1,fW⟩,h.2.2⟩
    |false=>
     cases cs with
     |nil=>exact h.elim
     |cons d cs=>exact⟨d,λk' fW=>fW,h⟩
   have:∃d,(∀k':D->Prop,k' d->k9 c.P s.bx ty (s.sl t) k')/\a_ (pg s.bx s.rw d) k:=by
    simp only[tP]at h;cases ed:s.sl t<;>rw[ed]at h<;>simp only[k9]at h
    ·obtain⟨cs,aw,h⟩:=CD h;obtain⟨d,h1,h2⟩:=hw h;refine⟨d,λk' fW=> ?_,h2⟩;simp only[k9,nE];rcases aw with e|e<;>rw[e]<;>exact h1 k' fW
    ·obtain⟨d,h1,h2⟩:=hw h;exact⟨d,λk' fW=>h1 k' fW,h2⟩
   obtain⟨d,h1,h2⟩:=this;obtain⟨d',dN,h2⟩:=cM h2;refine⟨d',λk' fW=> ?_,h2⟩;simp only[tP];exact h1 _ (by rw[dN];exact fW)
 intro rs;induction rs with
 |nil=>intro k h;exact⟨[],rfl,h⟩
 |cons r rs ih=>
  intro k h;obtain⟨d,h1,h⟩:=hk (r:=r) h;obtain⟨ds,h2,h⟩:=ih h;refine⟨d::ds,h1 _ ?_,h⟩;have mono:∀{rs:List ResultVar} {k k':List D->Prop},(∀ds,k ds->k' ds)->mQ c.P s rs k->mQ c.P s rs k':=by
   intro rs;induction rs with
   |nil=>intro k k' hh h;exact hh _ h
   |cons r rs ih2=>
    intro k k' hh h;obtain⟨d,h1,h⟩:=hk (r:=r) h;exact h1 _ (ih2 (λds h=>hh _ h) h)
  exact mono (λbR e=>by rw[e]) h2
theorem QD {fn:Func}{d:D}{e:Exit}(h:RG c s a w g)(hq:bb c.P fn.results d e s){Rr:Ending->World->Prop}(hR:∀v w',RG c s {a with defers:=[]} w' g->Rel w' g.er v d->Rr (.returned v) w'):
  bodyPostM Fence.wide 0 c.P fn Rr e a w:=by
 have key:(mQ c.P s fn.results.toList λds=>pd ds=d)->LeavesInM Fence.wide 0 c.P fn a.tmps Rr a.defers .returning w:=λhq=>by
  obtain⟨ds,h1,rfl⟩:=ab' hq;exact AL a.defers a w h rfl h1 hR
 cases e<;>first|exact key hq|exact hq.elim
end
theorem akz {P:Program}{f:FuncId}{fn:Func}{code:Code}{ds:List D}{d:D}(hf:P.funcs[f]? =some fn)(hb:fn.body=some code)
  (hc:∀(args:Array Value) (w:World),(callFunc f args).run P w= .ok (.enter f args) w)(hn:ds.length<=fn.ntmps)
  (h:∀c:Ctx,c.P=P->c.l=none->(c.own=λb=>c.w0.heap.size<=b)->c.β0=[]->av c code (bb P fn.results d) ⟨fn.ntmps,kQ 0 ds,[],[]⟩):ak P f ds d:=by
 refine⟨hc,λS M w args hT hS hM hl bw=> ?_⟩;refine(callsIn_wide (n:=0)).1 (callsIn_of_wp_marks hf hb trivial ?_);have hw:=h ⟨P,w,S,M,none,λb=>w.heap.size<=b,[]⟩ rfl rfl rfl rfl {tmps:=args.toArray++gW (fn.ntmps - args.toArray.size) undef,defers:=[]} w
  ⟨⟨S,[],[],M⟩,⟨⟨List.nodup_nil,λd hd=>by cases hd⟩,hM,λ_ _ h=>h,λ_ _ h=> .inl h,λi b h=>by simp at h,λ_ _=>rfl,hT.fresh hM⟩,by simp;omega, .of (Below.refl _ _),λ_ h=>h,hS,λ_ h=> .inl h,λ_ h=>h,hS,rfl,rfl, ?_, ?_, ?_, ?_, ?_,λi es hi=>by simp at hi⟩
 ·refine wpIn_mono (F:=Fence.wide) hw ?_;rintro e a' w' ⟨s',⟨g,hg⟩,hq⟩;exact QD (c:=⟨P,w,S,M,none,λb=>w.heap.size<=b,[]⟩) hg hq (λv w' hg hv=>⟨v,g.S,g.M,rfl,⟨⟨hg.below.os,hg.below.tape,hg.below.output,hg.below.size,λk hk hn=>hg.below.block k hk (λh=>h.elim (λh=>absurd (show w.heap.size<=k from h) (Nat.not_le_of_lt hk)) hn)⟩,hg.S0,hg.en,hg.df.m0,hg.df.gw,hg.df.bO⟩,hg.ba,hv⟩)
 ·intro m;simp only;rw[tU];simp only[Nat.not_lt_zero,if_false,Nat.sub_zero];cases hd:ds[m]? with
  |none=>exact .undef _ _
  |some x=>
   have hm:=(aQ.1 hd).1;have:=bw m x hd;have e:(args.toArray++gW (fn.ntmps - args.toArray.size) undef).getD m undef=args.getD m undef:=by
    have:m < args.length:=ae;simp[Array.getElem?_append,this]
   rw[e];exact this
 ·intro i cs hi;simp at hi
 ·intro i cs hi;simp at hi
 ·intro i cs hi;simp at hi
 ·exact⟨λ_=> .inl 0,λi x b hi=>by simp at hi,λr row v gb hr=>by simp at hr⟩
section
variable {c:Ctx} {s:St} {Q:Exit->St->Prop} {code:Code}
theorem j6 (i:Nat)(cs cm:List D)(hi:s.bx[i]? =some (.mu cs))(hp:jy s.bx s.rw cs=some cm)
  (h:av c code Q {s with bx:=s.bx.set i (.fz cm)}):av c code Q s:=by
 rintro a w ⟨g,hg⟩;refine h a w ?_;obtain⟨b,vs,t,e1,e2,e3,e4,e5,_⟩:=(hg.bx i cs hi).ex;have e3:fZ w g vs cs:=e3;obtain⟨p1,p2⟩:=Db hp
 let S':Addr->Prop:=λx=>g.S x\/∃q,q < cs.length/\x=⟨b,q,none⟩
 have eg:i < s.bx.length:=(aQ.1 hi).1;have k:fL w g w ⟨S',g.β,g.ρ,g.M⟩:=⟨λ_ _=>rfl,λ_ h=> .inl h,λ_ _ h=>h,λ_ _ h=>h,λ_ _ h=>h⟩;obtain⟨κ,k1,k2⟩:=hg.ap;have hold:∀(j:Nat) (x:Bx),(s.bx.set i (.fz cm))[j]? =some x->(j=i/\x= .fz cm)\/(j≠i/\s.bx[j]? =some x):=λj x hj=>by
  by_cases bF:j=i
  ·subst bF;rw[List.getElem?_set_self eg]at hj;exact .inl ⟨rfl,(Option.some.inj hj).symm⟩
  ·rw[List.getElem?_set_ne (Ne.symm bF)]at hj;exact .inr ⟨bF,hj⟩
 have agR:b < w.heap.size:=(Array.getElem?_eq_some_iff.1 e2).1;refine⟨⟨S',g.β,g.ρ,g.M⟩,hg.df.gh rfl,hg.sz,hg.below,hg.cu,λx hx=> ?_,λx hx=> ?_,λx hx=> .inl (hg.S0 x hx),hg.fJ,by simp[hg.lβ],hg.lρ,λn=>(hg.sl n).aZ k, ?_, ?_, ?_, ?_,λj es hj=>by
  rcases hold j _ hj with⟨_,e⟩|⟨bF,hj⟩
  ·cases e
  ·exact(hg.mp j es hj).imp λb2 hm=>hm.aZ k rfl hm.nm⟩
 ·rcases hx with hx|⟨q,hq,rfl⟩
  ·exact hg.ba x hx
  ·rw[cell_of_row w b q vs t.1 _ e2];have:q < vs.size:=by rw[e3.1];exact hq
   exact⟨vs[q],by simp[this]⟩
 ·rcases hx with hx|⟨q,_,rfl⟩
  ·exact hg.en x hx
  ·exact .inr e4
 ·intro j ds hj;rcases hold j _ hj with⟨_,e⟩|⟨bF,hj⟩
  ·cases e
  ·obtain⟨b',ie,t',f1,f2,f3,f4,f5,f6⟩:=(hg.bx j ds hj).ex;refine⟨b',ie,t',f1,f2,f3.aZ k,f4,λ_ x hx=> ?_,λh=>by cases h⟩;rcases hx with hx|⟨q,_,rfl⟩
   ·exact f5 rfl x hx
   ·intro e;simp at e;subst e
    have q1:=k1 i _ b hi rfl e1;have q2:=k1 j _ b hj rfl f1;rw[q1]at q2;injection q2 with q2;exact bF q2.symm
 ·intro j ds hj;rcases hold j _ hj with⟨rfl,e⟩|⟨bF,hj⟩
  ·cases e;refine⟨b,vs,t,e1,e2,⟨by rw[e3.1,p1],λq d hd=> ?_⟩,e4,(λh=>by cases h),λ_ q hq=> .inr ⟨q,by rw[<-p1];exact hq,rfl⟩⟩;obtain⟨d0,i_,DY⟩:=p2 q d hd;exact⟨(Dc hg (e3.2 q d0 i_).1 DY).aZ k.er,(e3.2 q d0 i_).2⟩
  ·obtain⟨b',ie,t',f1,f2,f3,f4,f5,f6⟩:=(hg.fz j ds hj).ex;exact⟨b',ie,t',f1,f2,f3.aZ k.er,f4,(λh=>by cases h),λ_ q hq=> .inl (f6 rfl q hq)⟩
 ·intro r row hr;obtain⟨v,f1,f2,f3⟩:=(hg.rw r row hr).ex;refine⟨v,f1,f2.aZ k,λhl=> ?_⟩;obtain⟨ho,bf,hS⟩:=f3 hl;refine⟨ho,bf,λgb aI=>⟨(hS gb aI).1,λx hx iQ=> ?_⟩⟩;rcases hx with hx|⟨q,_,rfl⟩
  ·exact(hS gb aI).2 x hx iQ
  ·simp at iQ;subst iQ
   have q1:=k1 i _ b hi rfl e1;have q2:=k2 r row v b hr hl f1 aI;rw[q1]at q2;cases q2
 ·refine⟨κ,λj x b' hj hx cr=> ?_,k2⟩;rcases hold j _ hj with⟨rfl,e⟩|⟨bF,hj⟩
  ·exact k1 j _ b' hi rfl cr
  ·exact k1 j x b' hj hx cr
theorem I3 (n:Nat)(e:TypeId)(sz:Nat)(hn:s.sl n= .val (.slice none 0 0))
  (h:av c code Q {s with sl:=put s.sl n (.own s.rw.length),rw:=s.rw++[⟨true,e,sz,[]⟩]}):av c code Q s:=by
 rintro a w ⟨g,hg⟩;refine h a w ⟨⟨g.S,g.β,g.ρ++[.slice none 0 0],g.M⟩, ?_⟩;have hp:=hg.C_ e sz;refine⟨hp.df,hp.sz,hp.below,hp.cu,hp.ba,hp.en,hp.S0,hp.fJ,hp.lβ,hp.lρ,λm=> ?_,hp.bx,hp.fz,hp.rw, ?_,hp.mp⟩
 ·simp only[put];by_cases hm:m=n
  ·subst hm;rw[if_pos rfl];have:=hg.sl m;rw[hn]at this;generalize hv:a.tmps.getD m undef=v at this;cases this;exact .own _ _ _ (by rw[<-hg.lρ];simp)
  ·rw[if_neg hm];exact hp.sl m
 ·exact hp.ap
end
end Go.Ab
end
section
namespace Go.Ab
open Go.RowKit
def dY (P:Program)(f:FuncId)(ds:List D)(ops l:List Oper)(s:St)(dst:Option Tmp)(K:St->Prop):Prop:=dL P f ds λd=>bZ P ops l (s.put dst d) K
section congr
variable {P:Program} {d d' x x' y y':D} {s s':St}
@[congr] theorem amu {k:Bool->Prop}(h:d=d'):o0 d k=o0 d' k:=by rw[h]
@[congr] theorem ami {k:IntKind->Int->Prop}(h:d=d'):kc d k=kc d' k:=by rw[h]
@[congr] theorem amj {k:IntKind->Int->Int->Prop}(h:x=x')(h':y=y'):jh x y k=jh x' y' k:=by rw[h,h']
@[congr] theorem amw {k:List D->Prop}(h:d=d'):wz d k=wz d' k:=by rw[h]
@[congr] theorem al8 {k:List D->Prop}(h:d=d'):tI d k=tI d' k:=by rw[h]
@[congr] theorem amc {α:Type}{o o':Option α}{k:α->Prop}(h:o=o'):a_ o k=a_ o' k:=by rw[h]
@[congr] theorem ams {t:TypeId}{k:Bool->Prop}(h:x=x')(h':y=y'):pR P t x y k=pR P t x' y' k:=by rw[h,h']
@[congr] theorem al' {rw aD:List Row}{k:List D->Prop}(h:rw=aD)(h':d=d'):oY rw d k=oY aD d' k:=by rw[h,h']
@[congr] theorem amm {xs O_:List D}{k:D->Prop}(h:xs=O_):tJ xs k=tJ O_ k:=by rw[h]
@[congr] theorem amg {bx aB:List Bx}{t:TypeId}{k:D->Prop}(h:bx=aB)(h':d=d'):k9 P bx t d k=k9 P aB t d' k:=by rw[h,h']
@[congr] theorem ama {o:Nat}{k:D->Prop}(h:d=d'):sG d o k=sG d' o k:=by rw[h]
@[congr] theorem amv {t:TypeId}{op:BinOp}{k:D->Prop}(h:x=x')(h':y=y'):wy P t op x y k=wy P t op x' y' k:=by rw[h,h']
@[congr] theorem al7 {op:UnOp}{k:D->Prop}(h:d=d'):wu op d k=wu op d' k:=by rw[h]
@[congr] theorem aml {rw aD:List Row}{t:TypeId}{k:D->Prop}(h:rw=aD)(h1:x=x')(h2:y=y'):uU P rw t x y k=uU P aD t x' y' k:=by rw[h,h1,h2]
@[congr] theorem amk {t:TypeId}{k:D->Prop}(h1:x=x')(h2:y=y'):wv P t x y k=wv P t x' y' k:=by rw[h1,h2]
@[congr] theorem amr {t:TypeId}{f:Nat}{k:D->Prop}(h:d=d'):wx P t d f k=wx P t d' f k:=by rw[h]
@[congr] theorem amh {t:TypeId}{rw aD:List Row}{k:D->Prop}(h:rw=aD)(h':d=d'):uT P t rw d k=uT P t aD d' k:=by rw[h,h']
@[congr] theorem al9 {t:TypeId}{K:St->Prop}(h:s=s')(h1:x=x')(h2:y=y'):uQ P s t x y K=uQ P s' t x' y' K:=by rw[h,h1,h2]
@[congr] theorem ame {t:TypeId}{k:D->Prop}(h:x=x')(h':y=y'):yr P t x y k=yr P t x' y' k:=by rw[h,h']
@[congr] theorem amd {t:TypeId}{z z':D}{k:Prop}(h:x=x')(h':y=y')(h2:z=z'):yq P t x y z k=yq P t x' y' z' k:=by rw[h,h',h2]
@[congr] theorem al_ {t:TypeId}{lo Du hi fj:Option D}{k:D->Prop}(h:x=x')(h1:lo=Du)(h2:hi=fj):uR P t x lo hi k=uR P t x' Du fj k:=by rw[h,h1,h2]
@[congr] theorem amq {k:FuncId->List D->List D->Prop}(h:d=d'):lW d k=lW d' k:=by rw[h]
@[congr] theorem am0 {ops l:List Oper}{K:St->Prop}(h:s=s'):bZ P ops l s K=bZ P ops l s' K:=by rw[h]
@[congr] theorem anK {c:Ctx}{code:Code}{Q:Exit->St->Prop}(h:s=s'):av c code Q s=av c code Q s':=by rw[h]
end congr
section eqs
variable {P:Program} {k:D->Prop} {K:St->Prop} {s:St} {ty:TypeId} {pos:String} {aft:Array Edge} {dst:Option Tmp} {gd:Option (Nat×Bool)} {ops l:List Oper} {rw:List Row} {bx:List Bx} {ρ:Operand->D}
@[go_sem] theorem ahK:bZ P ops [] s K=K s:=rfl
@[go_sem] theorem ahJ {op:Op}:bZ P ops (⟨dst,op,ty,pos,aft,none⟩::l) s K=cZ P ⟨dst,op,ty,pos,aft,none⟩ s λs'=>bZ P ops l s' K:=rfl
def rz (s:St)(t:Nat)(want:Bool)(A B:St->Prop):Prop:=wG (s.sl t) (B s) λb=>(b=want->A (s.put (some t) (.bool want)))/\(b= !want->B (s.put (some t) (.bool (!want))))
@[congr] theorem amo {d d':D}{no:Prop}{k:Bool->Prop}(h:d=d'):wG d no k=wG d' no k:=by rw[h]
@[congr] theorem amn {s s':St}{t:Nat}{want:Bool}{A B:St->Prop}(h:s=s'):rz s t want A B=rz s' t want A B:=by rw[h]
theorem Ib {t:Nat}{want:Bool}{A B:St->Prop}{b:Bool}(h:s.sl t= .bool b):rz s t want A B=((b=want->A (s.put (some t) (.bool want)))/\(b= !want->B (s.put (some t) (.bool (!want))))):=by
 unfold rz;rw[h];rfl
def F_ (d:D)(s:St)(t:Nat)(want:Bool)(A B:St->Prop):Prop:=wG d (B s) λb=>(b=want->A (s.put (some t) (.bool want)))/\(b= !want->B (s.put (some t) (.bool (!want))))
@[congr] theorem amp {d d':D}{t:Nat}{want:Bool}{A B:St->Prop}(h:d=d'):F_ d s t want A B=F_ d' s t want A B:=by rw[h]
@[go_sem] theorem ah7 {b:Bool}{t:Nat}{want:Bool}{A B:St->Prop}:F_ (.bool b) s t want A B=((b=want->A (s.put (some t) (.bool want)))/\(b= !want->B (s.put (some t) (.bool (!want))))):=rfl
attribute[go_sem↓] ah7
@[go_sem↓low] theorem amX {N:Nat}{sl:Nat->D}{t:Nat}{want:Bool}{A B:St->Prop}:rz ⟨N,sl,bx,rw⟩ t want A B=F_ (sl t) ⟨N,sl,bx,rw⟩ t want A B:=rfl
@[go_sem↓high] theorem amU {N:Nat}{sl:Nat->D}{t:Nat}{want:Bool}{A B:St->Prop}(h:sl t= .skp):rz ⟨N,sl,bx,rw⟩ t want A B=B ⟨N,sl,bx,rw⟩:=by
 unfold rz;simp only[h];rfl
@[go_sem↓high] theorem amS {N:Nat}{sl:Nat->D}{t:Nat}{A B:St->Prop}(h:sl t= .bool true):rz ⟨N,sl,bx,rw⟩ t true A B=A ⟨N,sl,bx,rw⟩:=by
 rw[Ib h];simp[rH (s:=⟨N,sl,bx,rw⟩) h]
@[go_sem↓high] theorem amT {N:Nat}{sl:Nat->D}{t:Nat}{A B:St->Prop}(h:sl t= .bool false):rz ⟨N,sl,bx,rw⟩ t true A B=B ⟨N,sl,bx,rw⟩:=by
 rw[Ib h];simp[rH (s:=⟨N,sl,bx,rw⟩) h]
@[go_sem↓high] theorem amV {N:Nat}{sl:Nat->D}{t:Nat}{A B:St->Prop}(h:sl t= .bool true):rz ⟨N,sl,bx,rw⟩ t false A B=B ⟨N,sl,bx,rw⟩:=by
 rw[Ib h];simp[rH (s:=⟨N,sl,bx,rw⟩) h]
@[go_sem↓high] theorem amW {N:Nat}{sl:Nat->D}{t:Nat}{A B:St->Prop}(h:sl t= .bool false):rz ⟨N,sl,bx,rw⟩ t false A B=A ⟨N,sl,bx,rw⟩:=by
 rw[Ib h];simp[rH (s:=⟨N,sl,bx,rw⟩) h]
@[go_sem] theorem ahL {op:Op}{j:Nat}{want:Bool}:bZ P ops (⟨dst,op,ty,pos,aft,some (j,want)⟩::l) s K=a_ (iu ops j) λt=>rz s t want
  (λs=>bZ P ops (⟨dst,op,ty,pos,aft,none⟩::l) s K)
  (λs=>bd s dst/\bZ P ops l (s.put dst .skp) K):=rfl
@[go_sem] theorem aha {j:Nat}:iu l j=(l[j]?).bind (·.dst):=rfl
@[go_sem] theorem aaS {t:TypeId}:cZ P ⟨dst, .alloc t,ty,pos,aft,gd⟩ s K=(bd s dst/\a_ (bL P t) λzs=>K (St.put {s with bx:=s.bx++[.mu zs]} dst (.box s.bx.length 0))):=rfl
@[go_sem] theorem aaO {t:TypeId}{x:Operand}:cZ P ⟨dst, .box t x,ty,pos,aft,gd⟩ s K=(bd s dst/\(s.ev x).cells.all D.one=true/\K (St.put {s with bx:=s.bx++[.mu (s.ev x).cells]} dst (.box s.bx.length 0))):=rfl
@[go_sem] theorem aap {t:TypeId}{x y:Operand}:cZ P ⟨dst, .store t x y,ty,pos,aft,gd⟩ s K=(dst=none/\uQ P s t (s.ev x) (s.ev y) K):=rfl
@[go_sem] theorem aaR {t t':TypeId}{x y:Operand}:cZ P ⟨dst, .call ⟨.builtin .append,#[x,y],#[t,t']⟩,ty,pos,aft,gd⟩ s K=(bd s dst/\t'=t/\Gb P s dst t (s.ev x) (s.ev y) K):=rfl
@[go_sem] theorem aat {x:Operand}:cZ P ⟨dst, .move x,ty,pos,aft,gd⟩ s K=(bd s dst/\K (s.put dst (s.ev x))):=rfl
@[go_sem] theorem aaQ {x:Operand}:cZ P ⟨dst, .assign x,ty,pos,aft,gd⟩ s K=(bd s dst/\K (s.put dst (s.ev x))):=rfl
@[go_sem] theorem aar {a b d:Operand}:cZ P ⟨dst, .pick a b d,ty,pos,aft,gd⟩ s K=(bd s dst/\o0 (s.ev a) λt=>K (s.put dst (GX t (s.ev b) (s.ev d)))):=rfl
@[go_sem] theorem aaP {op:BinOp}{xt yt:TypeId}{x y:Operand}:cZ P ⟨dst, .binOp op xt x y yt,ty,pos,aft,gd⟩ s K=(bd s dst/\wy P xt op (s.ev x) (s.ev y) λd=>K (s.put dst d)):=rfl
@[go_sem] theorem aao {op:UnOp}{xt:TypeId}{x:Operand}:cZ P ⟨dst, .unOp op xt x,ty,pos,aft,gd⟩ s K=(bd s dst/\wu op (s.ev x) λd=>K (s.put dst d)):=rfl
@[go_sem] theorem aaL {a b:TypeId}{x:Operand}:cZ P ⟨dst, .convert a b x,ty,pos,aft,gd⟩ s K=(bd s dst/\tK P a b (s.ev x) λd=>K (s.put dst d)):=rfl
@[congr] theorem amt {a b:TypeId}{d d':D}{k:D->Prop}(h:d=d'):tK P a b d k=tK P a b d' k:=by rw[h]
@[go_sem↓] theorem anh {a b:TypeId}{q:IntKind}{n:Int}{k:D->Prop}:tK P a b (.int q n) k=(a_ (qU P a) λ_=>a_ (qU P b) λq=>nC q n/\k (.int q n)):=rfl
@[go_sem↓] theorem ang {a b:TypeId}{xs:List D}{k:D->Prop}:tK P a b (.list xs) k=(kN P b=true/\a_ (elemOf P a) λe=>a_ (qU P e) λq=>q= .u8/\a_ (zG xs) λl=>k (.str ⟨l.toArray⟩)):=rfl
attribute[go_sem] zG
@[go_sem] theorem aaK {x:Operand}{i:Nat}:cZ P ⟨dst, .extract x i,ty,pos,aft,gd⟩ s K=(bd s dst/\tI (s.ev x) λds=>a_ ds[i]? λd=>K (s.put dst d)):=rfl
@[go_sem] theorem aaI {t:TypeId}{x:Operand}{f:Nat}:cZ P ⟨dst, .fieldAddr t x f,ty,pos,aft,gd⟩ s K=(bd s dst/\a_ (bc P t f) λot=>sG (s.ev x) ot.1 λd=>K (s.put dst d)):=rfl
@[go_sem] theorem aaJ {t:TypeId}{x:Operand}{f:Nat}:cZ P ⟨dst, .field t x f,ty,pos,aft,gd⟩ s K=(bd s dst/\wx P t (s.ev x) f λd=>K (s.put dst d)):=rfl
@[go_sem] theorem aaG {t:TypeId}{x y:Operand}:cZ P ⟨dst, .indexAddr t x y,ty,pos,aft,gd⟩ s K=(bd s dst/\uU P s.rw t (s.ev x) (s.ev y) λd=>K (s.put dst d)):=rfl
@[go_sem] theorem aaH {t:TypeId}{x y:Operand}:cZ P ⟨dst, .index t x y,ty,pos,aft,gd⟩ s K=(bd s dst/\wv P t (s.ev x) (s.ev y) λd=>K (s.put dst d)):=rfl
@[go_sem] theorem aaB {f:FuncId}{cap:Array Operand}:cZ P ⟨dst, .makeFunc (.func f) #[] cap,ty,pos,aft,gd⟩ s K=(bd s dst/\K (s.put dst (.ag f (cap.toList.map s.ev)))):=rfl
@[go_sem] theorem aaN {t:TypeId}{ps:Array (Nat×Operand)}:cZ P ⟨dst, .build t ps,ty,pos,aft,gd⟩ s K=(bd s dst/\a_ (bL P t) λzs=>a_ (fi P t) λplace=>
  a_ (tj place zs (ps.toList.map λp=>(p.1,s.ev p.2))) λcs=>K (s.put dst (.agg cs))):=rfl
@[go_sem] theorem aaE {x:Operand}{t:TypeId}:cZ P ⟨dst, .call ⟨.builtin .len,#[x],#[t]⟩,ty,pos,aft,gd⟩ s K=(bd s dst/\uT P t s.rw (s.ev x) λd=>K (s.put dst d)):=rfl
@[go_sem] theorem aav {x y:Operand}{at_:Array TypeId}:cZ P ⟨dst, .call ⟨.builtin .max,#[x,y],at_⟩,ty,pos,aft,gd⟩ s K=(bd s dst/\jh (s.ev x) (s.ev y) λq n m=>K (s.put dst (.int q (max n m)))):=rfl
@[go_sem] theorem aau {x y:Operand}{at_:Array TypeId}:cZ P ⟨dst, .call ⟨.builtin .min,#[x,y],at_⟩,ty,pos,aft,gd⟩ s K=(bd s dst/\jh (s.ev x) (s.ev y) λq n m=>K (s.put dst (.int q (min n m)))):=rfl
@[go_sem] theorem aay {f:FuncId}{x:Operand}{fs:List Operand}:cZ P ⟨dst, .makeFunc (.func f) ⟨x::fs⟩ #[],ty,pos,aft,gd⟩ s K=(bd s dst/\K (s.put dst (.cL f ((x::fs).map s.ev)))):=rfl
@[go_sem] theorem aaq {t:TypeId}{x:Operand}{lo hi:Option Operand}:cZ P ⟨dst, .slice t x lo hi none,ty,pos,aft,gd⟩ s K=(bd s dst/\uR P t (s.ev x) (lo.map s.ev) (hi.map s.ev) λd=>K (s.put dst d)):=rfl
@[go_sem] theorem aax {t:TypeId}{x y:Operand}:cZ P ⟨dst, .makeSlice t x y,ty,pos,aft,gd⟩ s K=(bd s dst/\F9 P s dst t (s.ev x) (s.ev y) K):=rfl
@[go_sem] theorem aaD {t:TypeId}{x:Operand}:cZ P ⟨dst, .load t x,ty,pos,aft,gd⟩ s K=(bd s dst/\k9 P s.bx t (s.ev x) λd=>K (s.put dst d)):=rfl
@[go_sem] theorem aaM {t:TypeId}{n:Nat}{ps:Array (Nat×Operand)}:cZ P ⟨dst, .buildSlice t n ps,ty,pos,aft,gd⟩ s K=(bd s dst/\a_ (elemOf P t) λe=>aC P e≠0/\n * aC P e<=16777216/\(bL P e).isSome=true/\
  ps.toList.map (·.1)=ct n/\a_ (gm s.bx s.rw (ps.toList.map λp=>s.ev p.2)) λds=>(∀d∈ds,d.cells.length=aC P e/\d.cells.all D.one=true)/\K (s.put dst (.list ds))):=rfl
@[go_sem↓high] theorem amZ {fx:Operand}{xs:Array Operand}{at_:Array TypeId}:bZ P ops (⟨dst, .call ⟨.value fx,xs,at_⟩,ty,pos,aft,none⟩::l) s K=(bd s dst/\lW (s.ev fx) λf fs cs=>
  a_ (gm s.bx s.rw (fs++xs.toList.map s.ev++cs)) λds=>dY P f ds ops l s dst K):=by
 show(bd s dst/\lW (s.ev fx) λf fs cs=>a_ (gm s.bx s.rw (fs++xs.toList.map s.ev++cs)) λds=>dL P f ds λd=>bZ P ops l (s.put dst d) K)=_;rfl
@[go_sem] theorem aaC {t:TypeId}{x y:Operand}{ok:Bool}:cZ P ⟨dst, .lookup t x y ok,ty,pos,aft,gd⟩ s K=(bd s dst/\uS P s.bx t (s.ev x) (s.ev y) ok λd=>K (s.put dst d)):=rfl
@[go_sem] theorem aah {t:TypeId}{x y:Operand}:nF P ⟨dst, .lookup t x y true,ty,pos,aft,gd⟩ s K=(bd s dst/\yr P t (s.ev x) (s.ev y) λd=>K (s.put dst d)):=rfl
@[go_sem] theorem aaw {t:TypeId}{x y z:Operand}:cZ P ⟨dst, .mapUpdate t x y z,ty,pos,aft,gd⟩ s K=(dst=none/\tH P s.bx t (s.ev x) (s.ev y) (s.ev z) λr=>K ⟨s.n,s.sl,r.1,s.rw⟩):=rfl
@[go_sem] theorem aaF {t:TypeId}{x y z:Operand}:cZ P ⟨dst, .insert t x y z,ty,pos,aft,gd⟩ s K=(dst=none/\tH P s.bx t (s.ev x) (s.ev y) (s.ev z) λr=>K ⟨s.n,s.sl,r.1,s.rw⟩):=rfl
@[go_sem] theorem aaf {t:TypeId}{x y z:Operand}:nF P ⟨dst, .mapUpdate t x y z,ty,pos,aft,gd⟩ s K=(dst=none/\yq P t (s.ev x) (s.ev y) (s.ev z) (K s)):=rfl
@[go_sem] theorem ain {bx:List Bx}{t:TypeId}{i:Nat}{dk:D}{ok:Bool}{k:D->Prop}:uS P bx t (.bu i) dk ok k=qJ bx i λes=>Ah P t es dk λe=>a_ (zeroV P e) λz=>k (Li ok (kR dk es) z):=rfl
@[go_sem] theorem ah8 {bx:List Bx}{t:TypeId}{i:Nat}{dk dv:D}{k:List Bx×D->Prop}:tH P bx t (.bu i) dk dv k=qJ bx i λes=>Ah P t es dk λ_=>cq bx.length 0 dv=true/\k (bx.set i (.mp (nP dk dv es)), .undef):=rfl
@[congr] theorem amf {x x' y y':D}{bx aB:List Bx}{t:TypeId}{ok:Bool}{k:D->Prop}(h:x=x')(h':y=y')(hb:bx=aB):uS P bx t x y ok k=uS P aB t x' y' ok k:=by rw[h,h',hb]
@[go_sem] theorem am' {bx:List Bx}{i:Nat}{k:List (D×D)->Prop}:qJ bx i k=match bx[i]? with|some (.mp es)=>k es|_=>False:=rfl
@[go_sem] theorem ana {t:TypeId}{es:List (D×D)}{dk:D}{k:TypeId->Prop}:Ah P t es dk k=a_ (mapOf P t) λke=>a_ (jB dk) λsh=>z6 P ke.1 sh/\(es.all λp=>decide (jB p.1=some sh))=true/\k ke.2:=rfl
attribute[go_sem] jB jl wV kR nP Li
@[go_sem] theorem aas {x:Operand}:cZ P ⟨dst, .nilCheck x,ty,pos,aft,gd⟩ s K=(bd s dst/\yp (s.ev x) λd=>K (s.put dst d)):=rfl
@[go_sem] theorem aaA {t:TypeId}{x:Operand}:cZ P ⟨dst, .makeInterface t x,ty,pos,aft,gd⟩ s K=(bd s dst/\BL P t=true/\K (s.put dst .any)):=rfl
@[go_sem] theorem aif {i off:Nat}{k:D->Prop}:yp (.box i off) k=k (.box i off):=rfl
@[congr] theorem amb {d d':D}{k:D->Prop}(h:d=d'):yp d k=yp d' k:=by rw[h]
@[go_sem] theorem anb {t:TypeId}{i off:Nat}{k:Bool->Prop}:pR P t (.box i off) (.val (.pointer none)) k=(yS P t=true/\k false):=rfl
@[go_sem] theorem ahO:BD P [] s K=K s:=rfl
@[go_sem] theorem ahP {o:Oper}:BD P (o::l) s K=(o.guard=none/\nF P o s λs'=>BD P l s' K):=rfl
@[go_sem] theorem aag {t:TypeId}:nF P ⟨dst, .makeMap t none,ty,pos,aft,gd⟩ s K=(bd s dst/\∃m:eP,m.uB=[]/\K (s.put dst (.bM m))):=rfl
@[go_sem] theorem aaz {t:TypeId}:cZ P ⟨dst, .makeMap t none,ty,pos,aft,gd⟩ s K=(bd s dst/\K (St.put ⟨s.n,s.sl,s.bx++[.mp []],s.rw⟩ dst (.bu s.bx.length))):=rfl
@[go_sem] theorem aim {t:TypeId}{ka:Bool}{va:VK}{dm:List (List Int)}{n:Nat}{f:List Int->List Int}{dk:D}:yr P t (.bM ⟨ka,va,n,f,dm⟩) dk k=a_ (mapOf P t) λke=>a_ (vh ka dk) λxs=>xs.length=n/\yb P ke.1 ka n/\
  a_ (zeroV P ke.2) λz=>k (.aF [wQ va (f xs), .bool true])/\(xs∉dm->k (.aF [z, .bool false])):=rfl
@[go_sem] theorem aik {t:TypeId}{ka:Bool}{va:VK}{dm:List (List Int)}{n:Nat}{f:List Int->List Int}{dk dv:D}{K:Prop}:yq P t (.bM ⟨ka,va,n,f,dm⟩) dk dv K=a_ (mapOf P t) λke=>a_ (vh ka dk) λxs=>xs.length=n/\yb P ke.1 ka n/\dv=wQ va (f xs)/\K:=rfl
attribute[go_sem] Dm wQ vh
@[go_sem] theorem aiR {n:Nat}:bd s (some n)=(n < s.n):=rfl
@[go_sem] theorem ac7 {N n:Nat}{sl:Nat->D}{d:D}:St.put ⟨N,sl,bx,rw⟩ (some n) d=⟨N,Ab.put sl n d,bx,rw⟩:=rfl
@[go_sem] theorem ahI {t:Tmp}:St.ev s (.tmp t)=s.sl t:=rfl
@[go_sem] theorem ahN {v:Value}:St.ev s (.const v)=vK v:=rfl
@[go_sem] theorem ahM {f:FuncId}:St.ev s (.func f)= .ag f []:=rfl
attribute[go_sem] vK kO QV kQ
@[go_sem] theorem aiD {b:Bool}{k:Bool->Prop}:o0 (.bool b) k=k b:=rfl
@[go_sem] theorem ait {q:IntKind}{n:Int}{k:IntKind->Int->Prop}:kc (.int q n) k=k q n:=rfl
@[go_sem] theorem ais {q q':IntKind}{n m:Int}{k:IntKind->Int->Int->Prop}:jh (.int q n) (.int q' m) k=(q=q'/\k q n m):=rfl
@[go_sem] theorem aiH {cs:List D}{k:List D->Prop}:wz (.agg cs) k=k cs:=rfl
@[go_sem] theorem ah9 {cs:List D}{k:List D->Prop}:tI (.aF cs) k=k cs:=rfl
@[go_sem] theorem aia {α:Type}{x:α}{k:α->Prop}:a_ (some x) k=k x:=rfl
@[go_sem] theorem aix {f:FuncId}{cs:List D}{k:FuncId->List D->List D->Prop}:lW (.ag f cs) k=k f [] cs:=rfl
@[go_sem] theorem aij {f:FuncId}{cs:List D}{k:FuncId->List D->List D->Prop}:lW (.cL f cs) k=k f cs []:=rfl
@[go_sem] theorem am5 {t:TypeId}{xs:List D}{lo hi:Option D}{k:D->Prop}:uR P t (.list xs) lo hi k=
  a_ (elemOf P t) λe=>mK hi xs.length xs.length λh=>mK lo 0 h λl=>aC P e≠0/\(∀d∈xs,d.cells.length=aC P e)/\k (.list ((xs.drop l).take (h - l))):=rfl
@[go_sem] theorem aiF {n m:Nat}{k:Nat->Prop}:mK none n m k=k n:=rfl
@[go_sem] theorem aiE {d:D}{n m:Nat}{k:Nat->Prop}:mK (some d) n m k=kc d λ_ j=>0<=j/\j<=m/\k j.toNat:=rfl
@[go_sem] theorem VI {i off n c:Nat}{k:List D->Prop}:yo bx (.aN i off n c) k=nE bx i λcs=>off + n<=cs.length/\k ((cs.drop off).take n):=rfl
@[go_sem] theorem aiB {dst:Option Tmp}{t:TypeId}{i off n c:Nat}{dy:D}{K:St->Prop}:Ga P s dst t (.aN i off n c) dy K=a_ (elemOf P t) λe=>aC P e=1/\yo s.bx dy λys=>ys.all D.one=true/\match s.bx[i]? with
   |some (.mu cs)=>off + n<=cs.length/\K (St.put {s with bx:=s.bx.set i (.mu (cs.take off++ys.take n++cs.drop (off + (ys.take n).length)))} dst (.int .i64 (ys.take n).length))
   |_=>False:=rfl
@[go_sem] theorem ail {dst:Option Tmp}{t:TypeId}{dl dc:D}{K:St->Prop}:F9 P s dst t dl dc K=a_ (elemOf P t) λe=>jh dl dc λ_ n m=>n=m/\0<=n/\n<=9223372036854775807/\(E2 P e:Int) * n<=140737488355328/\a_ (bL P e) λzs=>zs≠[]/\
  K (St.put {s with bx:=s.bx++[.mu (List.replicate n.toNat zs).flatten]} dst (.aN s.bx.length 0 n.toNat n.toNat)):=rfl
@[go_sem] theorem anj {α:Type}{f:α->D}{l:List α}:(l.map f).all D.one=l.all (λx=>(f x).one):=by rw[List.all_map];rfl
@[go_sem] theorem ani {α:Type}{l:List α}:(l.all λ_=>true)=true:=by simp
@[go_sem] theorem aiC {i:Nat}{k:List D->Prop}:nE bx i k=match bx[i]? with|some (.mu cs)=>k cs|some (.fz cs)=>k cs|_=>False:=rfl
@[go_sem] theorem aiz {t:TypeId}{a b:IntKind}{n m:Int}{k:Bool->Prop}:pR P t (.int a n) (.int b m) k=(a=b/\k (decide (n=m))):=rfl
@[go_sem] theorem aiA {t:TypeId}{a b:Bool}{k:Bool->Prop}:pR P t (.bool a) (.bool b) k=(P.underlying t=some .bool/\k (a == b)):=rfl
@[go_sem] theorem aiy {t:TypeId}{a b:ByteArray}{k:Bool->Prop}:pR P t (.str a) (.str b) k=k (a.toList == b.toList):=rfl
attribute[go_sem] jT
@[go_sem] theorem aic {xs:List D}{k:List D->Prop}:oY rw (.list xs) k=k xs:=rfl
@[go_sem] theorem aib {r:Nat}{k:List D->Prop}:oY rw (.own r) k=match rw[r]? with|some row=>k row.xs|none=>False:=rfl
@[go_sem] theorem aiw {d:D}{ds:List D}:tJ (d::ds) k=k d:=rfl
@[go_sem] theorem ah_ {t:TypeId}{cs:List D}:sF P t cs k=a_ (cI P t) λb=>match b with
 |true=>aC P t≠0/\aC P t<=cs.length/\k (.agg (cs.take (aC P t)))
 |false=>tJ cs k:=rfl
@[go_sem] theorem aip {t:TypeId}{i off:Nat}:k9 P bx t (.box i off) k=nE bx i λcs=>sF P t (cs.drop off) k:=rfl
@[go_sem] theorem aio {t:TypeId}{cs:List D}:k9 P bx t (.ro cs) k=sF P t cs k:=rfl
@[go_sem] theorem aie {i off o:Nat}:sG (.box i off) o k=k (.box i (off + o)):=rfl
@[go_sem] theorem aid {cs:List D}{o:Nat}:sG (.ro cs) o k=k (.ro (cs.drop o)):=rfl
@[go_sem] theorem anl {a b:IntKind}{n m:Int}{k:D->Prop}:yv (.int a n) (.int b m) k=jh (.int a n) (.int b m) λa n m=>nC a (n + m)/\k (.int a (n + m)):=rfl
@[go_sem] theorem ank {a b:ByteArray}{k:D->Prop}:yv (.str a) (.str b) k=(a.size + b.size<=9223372036854775807/\k (.str (a++b))):=rfl
@[go_sem] theorem am4 {t:TypeId}{s:ByteArray}{lo hi:Option D}{k:D->Prop}:uR P t (.str s) lo hi k=(kN P t=true/\mK hi s.size s.size λh=>mK lo 0 h λl=>k (.str (s.extract l h))):=rfl
@[congr] theorem amx {x x' y y':D}{k:D->Prop}(h:x=x')(h':y=y'):yv x y k=yv x' y' k:=by rw[h,h']
attribute[go_sem] wy wu GX uU wx Ai kN
@[go_sem] theorem aih {t:TypeId}{cs:List D}{off:Nat}:Ag P t cs off k=a_ (cI P t) λb=>match b with
 |true=>aC P t≠0/\off + aC P t<=cs.length/\k (.agg ((cs.drop off).take (aC P t)))
 |false=>a_ cs[off]? k:=rfl
@[go_sem] theorem aiv {t:TypeId}{cs:List D}{ix:D}:wv P t (.agg cs) ix k=Ai P t (.agg cs) ix k:=rfl
@[go_sem] theorem aiu {t:TypeId}{b:ByteArray}{ix:D}:wv P t (.str b) ix k=(kN P t=true/\kc ix λ_ n=>0<=n/\∃hl:n.toNat < b.size,k (.int .u8 (b[n.toNat]'hl).toNat)):=rfl
@[go_sem] theorem aiq {t:TypeId}{x:D}:uT P t rw x k=match elemOf P t with
 |some _=>(match x with
  | .list xs=>k (.int .i64 xs.length)
  | .own r=>a_ rw[r]? λrow=>k (.int .i64 row.xs.length)
  | .val (.slice none 0 0)=>k (.int .i64 0)
  | .aN _ _ n _=>k (.int .i64 n)
  |_=>False)
 |none=>kN P t=true/\(match x with
  | .str s=>k (.int .i64 s.size)
  |_=>False):=rfl
@[go_sem] theorem ah' {t:TypeId}{i off:Nat}{d:D}:uQ P s t (.box i off) d K=match s.bx[i]? with
  |some (.mu cs)=>aC P t≠0/\d.cells.length=aC P t/\d.cells.all D.one=true/\off + d.cells.length<=cs.length/\
    K {s with bx:=s.bx.set i (.mu (cs.take off++d.cells++cs.drop (off + d.cells.length)))}
  |_=>False:=rfl
@[go_sem] theorem aiG {t:TypeId}{dx dy:D}:Gb P s dst t dx dy K=a_ (elemOf P t) λe=>aC P e≠0/\(bL P e).isSome=true/\oY s.rw dy λys=>(∀y∈ys,y.cells.length=aC P e)/\
  match dx with
  | .own r=>a_ s.rw[r]? λrow=>row.live=true/\row.e=e/\row.sz=aC P e/\row.xs.length + ys.length<=9223372036854775807/\
    (row.xs.length + ys.length) * bytesOf P e<=140737488355328/\K ((s.appended r ⟨true,e,aC P e,row.xs++ys⟩).put dst (.own r))
  | .val (.slice none 0 0)=>ys.length<=9223372036854775807/\ys.length * bytesOf P e<=140737488355328/\
    K (St.put {s with rw:=s.rw++[⟨true,e,aC P e,ys⟩]} dst (.own s.rw.length))
  |_=>False:=rfl
attribute[go_sem] D.cells D.one pV pf qN pW ph jy pg gm tj tP mQ pd bb gY ij D.qQ rO bH cj
def tR (r:Nat)(sl:Nat->D):Nat->D:=λm=>gY r (sl m)
@[go_sem] theorem ak3 {r:Nat}{row:Row}:s.appended r row=⟨s.n,tR r s.sl,s.bx.map (ij r),s.rw.set r row⟩:=rfl
@[go_sem] theorem C' {sl:Nat->D}{n r:Nat}{v:D}:tR r (Ab.put sl n v)=Ab.put (tR r sl) n (gY r v):=by
 funext m;simp only[tR,Ab.put];split<;>rfl
@[go_sem] theorem Da {r:Nat}:tR r dJ=dJ:=rfl
theorem j5:(∀p:Prop,(True/\p)=p)/\(∀p:Prop,(p/\True)=p)/\(∀p:Prop,(False->p)=True)/\(∀p:Prop,(True->p)=p)/\(∀p:Prop,(False/\p)=False)/\(∀p:Prop,(p\/False)=p)/\(∀p:Prop,(False\/p)=p)/\
  (∀b:Bool,(b&&true)=b)/\(∀b:Bool,(true&&b)=b)/\(∀b:Bool,(b&&false)=false)/\(∀b:Bool,(false&&b)=false)/\
  (∀b:Bool,(b||true)=true)/\(∀b:Bool,(true||b)=true)/\(∀b:Bool,(b||false)=b)/\(∀b:Bool,(false||b)=b)/\((!true)=false)/\((!false)=true)/\(∀b:Bool,(!!b)=b)/\
  (∀(p:Prop) [Decidable p],(decide p=true)=p)/\(∀(p:Prop) [Decidable p],(decide p=false)=¬p)/\(∀b:Bool,((!b)=true)=(b=false))/\(∀b:Bool,((!b)=false)=(b=true))/\
  (∀n:Nat,(n:Int).toNat=n)/\(∀n:Nat,(0<=(n:Int))=True)/\(∀(p q:Bool),((p&&q)=true)=(p=true/\q=true))/\(∀p:Prop,(¬¬p)=p)/\((decide True)=true)/\((decide False)=false):=
 ⟨λ_=>by simp,λ_=>by simp,λ_=>by simp,λ_=>by simp,λ_=>by simp,λ_=>by simp,λ_=>by simp,aE,aE,aE,aE,aE,aE,aE,aE,rfl,rfl,aE,
  λ_=>by simp,λ_=>by simp,λ_=>by simp,λ_=>by simp,λ_=>by simp,λ_=>by simp,λ_ _=>by simp,λ_=>by simp,rfl,rfl⟩
theorem aU:(∀{α β:Type} (f:α->β) (l:List α),(l.map f).length=l.length)/\(∀{α:Type} (a:α) (l:List α),(a::l).length=l.length + 1)/\(∀{α:Type},([]:List α).length=0)/\
  (∀{α:Type} (l l':List α),(l++l').length=l.length + l'.length)/\(∀{α:Type} (l:List α),l.drop 0=l)/\(∀{α:Type} (a:α) (l:List α) (n:Nat),(a::l).drop (n + 1)=l.drop n)/\(∀{α:Type} (n:Nat),([]:List α).drop n=[])/\
  (∀{α:Type} (l:List α),l.take 0=[])/\(∀{α:Type} (a:α) (l:List α) (n:Nat),(a::l).take (n + 1)=a::l.take n)/\(∀{α:Type} (n:Nat),([]:List α).take n=[])/\
  (∀{α:Type} (l:List α),[]++l=l)/\(∀{α:Type} (a:α) (l l':List α),(a::l)++l'=a::(l++l'))/\(∀{α:Type} (l:List α),l++[]=l)/\
  (∀{α:Type} (a:α) (l:List α),(a::l)[0]? =some a)/\(∀{α:Type} (a:α) (l:List α) (n:Nat),(a::l)[n + 1]? =l[n]?)/\(∀{α:Type} (n:Nat),([]:List α)[n]? =none)/\
  (∀{α:Type} (a b:α) (l:List α),(a::l).set 0 b=b::l)/\(∀{α:Type} (a b:α) (l:List α) (n:Nat),(a::l).set (n + 1) b=a::l.set n b)/\
  (∀{α β:Type} (f:α->β) (a:α) (l:List α),(a::l).map f=f a::l.map f)/\(∀{α β:Type} (f:α->β),([]:List α).map f=[])/\
  (∀{α:Type} (p:α->Bool) (a:α) (l:List α),(a::l).all p=(p a&&l.all p))/\(∀{α:Type} (p:α->Bool),([]:List α).all p=true)/\
  (∀{α β:Type} (f:α->β) (a:α),(some a).map f=some (f a))/\(∀{α β:Type} (f:α->β),(none:Option α).map f=none)/\(∀{α β:Type} (f:α->Option β) (a:α),(some a).bind f=f a)/\
  (∀{α:Type} (a:α),(some a).isSome=true)/\(∀{α β:Type} (f:α->β->β) (b:β) (a:α) (l:List α),(a::l).foldr f b=f a (l.foldr f b))/\(∀{α β:Type} (f:α->β->β) (b:β),([]:List α).foldr f b=b)/\
  (∀{α:Type} (p:α->Prop) (a:α) (l:List α),(∀x∈a::l,p x)=(p a/\∀x∈l,p x))/\(∀{α:Type} (p:α->Prop),(∀x∈([]:List α),p x)=True)/\(ct 0=[])/\(ct 1=[0])/\(ct 2=[0,1])/\(ct 3=[0,1,2])/\(ct 4=[0,1,2,3]):=
 ⟨λ_ _=>by simp,λ_ _=>by simp,by simp,λ_ _=>by simp,λ_=>by simp,λ_ _ _=>by simp,λ_=>by simp,λ_=>by simp,λ_ _ _=>by simp,λ_=>by simp,λ_=>by simp,λ_ _ _=>by simp,λ_=>by simp,
  λ_ _=>by simp,λ_ _ _=>by simp,λ_=>by simp,λ_ _ _=>by simp,λ_ _ _ _=>by simp,λ_ _ _=>by simp,λ_=>by simp,λ_ _ _=>by simp,λ_=>by simp,λ_ _=>by simp,λ_=>by simp,λ_ _=>by simp,
  λ_=>by simp,λ_ _ _ _=>by simp,λ_ _=>by simp,λ_ _ _=>by simp,λ_=>by simp,rfl,rfl,rfl,rfl,rfl⟩
def nth {α:Type}[Inhabited α](xs:List α)(i:Nat):α:=xs.getD i default
theorem wM {α:Type}[Inhabited α](xs:List α)(i:Nat)(h:i < xs.length):nth xs i=xs[i]:=by simp[nth,h]
@[go_sem] theorem aii {α:Type}[Inhabited α]{f:α->D}{xs:List α}{n:Int}:ry (xs.map f) n k=((0<=n/\n < xs.length)/\k (f (nth xs n.toNat))):=by
 unfold ry;refine propext ⟨λ⟨h0,d,hd,hk⟩=> ?_,λ⟨⟨h0,h1⟩,hk⟩=> ?_⟩
 ·have hl:=(aQ.1 hd).1;simp only[List.length_map]at hl;rw[cO,bS hl]at hd;simp only[eH,Option.some.injEq]at hd;refine⟨⟨h0,ae⟩, ?_⟩;rw[wM xs _ hl,hd];exact hk
 ·have hl:n.toNat < xs.length:=ae;refine⟨h0,_,by rw[cO,bS hl];rfl, ?_⟩;rw[wM xs _ hl]at hk;exact hk
end eqs
theorem akx {P:Program}{f:FuncId}{fn:Func}{code:Code}{ds:List D}{d:D}{n:Nat}{rs:Array ResultVar}(hf:P.funcs[f]? =some fn)(hn:fn.ntmps=n)(hr:fn.results=rs)
  (hc:∀(args:Array Value) (w:World),(callFunc f args).run P w= .ok (.enter f args) w)(hb:fn.body=some code)(hl:ds.length<=n)
  (h:∀(w0:World) (S0:Addr->Prop) (M0:MM),av ⟨P,w0,S0,M0,none,λb=>w0.heap.size<=b,[]⟩ code (bb P rs d) ⟨n,kQ 0 ds,[],[]⟩):ak P f ds d:=by
 subst hn;subst hr
 refine akz hf hb hc hl ?_;rintro⟨_,w0,S0,M0,l,own,b0⟩ h1 h2 h3 h4;simp only at h1 h2 h3 h4;subst h1;subst h2;subst h3;subst h4
 exact h w0 S0 M0
theorem bg {c:Ctx}{x:Operand}{t e:Code}{Q:Exit->St->Prop}{s:St}(h:o0 (s.ev x) λb=>(b=true->av c t Q s)/\(b=false->av c e Q s)):av c (.cond x t e) Q s:=by
 cases hs:s.ev x<;>rw[hs]at h<;>simp only[o0]at h
 exact alv _ hs h.1 h.2
theorem afA {n:Int}(h1: -9223372036854775808<=n)(h2:n<=9223372036854775807):nC .i64 n:=⟨h1,h2⟩
attribute[go_sem] cq bN
def a7 (nb nr:Nat):List Bx->Bool
 |[]=>true
 | .mu cs::bs=>bN nb nr cs&&a7 nb nr bs
 | .mp es::bs=>(es.all λp=>cq nb 0 p.1&&cq nb 0 p.2)&&a7 nb nr bs
 |_::bs=>a7 nb nr bs
attribute[go_sem] a7
theorem qP {nb nr:Nat}:∀(bs:List Bx),a7 nb nr bs=true->∀(i:Nat) (x:Bx),bs[i]? =some x->x.Ld nb nr
 |[],_,i,x,hi=>by simp at hi
 | .mu cm::bs,h,i,x,hi=>by
  simp only[a7,c_]at h;cases i with
  |zero=>simp at hi;subst hi;exact yJ _ h.1
  |succ i=>exact qP bs h.2 i x (by simpa using hi)
 | .mp es::bs,h,i,x,hi=>by
  simp only[a7,c_]at h;cases i with
  |zero=>
   simp at hi;subst hi
   intro p hp;have:=iD.1 h.1 p hp;simp only[c_]at this;exact⟨t_ _ this.1,t_ _ this.2⟩
  |succ i=>exact qP bs h.2 i x (by simpa using hi)
 | .fz _::bs,h,i,x,hi=>by
  cases i with
  |zero=>simp at hi;subst hi;trivial
  |succ i=>exact qP bs (by simpa[a7]using h) i x (by simpa using hi)
 | .dead::bs,h,i,x,hi=>by
  cases i with
  |zero=>simp at hi;subst hi;trivial
  |succ i=>exact qP bs (by simpa[a7]using h) i x (by simpa using hi)
def cR (n:Nat)(l:List (Nat×D))(bx:List Bx)(rw:List Row):St:=⟨n,l.foldr (λp f=>put f p.1 p.2) dJ,bx,rw⟩
theorem ik {n:Nat}{l:List (Nat×D)}{bx:List Bx}{rw:List Row}(h:(l.all λp=>cq bx.length rw.length p.2)=true)(hb:a7 bx.length rw.length bx=true):(cR n l bx rw).named:=by
 refine⟨λm=> ?_,qP bx hb⟩;simp only[cR];clear hb;induction l with
 |nil=>exact .undef
 |cons p l ih=>
  simp only[List.all_cons,c_]at h;simp only[OL,put];split
  ·exact t_ _ h.1
  ·exact ih h.2
theorem br {s:St}{n:Nat}{l:List (Nat×D)}{bx:List Bx}{rw:List Row}(hn:s.n=n)(hl:∀p∈l,s.sl p.1=p.2)(hb:∃t,s.bx=bx++t)(hr:∃t,s.rw=rw++t):
  Le s (cR n l bx rw):=by
 refine⟨hn.symm,λm=> ?_,hb,hr⟩;simp only[cR];clear hb hr;induction l with
 |nil=>exact .inl rfl
 |cons p l ih=>
  simp only[OL,put];by_cases h:m=p.1
  ·rw[if_pos h];subst h;exact .inr (hl p (dI ..))
  ·rw[if_neg h];exact ih (λq hq=>hl q (dW _ hq))
theorem dn {c:Ctx}{body:Code}{Q:Exit->St->Prop}{s:St}{ι:Type}{n:Nat}(l:ι->List (Nat×D))(bx:ι->List Bx)(rw:ι->List Row)(p:ι->Prop)(μ:ι->Nat)
  (hn:∀i,p i->((l i).all λq=>cq (bx i).length (rw i).length q.2)=true/\a7 (bx i).length (rw i).length (bx i)=true)
  (i0:ι)(h0:p i0)(hle:Le s (cR n (l i0) (bx i0) (rw i0)))
  (round:∀i,p i->av c body (bH (λs'=>∃j,p j/\μ j < μ i/\Le s' (cR n (l j) (bx j) (rw j))) Q) ⟨n,(l i).foldr (λp f=>put f p.1 p.2) dJ,bx i,rw i⟩)(hβ:∀i,p i->c.β0.length<=(bx i).length:=by first|exact λ_ _=>Nat.zero_le _|(intros;simp;omega)):av c (.loop body) Q s:=
 alr (λi=>cR n (l i) (bx i) (rw i)) p μ (λi hp=>ik (hn i hp).1 (hn i hp).2) hβ i0 h0 hle round
theorem bo {P:Program}{f:FuncId}{ds:List D}{ops l:List Oper}{s:St}{dst:Option Tmp}{K:St->Prop}{d:D}(h:ak P f ds d)(hk:bZ P ops l (s.put dst d) K):dY P f ds ops l s dst K:=⟨d,h,hk⟩
end Go.Ab
namespace Go.Ab
@[go_sem] theorem anI {P:Program}{t:TypeId}:E2 P t=bytesOf P t:=rfl
end Go.Ab
namespace Go.Ab
attribute[go_sem↓] ahK ahJ ahL aha aaS aaO aap aaR aat aaQ aar aaP aao aaL aaK aaI aaJ aaG aaH aaB aaN aaE aav aau aay aaq aax aaD aaM aaC aaw aaF aaz aah aaf aag ahO ahP aas aaA aif ain ah8 aim aik aiR ac7 ahI ahN ahM aiD ait ais aiH ah9 aia aix aij aiF aiE VI aiB ail aiC aiz aiA aiy aic aib aiw ah_ aip aio aie aid aih aiv aiu aiq ah' aiG ak3 aii
end Go.Ab
end
section
namespace Go.Ab
open Go.RowKit
structure CP {α:Type}(V:(α->Prop)->Prop):Prop where
 mono:∀{k k':α->Prop},(∀a,k a->k' a)->V k->V k'
 ex:∀{k:α->Prop},V k->∃a,V (λx=>x=a)/\k a
theorem CP.ret {α:Type}(a:α):CP (λk:α->Prop=>k a):=⟨λh hk=>h _ hk,λhk=>⟨a,rfl,hk⟩⟩
theorem CP.no {α:Type}:CP (λ_:α->Prop=>False):=⟨λ_ h=>h,λh=>h.elim⟩
theorem CP.and {α:Type}{V:(α->Prop)->Prop}(p:Prop)(h:CP V):CP (λk=>p/\V k):=
 ⟨λhk ⟨hp,hv⟩=>⟨hp,h.mono hk hv⟩,λ⟨hp,hv⟩=>let⟨a,h1,h2⟩:=h.ex hv;⟨a,⟨hp,h1⟩,h2⟩⟩
theorem CP.iV {α:Type}(p:Prop)(a:α):CP (λk:α->Prop=>p/\k a):= .and p (.ret a)
theorem CP.bind {α β:Type}{V:(α->Prop)->Prop}{U:α->(β->Prop)->Prop}(h:CP V)(hu:∀a,CP (U a)):CP (λk=>V λa=>U a k):=
 ⟨λhk hv=>h.mono (λa=>(hu a).mono hk) hv,λhv=>by
  obtain⟨a,h1,h2⟩:=h.ex hv;obtain⟨b,h3,h4⟩:=(hu a).ex h2;exact⟨b,h.mono (λx hx=>by rw[hx];exact h3) h1,h4⟩⟩
theorem CP.Ni {α:Type}{β:Sort _}{U:β->(α->Prop)->Prop}(hu:∀b,CP (U b)):CP (λk=>∃b,U b k):=
 ⟨λhk ⟨b,h⟩=>⟨b,(hu b).mono hk h⟩,λ⟨b,h⟩=>let⟨a,h1,h2⟩:=(hu b).ex h;⟨a,⟨b,h1⟩,h2⟩⟩
section
variable {P:Program}
theorem Wa (d:D):CP (o0 d):=by cases d<;>first|exact .ret _|exact .no
theorem qx {β:Type}(d:D){U:IntKind->Int->(β->Prop)->Prop}(hu:∀q n,CP (U q n)):CP (λk=>kc d λq n=>U q n k):=by
 cases d<;>first|exact hu _ _|exact .no
theorem zC {β:Type}(x y:D){U:IntKind->Int->Int->(β->Prop)->Prop}(hu:∀q n m,CP (U q n m)):CP (λk=>jh x y λq n m=>U q n m k):=
 qx x λq n=>qx y λ_ m=> .and _ (hu q n m)
theorem Wb (d:D):CP (wz d):=by cases d<;>first|exact .ret _|exact .no
theorem ajq (d:D):CP (tI d):=by cases d<;>first|exact .ret _|exact .no
theorem gT {α:Type}(o:Option α):CP (a_ o):=by cases o<;>first|exact .ret _|exact .no
theorem NH (t:TypeId)(x y:D):CP (pR P t x y):=by
 unfold pR;split<;>first|exact .no|exact .iV _ _|exact .ret _|exact .and _ (.and _ (.iV _ _))|exact(gT _).bind λ_=>(gT _).bind λ_=> .and _ (.iV _ _)
theorem V_ (bx:List Bx)(i:Nat):CP (nE bx i):=by
 unfold nE;cases bx[i]? with
 |none=>exact .no
 |some b=>cases b<;>first|exact .ret _|exact .no
theorem ajt (rw:List Row)(d:D):CP (oY rw d):=by
 cases d<;>first|exact .ret _|exact .no|skip
 rename_i r;show CP (λk:List D->Prop=>match rw[r]? with|some row=>k row.xs|none=>False);cases rw[r]? <;>first|exact .ret _|exact .no
theorem ajw (xs:List D)(n:Int):CP (ry xs n):= .and _ (.Ni λd=> .iV _ d)
theorem ajD (cs:List D):CP (tJ cs):=by cases cs<;>first|exact .ret _|exact .no
theorem V4 (t:TypeId)(cs:List D):CP (sF P t cs):=(gT _).bind λb=>by
 cases b
 ·exact ajD _
 ·exact .and _ (.iV _ _)
theorem ajy (bx:List Bx)(t:TypeId)(d:D):CP (k9 P bx t d):=by
 cases d<;>first|exact .no|exact V4 _ _|exact(V_ _ _).bind λ_=>V4 _ _
theorem V5 (d:D)(o:Nat):CP (sG d o):=by cases d<;>first|exact .no|exact .ret _
theorem ajK (x y:D):CP (yv x y):=by
 cases x
 case str a=>cases y<;>first|exact .no|exact .iV _ _
 all_goals exact zC _ y λ_ _ _=> .iV _ _
theorem ajJ (t:TypeId)(op:BinOp)(x y:D):CP (wy P t op x y):=by
 have he:=NH (P:=P) t x y;cases op<;>first
  |exact .no
  |exact ajK x y
  |exact zC x y λ_ _ _=> .ret _
  |exact zC x y λ_ _ _=> .iV _ _
  |exact zC x y λ_ _ _=> .and _ (.iV _ _)
  |exact zC x y λ_ _ _=> .and _ (.and _ (.iV _ _))
  |exact zC x y λ_ _ _=> .and _ (.and _ (.and _ (.iV _ _)))
  |(show CP (λk:D->Prop=>pR P t x y λb=>k (.bool b));exact CP.bind (U:=λ(b:Bool) (k:D->Prop)=>k (.bool b)) (NH t x y) λb=>CP.ret (D.bool b))
  |(show CP (λk:D->Prop=>pR P t x y λb=>k (.bool (!b)));exact CP.bind (U:=λ(b:Bool) (k:D->Prop)=>k (.bool (!b))) (NH t x y) λb=>CP.ret (D.bool (!b)))
  |exact qx x λ_ _=>qx y λ_ _=> .and _ (.iV _ _)
  |exact qx x λ_ _=>qx y λ_ _=> .and _ (.and _ (.iV _ _))
theorem ajp (op:UnOp)(x:D):CP (wu op x):=by
 cases op<;>first|exact .no|exact(Wa x).bind λ_=> .ret _|exact qx x λ_ _=> .iV _ _
theorem ajB (rw:List Row)(t:TypeId)(x ix:D):CP (uU P rw t x ix):=by
 unfold uU;cases Ab.elemOf P t with
 |some e=>cases x<;>first|exact(ajt rw _).bind λ_=>qx ix λ_ _=>(ajw _ _).bind λ_=> .and _ (.iV _ _)|exact qx ix λ_ _=> .and _ (.and _ (.iV _ _))
 |none=>exact(gT _).bind λ_=>qx ix λ_ _=> .and _ (.and _ (.and _ (V5 _ _)))
theorem V6 (t:TypeId)(cs:List D)(o:Nat):CP (Ag P t cs o):=(gT _).bind λb=>by
 cases b
 ·exact gT _
 ·exact .and _ (.iV _ _)
theorem ajC (t:TypeId)(x ix:D):CP (Ai P t x ix):=(gT _).bind λ_=>(Wb x).bind λ_=>qx ix λ_ _=> .and _ (.and _ (.and _ (V6 _ _ _)))
theorem ajA (t:TypeId)(x ix:D):CP (wv P t x ix):=by
 cases x<;>first|exact ajC _ _ _|exact .and _ (qx ix λ_ _=> .and _ (.Ni λ_=> .ret _))
theorem ajF (t:TypeId)(x:D)(f:Nat):CP (wx P t x f):=(gT _).bind λ_=>(Wb x).bind λ_=>V6 _ _ _
theorem ajE {β:Type}(d:D){U:FuncId->List D->List D->(β->Prop)->Prop}(hu:∀f fs cs,CP (U f fs cs)):CP (λk=>lW d λf fs cs=>U f fs cs k):=by
 cases d<;>first|exact hu _ _ _|exact .no
theorem BK {β:Type}(d:Option D)(n m:Nat){U:Nat->(β->Prop)->Prop}(hu:∀n,CP (U n)):CP (λk=>mK d n m λj=>U j k):=by
 cases d
 ·exact hu _
 ·exact qx _ λ_ _=> .and _ (.and _ (hu _))
theorem ajs (t:TypeId)(x:D)(lo hi:Option D):CP (uR P t x lo hi):=by
 cases x<;>first|exact .no|exact(gT _).bind λ_=>BK _ _ _ λ_=>BK _ _ _ λ_=> .iV _ _|exact .and _ (BK _ _ _ λ_=>BK _ _ _ λ_=> .ret _)|exact(gT _).bind λ_=>BK _ _ _ λ_=>BK _ _ _ λ_=> .and _ (.iV _ _)
theorem ajH (s t:TypeId)(x:D):CP (tK P s t x):=by
 unfold tK;split
 ·exact .and _ ((gT _).bind λ_=>(gT _).bind λ_=> .and _ ((gT _).bind λ_=> .ret _))
 ·exact(gT _).bind λ_=>(gT _).bind λ_=>qx _ λ_ _=> .iV _ _
theorem ajI (f:FuncId)(ds:List D):CP (dL P f ds):= .Ni λ_=> .iV _ _
theorem ajz (t:TypeId)(rw:List Row)(x:D):CP (uT P t rw x):=by
 unfold uT;cases Ab.elemOf P t with
 |some e=>
  cases x<;>first|exact .ret _|exact .no|exact(gT _).bind λ_=> .ret _|skip
  rename_i v;simp only;split<;>first|exact .ret _|exact .no|exact(gT _).bind λ_=> .ret _
 |none=>exact .and _ (by cases x<;>first|exact .ret _|exact .no)
theorem aju (d:D):CP (yp d):=by cases d<;>first|exact .ret _|exact .no
theorem V9 (t:TypeId)(es:List (D×D))(dk:D):CP (Ah P t es dk):=(gT _).bind λ_=>(gT _).bind λ_=> .and _ (.and _ (.ret _))
theorem V8 (bx:List Bx)(i:Nat):CP (qJ bx i):=by
 unfold qJ;cases bx[i]? with
 |none=>exact .no
 |some b=>cases b<;>first|exact .ret _|exact .no
theorem ajx (bx:List Bx)(t:TypeId)(x dk:D)(ok:Bool):CP (uS P bx t x dk ok):=by
 cases x<;>first|exact .no|exact(V8 _ _).bind λ_=>(V9 _ _ _).bind λ_=>(gT _).bind λ_=> .ret _
theorem V3 (bx:List Bx)(t:TypeId)(x dk dv:D):CP (tH P bx t x dk dv):=by
 cases x<;>first|exact .no|exact(V8 _ _).bind λ_=>(V9 _ _ _).bind λ_=> .and _ (.ret _)
theorem ajv (o:Op)(ρ:Operand->D)(rw:List Row):CP (nO P o ρ rw):=by
 unfold nO;split<;>first
  |exact .ret _
  |exact(Wa _).bind λ_=> .ret _
  |exact ajJ _ _ _ _
  |exact ajp _ _
  |exact aju _
  |exact .iV _ _
  |exact ajH _ _ _
  |exact(ajq _).bind λ_=>gT _
  |exact(gT _).bind λ_=>V5 _ _
  |exact ajF _ _ _
  |exact ajB _ _ _ _
  |exact ajA _ _ _
  |exact(gT _).bind λ_=>(gT _).bind λ_=>(gT _).bind λ_=> .ret _
  |exact ajz _ _ _
  |exact zC _ _ λ_ _ _=> .ret _
  |exact ajs _ _ _ _
  |exact .no
theorem V7 (o:Op)(ρ:Operand->D)(bx:List Bx)(rw:List Row):CP (eD P o ρ bx rw):=by
 unfold eD;split<;>first
  |exact ajy _ _ _
  |exact ajx _ _ _ _ _
  |exact(gT _).bind λ_=> .and _ (.and _ (.and _ (.and _ ((gT _).bind λ_=> .iV _ _))))
  |exact ajE _ λ_ _ _=>(gT _).bind λ_=>ajI _ _
  |exact ajv _ _ _
inductive Kd where
 |A|B|L|W|X
 deriving DecidableEq
def kindOf:Op->Kd
 | .nilCheck _| .makeInterface .. | .move _| .assign _| .pick .. | .binOp .. | .unOp .. | .convert .. | .extract .. | .fieldAddr .. | .field .. | .indexAddr .. | .index .. | .makeFunc .. | .build .. | .slice .. => .A
 | .load .. | .lookup .. | .buildSlice .. => .B
 | .call ⟨.value _,_,_⟩=> .B
 | .call ⟨.builtin .len,_,_⟩=> .A
 | .call ⟨.builtin .max,_,_⟩=> .A
 | .call ⟨.builtin .min,_,_⟩=> .A
 | .alloc _| .box .. => .L
 | .makeMap _ none=> .L
 | .store .. => .W
 | .mapUpdate .. | .insert .. => .W
 | .call ⟨.builtin .copy,_,_⟩=> .W
 |_=> .X
def cF (sl:Nat->D):Operand->D
 | .tmp t=>sl t
 | .const v=>vK v
 | .global g=> .val (.pointer (some ⟨g,0,none⟩))
 | .func f=> .ag f []
theorem VB (s:St):s.ev=cF s.sl:=by funext x;cases x<;>rfl
theorem PV {o:Oper}{s:St}{K:St->Prop}(h:kindOf o.op= .A\/kindOf o.op= .B):cZ P o s K↔bd s o.dst/\eD P o.op (cF s.sl) s.bx s.rw λd=>K (s.put o.dst d):=by
 rw[<-VB];obtain⟨dst,op,ty,pos,aft,gd⟩:=o;cases op<;>first|exact sB|(simp only[kindOf,reduceCtorEq,or_self]at h;done)|(rename_i r;cases r<;>(simp only[kindOf,reduceCtorEq,or_self]at h;done))|skip
 rename_i cl;obtain⟨callee,args,at_⟩:=cl;cases callee with
 |value f=>exact sB
 |invoke r m=>exact sB
 |builtin b=>
  cases b<;>first|exact sB|(simp only[kindOf,reduceCtorEq,or_self]at h;done)
theorem G0 {o:Op}{ρ:Operand->D}{bx aB:List Bx}{rw:List Row}{k:D->Prop}(h:kindOf o= .A):eD P o ρ bx rw k->eD P o ρ aB rw k:=by
 cases o<;>first|exact id|(simp only[kindOf,reduceCtorEq]at h;done)|(rename_i r;cases r<;>(simp only[kindOf,reduceCtorEq]at h;done))|skip
 rename_i cl;obtain⟨callee,args,at_⟩:=cl;cases callee with
 |value f=>simp only[kindOf,reduceCtorEq]at h
 |invoke r m=>exact id
 |builtin b=>exact id
theorem KF {bx t:List Bx}{rw:List Row}{d d':D}(h:pV bx rw d=some d'):pV (bx++t) rw d=some d':=by
 unfold pV at h⊢;have key:∀i:Nat,i < bx.length\/bx[i]? =none:=λi=>by
  rcases ft i bx.length with aG|iS
  ·exact .inl aG
  ·exact .inr (pM iS)
 split at h<;>first|exact h|skip
 case h_2 i off=>
  rcases key i with hi|hi
  ·rw[bQ hi];exact h
  ·rw[hi]at h;cases h
 case h_3 i off n c=>
  rcases key i with hi|hi
  ·rw[bQ hi];exact h
  ·rw[hi]at h;cases h
theorem KJ {bx t:List Bx}{rw:List Row}:∀{ds bR:List D},pf bx rw ds=some bR->pf (bx++t) rw ds=some bR
 |[],bR,h=>h
 |d::ds,bR,h=>by
  simp only[pf]at h⊢;split at h
  ·rename_i d1 h1;rw[KF h1];simp only[cv]at h⊢;obtain⟨l,hl,rfl⟩:=h;exact⟨l,KJ hl,rfl⟩
  ·cases h
theorem adf {bx t:List Bx}{rw:List Row}{d d':D}(h:qN bx rw d=some d'):qN (bx++t) rw d=some d':=by
 unfold qN at h⊢;split at h
 ·simp only[cv]at h⊢;obtain⟨l,hl,rfl⟩:=h;exact⟨l,KJ hl,rfl⟩
 ·exact KF h
theorem Q1 {bx t:List Bx}{rw:List Row}:∀{ds bR:List D},pW bx rw ds=some bR->pW (bx++t) rw ds=some bR
 |[],bR,h=>h
 |d::ds,bR,h=>by
  simp only[pW]at h⊢;split at h
  ·rename_i d1 h1;rw[adf h1];simp only[cv]at h⊢;obtain⟨l,hl,rfl⟩:=h;exact⟨l,Q1 hl,rfl⟩
  ·cases h
theorem Q5 {bx t:List Bx}{rw:List Row}{d d':D}(h:ph bx rw d=some d'):ph (bx++t) rw d=some d':=by
 unfold ph at h⊢;split at h
 ·simp only[cv]at h⊢;obtain⟨l,hl,rfl⟩:=h;exact⟨l,Q1 hl,rfl⟩
 ·simp only[cv]at h⊢;obtain⟨l,hl,rfl⟩:=h;exact⟨l,KJ hl,rfl⟩
 ·exact KF h
theorem KH {bx t:List Bx}{rw:List Row}:∀{ds bR:List D},jy bx rw ds=some bR->jy (bx++t) rw ds=some bR
 |[],bR,h=>h
 |d::ds,bR,h=>by
  simp only[jy]at h⊢;split at h
  ·rename_i d1 h1;rw[Q5 h1];simp only[cv]at h⊢;obtain⟨l,hl,rfl⟩:=h;exact⟨l,KH hl,rfl⟩
  ·cases h
theorem adi {bx t:List Bx}{rw:List Row}{d d':D}(h:pg bx rw d=some d'):pg (bx++t) rw d=some d':=by
 unfold pg at h⊢;split at h
 ·simp only[cv]at h⊢;obtain⟨l,hl,rfl⟩:=h;exact⟨l,KH hl,rfl⟩
 ·simp only[cv]at h⊢;obtain⟨l,hl,rfl⟩:=h;exact⟨l,KH hl,rfl⟩
 ·exact h
 ·exact Q5 h
theorem GV {bx t:List Bx}{rw:List Row}:∀{ds bR:List D},gm bx rw ds=some bR->gm (bx++t) rw ds=some bR
 |[],bR,h=>h
 |d::ds,bR,h=>by
  simp only[gm]at h⊢;split at h
  ·rename_i d1 h1;rw[adi h1];simp only[cv]at h⊢;obtain⟨l,hl,rfl⟩:=h;exact⟨l,GV hl,rfl⟩
  ·cases h
theorem YI {bx t:List Bx}{i:Nat}{k:List D->Prop}(h:nE bx i k):nE (bx++t) i k:=by
 have hi:i < bx.length:=by
  rcases ft i bx.length with aG|iS
  ·exact aG
  ·unfold nE at h;rw[pM iS]at h;exact h.elim
 unfold nE at h⊢;rw[bQ hi];exact h
theorem YH {bx t:List Bx}{i:Nat}{k:List (D×D)->Prop}(h:qJ bx i k):qJ (bx++t) i k:=by
 have hi:i < bx.length:=by
  rcases ft i bx.length with aG|iS
  ·exact aG
  ·unfold qJ at h;rw[pM iS]at h;exact h.elim
 unfold qJ at h⊢;rw[bQ hi];exact h
theorem Rt {o:Op}{ρ:Operand->D}{bx t:List Bx}{rw:List Row}{k:D->Prop}:eD P o ρ bx rw k->eD P o ρ (bx++t) rw k:=by
 unfold eD;split
 ·intro h;unfold k9 at h⊢;split at h<;>first|exact YI h|exact h
 ·intro h;unfold uS at h⊢;split at h<;>first|exact YH h|exact h
 ·intro h;obtain⟨e,he,h1,h2,h3,h4,h⟩:=cM h;obtain⟨ds,hd,h⟩:=cM h;rw[he];refine⟨h1,h2,h3,h4, ?_⟩;rw[GV hd];exact h
 ·intro h;unfold lW at h⊢;split at h
  ·obtain⟨ds,hd,h⟩:=cM h;rw[GV hd];exact h
  ·obtain⟨ds,hd,h⟩:=cM h;rw[GV hd];exact h
  ·exact h
 ·exact id
theorem Ru {o:Op}{ρ ρ':Operand->D}{bx:List Bx}{rw:List Row}{k:D->Prop}(h:∀x∈o.operands,ρ x=ρ' x):eD P o ρ bx rw k->eD P o ρ' bx rw k:=by
 cases o
 case call cl=>
  obtain⟨callee,⟨args⟩,at_⟩:=cl;have ha:args.map ρ=args.map ρ':=oS λx hx=>h x (by simp[gq,Cw,hx]);cases callee with
  |value f=>
   have hf:ρ f=ρ' f:=h f (by simp[gq,Cw]);simp only[eD,hf,ha];exact id
  |invoke r m=>exact id
  |builtin b=>
   cases b<;>first|exact id|skip
   all_goals
    match args,at_,h,ha with
    |[],_,_,_=>exact id
    |[x],⟨[]⟩,_,_=>exact id
    |[x],⟨[t]⟩,h,_=>
     have h1:=h x (by simp[gq,Cw]);simp only[eD,nO,h1];exact id
    |[x],⟨_::_::_⟩,_,_=>exact id
    |[x,y],_,h,_=>
     have h1:=h x (by simp[gq,Cw]);have h2:=h y (by simp[gq,Cw]);simp only[eD,nO,h1,h2];exact id
    |_::_::_::_,_,_,_=>exact id
 case build t ps=>
  have hp:(ps.toList.map λp=>(p.1,ρ p.2))=ps.toList.map λp=>(p.1,ρ' p.2):=oS λp hp=>by
   rw[h p.2 (by simp[gq];exact⟨p.1,by simpa using hp⟩)]
  simp only[eD,nO,hp];exact id
 case buildSlice t n ps=>
  have hp:(ps.toList.map λp=>ρ p.2)=ps.toList.map λp=>ρ' p.2:=oS λp hp=>by
   rw[h p.2 (by simp[gq];exact⟨p.1,by simpa using hp⟩)]
  simp only[eD,hp];exact id
 case makeFunc fn first cap=>
  have hc:cap.toList.map ρ=cap.toList.map ρ':=oS λx hx=>h x (by simp[gq];right;simpa using hx);obtain⟨first⟩:=first
  cases fn<;>first|exact id|skip
  cases first with
  |nil=>simp only[eD,nO,hc];exact id
  |cons x fs=>
   obtain⟨cap⟩:=cap;cases cap with
   |nil=>
    have hf:(x::fs).map ρ=(x::fs).map ρ':=oS λy hy=>h y (by simp[gq];simpa using hy);simp only[eD,nO,hf];exact id
   |cons y ys=>exact id
 case slice t x lo hi mx=>
  cases mx with
  |some m=>exact id
  |none=>
   have h1:=h x (by simp[gq]);have h2:lo.map ρ=lo.map ρ':=by cases lo with|none=>rfl|some y=>simp only[eH];rw[h y (by simp[gq])]
   have h3:hi.map ρ=hi.map ρ':=by cases hi with|none=>rfl|some y=>simp only[eH];rw[h y (by simp[gq])]
   simp only[eD,nO,h1,h2,h3];exact id
 all_goals first
  |exact id
  |(have h1:=h _ (by simp only[gq];exact alW.2 rfl);simp only[eD,nO,h1];exact id)
  |(rename_i a b c
    have h1:=h a (by simp[gq]);have h2:=h b (by simp[gq]);have h3:=h c (by simp[gq])
    simp only[eD,nO,h1,h2,h3];exact id)
  |(rename_i a b c
    have h2:=h b (by simp[gq]);have h3:=h c (by simp[gq])
    simp only[eD,nO,h2,h3];exact id)
  |(rename_i a b c d
    have h2:=h b (by simp[gq]);have h3:=h c (by simp[gq])
    simp only[eD,nO,h2,h3];exact id)
  |(rename_i a b c d e
    have h2:=h c (by simp[gq]);have h3:=h d (by simp[gq])
    simp only[eD,nO,h2,h3];exact id)
end
end Go.Ab
end
section
namespace Go.Ab
open Go.RowKit
section
variable {P:Program}
def jZ (P:Program)(o:Op)(ρ:Operand->D)(bx:List Bx)(k:List Bx×D->Prop):Prop:=match o with
 | .alloc t=>a_ (bL P t) λzs=>k (bx++[.mu zs], .box bx.length 0)
 | .box _ x=>(ρ x).cells.all D.one=true/\k (bx++[.mu (ρ x).cells], .box bx.length 0)
 | .store t x y=>match ρ x with
  | .box i off=>match bx[i]? with
   |some (.mu cs)=>aC P t≠0/\(ρ y).cells.length=aC P t/\(ρ y).cells.all D.one=true/\off + (ρ y).cells.length<=cs.length/\
     k (bx.set i (.mu (cs.take off++(ρ y).cells++cs.drop (off + (ρ y).cells.length))), .undef)
   |_=>False
  |_=>False
 | .call ⟨.builtin .copy,⟨[x,y]⟩,⟨[t,_]⟩⟩=>F' P bx t (ρ x) (ρ y) k
 | .makeMap _ none=>k (bx++[.mp []], .bu bx.length)
 | .mapUpdate t x y z=>tH P bx t (ρ x) (ρ y) (ρ z) k
 | .insert t x y z=>tH P bx t (ρ x) (ρ y) (ρ z) k
 |_=>False
theorem ajr (bx:List Bx)(d:D):CP (yo bx d):=by
 cases d<;>first|exact .no|exact .ret _|exact(V_ _ _).bind λ_=> .iV _ _
theorem ajG (bx:List Bx)(t:TypeId)(dx dy:D):CP (F' P bx t dx dy):=by
 cases dx<;>first|exact .no|skip
 rename_i i off n c;refine(gT _).bind λ_=> .and _ ((ajr _ _).bind λys=> .and _ ?_);cases bx[i]? with
 |none=>exact .no
 |some b=>cases b<;>first|exact .no|exact .iV _ _
theorem uC (o:Op)(ρ:Operand->D)(bx:List Bx):CP (jZ P o ρ bx):=by
 unfold jZ;split
 ·exact(gT _).bind λ_=> .ret _
 ·exact .iV _ _
 ·split
  ·rename_i i off _;cases bx[i]? with
   |none=>exact .no
   |some b=>cases b<;>first|exact .no|exact .and _ (.and _ (.and _ (.iV _ _)))
  ·exact .no
 ·exact ajG _ _ _ _
 ·exact .ret _
 ·exact V3 _ _ _ _ _
 ·exact V3 _ _ _ _ _
 ·exact .no
def EO (o:Oper):Prop:=match o.op with| .store .. =>o.dst=none| .mapUpdate .. =>o.dst=none| .insert .. =>o.dst=none|_=>True
theorem aaj {o:Oper}{s:St}{K:St->Prop}(h:kindOf o.op= .L\/kindOf o.op= .W):cZ P o s K↔bd s o.dst/\EO o/\jZ P o.op (cF s.sl) s.bx λr=>K (St.put ⟨s.n,s.sl,r.1,s.rw⟩ o.dst r.2):=by
 rw[<-VB];obtain⟨dst,op,ty,pos,aft,gd⟩:=o;cases op<;>first|(simp only[kindOf,reduceCtorEq,or_self]at h;done)|skip
 case alloc=>exact⟨λ⟨h1,h2⟩=>⟨h1,trivial,h2⟩,λ⟨h1,_,h2⟩=>⟨h1,h2⟩⟩
 case box=>exact⟨λ⟨h1,h2⟩=>⟨h1,trivial,h2⟩,λ⟨h1,_,h2⟩=>⟨h1,h2⟩⟩
 case makeMap t r=>
  cases r with
  |none=>exact⟨λ⟨h1,h2⟩=>⟨h1,trivial,h2⟩,λ⟨h1,_,h2⟩=>⟨h1,h2⟩⟩
  |some r=>simp only[kindOf,reduceCtorEq,or_self]at h
 case mapUpdate=>
  refine⟨λ⟨h1,h2⟩=> ?_,λ⟨_,h1,h2⟩=> ?_⟩
  ·have gH:dst=none:=h1;subst gH;exact⟨trivial,rfl,h2⟩
  ·have gH:dst=none:=h1;subst gH;exact⟨rfl,h2⟩
 case insert=>
  refine⟨λ⟨h1,h2⟩=> ?_,λ⟨_,h1,h2⟩=> ?_⟩
  ·have gH:dst=none:=h1;subst gH;exact⟨trivial,rfl,h2⟩
  ·have gH:dst=none:=h1;subst gH;exact⟨rfl,h2⟩
 case store=>
  refine⟨λ⟨h1,h2⟩=> ?_,λ⟨_,h1,h2⟩=> ?_⟩
  ·have gH:dst=none:=h1;subst gH;exact⟨trivial,rfl,h2⟩
  ·have gH:dst=none:=h1;subst gH;exact⟨rfl,h2⟩
 case call cl=>
  obtain⟨callee,args,at_⟩:=cl;cases callee with
  |value f=>simp only[kindOf,reduceCtorEq,or_self]at h
  |invoke r m=>simp only[kindOf,reduceCtorEq,or_self]at h
  |builtin b=>
   cases b<;>first|(simp only[kindOf,reduceCtorEq,or_self]at h;done)|skip
   obtain⟨args⟩:=args;obtain⟨at_⟩:=at_
   match args,at_ with
   |[x,y],[t,t']=>exact⟨λ⟨h1,h2⟩=>⟨h1,trivial,h2⟩,λ⟨h1,_,h2⟩=>⟨h1,h2⟩⟩
   |[],_=>exact⟨λh=>h.2.elim,λh=>h.2.2.elim⟩
   |[_],_=>exact⟨λh=>h.2.elim,λh=>h.2.2.elim⟩
   |_::_::_::_,_=>exact⟨λh=>h.2.elim,λh=>h.2.2.elim⟩
   |[_,_],[]=>exact⟨λh=>h.2.elim,λh=>h.2.2.elim⟩
   |[_,_],[_]=>exact⟨λh=>h.2.elim,λh=>h.2.2.elim⟩
   |[_,_],_::_::_::_=>exact⟨λh=>h.2.elim,λh=>h.2.2.elim⟩
theorem BG {o:Op}{ρ ρ':Operand->D}{bx:List Bx}{k:List Bx×D->Prop}(h:∀x∈o.operands,ρ x=ρ' x):jZ P o ρ bx k->jZ P o ρ' bx k:=by
 cases o
 case call cl=>
  obtain⟨callee,⟨args⟩,⟨at_⟩⟩:=cl;cases callee with
  |value f=>exact id
  |invoke r m=>exact id
  |builtin b=>
   cases b<;>first|exact id|skip
   match args,at_,h with
   |[x,y],[t,t'],h=>
    have h1:=h x (by simp[gq,Cw]);have h2:=h y (by simp[gq,Cw])
    simp only[jZ,h1,h2];exact id
   |[],_,_=>exact id
   |[_],_,_=>exact id
   |_::_::_::_,_,_=>exact id
   |[_,_],[],_=>exact id
   |[_,_],[_],_=>exact id
   |[_,_],_::_::_::_,_=>exact id
 case makeMap t r=>cases r<;>exact id
 case mapUpdate t x y z=>
  have h1:=h x (by simp[gq]);have h2:=h y (by simp[gq]);have h3:=h z (by simp[gq])
  simp only[jZ,h1,h2,h3];exact id
 case insert t x y z=>
  have h1:=h x (by simp[gq]);have h2:=h y (by simp[gq]);have h3:=h z (by simp[gq])
  simp only[jZ,h1,h2,h3];exact id
 all_goals first
  |exact id
  |(have h1:=h _ (by simp only[gq];exact alW.2 rfl);simp only[jZ,h1];exact id)
  |(rename_i a b c
    have h2:=h b (by simp[gq]);have h3:=h c (by simp[gq])
    simp only[jZ,h2,h3];exact id)
def jJ (P:Program)(ops:List Oper)(o:Oper)(sl:Nat->D)(bx:List Bx)(rw:List Row)(k:D->Prop):Prop:=match o.guard with
 |none=>eD P o.op (cF sl) bx rw k
 |some (j,want)=>a_ (iu ops j) λt=>wG (sl t) (k .skp) λb=>match b == want with
  |true=>eD P o.op (cF sl) bx rw k
  |false=>k .skp
theorem k5 (ops:List Oper)(o:Oper)(sl:Nat->D)(bx:List Bx)(rw:List Row):CP (jJ P ops o sl bx rw):=by
 unfold jJ;split
 ·exact V7 _ _ _ _
 ·rename_i j want _;refine(gT (iu ops j)).bind λt=> ?_;cases sl t<;>first|exact .no|exact .ret _|skip
  rename_i b;show CP λk=>match b == want with|true=>eD P o.op (cF sl) bx rw k|false=>k .skp
  cases b == want
  ·exact .ret _
  ·exact V7 _ _ _ _
def eY (P:Program)(ops:List Oper)(o:Oper)(s:St)(K:St->Prop):Prop:=match o.guard with
 |none=>cZ P o s K
 |some (j,want)=>a_ (iu ops j) λt=>wG (s.sl t) (bd s o.dst/\K (s.put o.dst .skp)) λb=>match b == want with
  |true=>cZ P o s K
  |false=>bd s o.dst/\K (s.put o.dst .skp)
theorem ou {ops:List Oper}{o:Oper}{s:St}{K:St->Prop}(h:kindOf o.op= .A\/kindOf o.op= .B):eY P ops o s K↔bd s o.dst/\jJ P ops o s.sl s.bx s.rw λd=>K (s.put o.dst d):=by
 unfold eY jJ;cases o.guard with
 |none=>exact PV h
 |some jw=>
  obtain⟨j,want⟩:=jw;simp only;cases iu ops j with
  |none=>exact⟨λh=>h.elim,λh=>h.2.elim⟩
  |some t=>
   simp only[a_];cases s.sl t<;>simp only[wG]<;>try exact⟨λh=>h.elim,λh=>h.2.elim⟩
   rename_i b;cases b == want
   ·exact sB
   ·exact PV h
theorem sd {ops:List Oper}{o:Oper}{s:St}{K:St->Prop}(h:kindOf o.op= .L\/kindOf o.op= .W)(hg:o.guard=none):
  eY P ops o s K↔bd s o.dst/\EO o/\jZ P o.op (cF s.sl) s.bx λr=>K (St.put ⟨s.n,s.sl,r.1,s.rw⟩ o.dst r.2):=by
 unfold eY;rw[hg];exact aaj h
theorem zy {o:Oper}{ops:Array Oper}{s:St}{dst:Option Tmp}{d:D}(h:∀t,dst=some t->t∉o.looksAt ops):∀x∈o.op.operands,cF (St.put s dst d).sl x=cF s.sl x:=by
 intro x hx;cases dst with
 |none=>rfl
 |some t=>
  cases x with
  |tmp u=>
   simp only[cF,St.put,Ab.put];rw[if_neg];intro e;subst e;exact h u rfl (by
    simp only[Oper.looksAt,fA,List.mem_filterMap];exact .inl ⟨.tmp u,by simpa using hx,rfl⟩)
  |_=>rfl
theorem Bz {ops:Array Oper}{o:Oper}{s:St}{dst:Option Tmp}{d:D}{bx:List Bx}{rw:List Row}{k:D->Prop}(h:∀t,dst=some t->t∉o.looksAt ops):
  jJ P ops.toList o (St.put s dst d).sl bx rw k↔jJ P ops.toList o s.sl bx rw k:=by
 have h1:=zy (s:=s) (d:=d) h;have hb:∀{k:D->Prop},eD P o.op (cF (St.put s dst d).sl) bx rw k↔eD P o.op (cF s.sl) bx rw k:=λ{k}=>
  ⟨Ru h1,Ru λx hx=>(h1 x hx).symm⟩
 unfold jJ;cases hg:o.guard with
 |none=>exact hb
 |some jw=>
  obtain⟨j,want⟩:=jw;simp only;cases fP:iu ops.toList j with
  |none=>exact sB
  |some t=>
   have ht:(St.put s dst d).sl t=s.sl t:=by
    cases dst with
    |none=>rfl
    |some u=>
     simp only[St.put,Ab.put];rw[if_neg];intro e;subst e;refine h t rfl ?_;simp only[Oper.looksAt,fA];right;rw[hg];have:(ops[j]?).bind (·.dst)=some t:=by simpa[iu]using fP
     show t∈((ops[j]?).bind (·.dst)).toList;rw[this];simp
   simp only[a_,ht];cases s.sl t<;>simp only[wG]
   rename_i b;cases b == want
   ·exact sB
   ·exact hb
theorem QU {s:St}{x y:Option Tmp}{d e:D}(h:∀t,x=some t->y≠some t):(s.put x d).put y e=(s.put y e).put x d:=by
 cases x with
 |none=>rfl
 |some t=>
  cases y with
  |none=>rfl
  |some u=>
   have bz:t≠u:=λhe=>h t rfl (by rw[he]);simp only[St.put]
   congr 1
   funext m
   simp only[Ab.put];by_cases h1:m=u<;>by_cases h2:m=t
   ·exact absurd (h2.symm.trans h1) bz
   ·simp[h1,Ne.symm bz]
   ·simp[h2,bz]
   ·simp[h1,h2]
def yH:Kd->Kd->Bool
 | .A, .A| .A, .B| .B, .A| .B, .B| .A, .L| .B, .L| .L, .A| .A, .W| .W, .A=>true
 |_,_=>false
theorem swap {ops:Array Oper}{oi oj:Oper}{s:St}{K:St->Prop}(ra:oi.apart ops oj=true)(hp:yH (kindOf oi.op) (kindOf oj.op)=true)
  (Ei:kindOf oi.op= .L\/kindOf oi.op= .W->oi.guard=none)(Eh:kindOf oj.op= .L\/kindOf oj.op= .W->oj.guard=none):
  eY P ops.toList oi s (λs1=>eY P ops.toList oj s1 K)->eY P ops.toList oj s (λs1=>eY P ops.toList oi s1 K):=by
 obtain⟨h1,h2,h3⟩:=Oper.apart_spec ra;have cN:∀{s:St} {x y:Option Tmp} {d:D},bd (St.put s x d) y↔bd s y:=λ{s x y d}=>by
  cases x<;>exact sB
 have fin:∀{d e:D} {s:St},(s.put oi.dst d).put oj.dst e=(s.put oj.dst e).put oi.dst d:=QU h2;have key:∀(vi:kindOf oi.op= .A\/kindOf oi.op= .B) (vj:kindOf oj.op= .A\/kindOf oj.op= .B),
   eY P ops.toList oi s (λs1=>eY P ops.toList oj s1 K)->eY P ops.toList oj s (λs1=>eY P ops.toList oi s1 K):=λvi vj h=>by
  obtain⟨hd,h⟩:=(ou vi).1 h;obtain⟨d,hv,h⟩:=(k5 _ _ _ _ _).ex h;obtain⟨dN,h⟩:=(ou vj).1 h;obtain⟨e,he,hK⟩:=(k5 _ _ _ _ _).ex h;have hs:∀{x:Option Tmp} {d:D},(St.put s x d).bx=s.bx/\(St.put s x d).rw=s.rw:=λ{x d}=>by cases x<;>exact⟨rfl,rfl⟩
  rw[hs.1,hs.2]at he;have he:=(Bz h1).1 he;refine(ou vj).2 ⟨cN.1 dN,(k5 _ _ _ _ _).mono (λx hx=> ?_) he⟩;subst hx;refine(ou vi).2 ⟨cN.2 hd, ?_⟩;rw[hs.1,hs.2];refine(Bz h3).2 ((k5 _ _ _ _ _).mono (λx hx=> ?_) hv);subst hx;rw[<-fin];exact hK
 have Ls:∀(vi:kindOf oi.op= .A\/kindOf oi.op= .B) (ej:kindOf oj.op= .L\/kindOf oj.op= .W)
   (fQ:∀{aB:List Bx} {d:D} {k:D->Prop},jZ P oj.op (cF s.sl) s.bx (λr=>r=(aB,d))->jJ P ops.toList oi s.sl s.bx s.rw k->jJ P ops.toList oi s.sl aB s.rw k),
   eY P ops.toList oi s (λs1=>eY P ops.toList oj s1 K)->eY P ops.toList oj s (λs1=>eY P ops.toList oi s1 K):=λvi ej fQ h=>by
  obtain⟨hd,h⟩:=(ou vi).1 h;obtain⟨d,hv,h⟩:=(k5 _ _ _ _ _).ex h;obtain⟨dN,Mq,h⟩:=(sd ej (Eh ej)).1 h;obtain⟨⟨aB,e⟩,he,hK⟩:=(uC _ _ _).ex h;have hs:(St.put s oi.dst d).bx=s.bx/\(St.put s oi.dst d).rw=s.rw/\(St.put s oi.dst d).n=s.n:=by cases oi.dst<;>exact⟨rfl,rfl,rfl⟩
  rw[hs.1]at he;have he:=BG (zy h1) he;refine(sd ej (Eh ej)).2 ⟨cN.1 dN,Mq,(uC _ _ _).mono (λx hx=> ?_) he⟩;subst hx;refine(ou vi).2 ⟨?_, ?_⟩
  ·have:=hd;cases jq:oj.dst<;>cases vo:oi.dst<;>simp_all[bd,St.put]
  ·have ku:=fQ he hv;have e1:(St.put ⟨s.n,s.sl,aB,s.rw⟩ oj.dst e).bx=aB/\(St.put ⟨s.n,s.sl,aB,s.rw⟩ oj.dst e).rw=s.rw:=by cases oj.dst<;>exact⟨rfl,rfl⟩
   rw[e1.1,e1.2];refine(Bz (s:=⟨s.n,s.sl,aB,s.rw⟩) h3).2 ((k5 _ _ _ _ _).mono (λx hx=> ?_) ku);subst hx;have e2:(St.mk (St.put s oi.dst x).n (St.put s oi.dst x).sl aB (St.put s oi.dst x).rw)=St.put ⟨s.n,s.sl,aB,s.rw⟩ oi.dst x:=by cases oi.dst<;>rfl
   simp only[e2]at hK;rw[<-fin];exact hK
 have SF:∀(ei:kindOf oi.op= .L\/kindOf oi.op= .W) (vj:kindOf oj.op= .A),
   eY P ops.toList oi s (λs1=>eY P ops.toList oj s1 K)->eY P ops.toList oj s (λs1=>eY P ops.toList oi s1 K):=λei vj h=>by
  obtain⟨hd,Mq,h⟩:=(sd ei (Ei ei)).1 h;obtain⟨⟨aB,d⟩,he,h⟩:=(uC _ _ _).ex h;obtain⟨dN,h⟩:=(ou (.inl vj)).1 h;obtain⟨e,hv,hK⟩:=(k5 _ _ _ _ _).ex h;have e1:(St.put ⟨s.n,s.sl,aB,s.rw⟩ oi.dst d).bx=aB/\(St.put ⟨s.n,s.sl,aB,s.rw⟩ oi.dst d).rw=s.rw:=by cases oi.dst<;>exact⟨rfl,rfl⟩
  simp only[e1.1,e1.2]at hv;have hv:=(Bz (s:=⟨s.n,s.sl,aB,s.rw⟩) h1).1 hv;have hvA:∀{b b':List Bx} {k:D->Prop},jJ P ops.toList oj s.sl b s.rw k->jJ P ops.toList oj s.sl b' s.rw k:=λ{b b' k} hh=>by
   unfold jJ at hh⊢;cases hg:oj.guard with
   |none=>rw[hg]at hh;exact G0 vj hh
   |some jw=>
    obtain⟨j,want⟩:=jw;rw[hg]at hh;simp only at hh⊢;cases fP:iu ops.toList j with
    |none=>rw[fP]at hh;exact hh
    |some t=>
     rw[fP]at hh;simp only[a_]at hh⊢;cases aM:s.sl t<;>rw[aM]at hh<;>simp only[wG]at hh⊢
     case skp=>exact hh
     rename_i b0;cases gS:b0 == want<;>rw[gS]at hh<;>simp only at hh⊢
     ·exact hh
     ·exact G0 vj hh
  refine(ou (.inl vj)).2 ⟨?_,(k5 _ _ _ _ _).mono (λx hx=> ?_) (hvA hv)⟩
  ·have:=dN;cases jq:oj.dst<;>cases vo:oi.dst<;>simp_all[bd,St.put]
  ·subst hx;have hs:(St.put s oj.dst x).bx=s.bx/\(St.put s oj.dst x).rw=s.rw/\(St.put s oj.dst x).n=s.n:=by cases oj.dst<;>exact⟨rfl,rfl,rfl⟩
   refine(sd ei (Ei ei)).2 ⟨cN.2 hd,Mq, ?_⟩;rw[hs.1];refine(uC _ _ _).mono (λr hr=> ?_) (BG (λy hy=>(zy h3 y hy).symm) he);subst hr;have e2:(St.mk (St.put s oj.dst x).n (St.put s oj.dst x).sl aB (St.put s oj.dst x).rw)=St.put ⟨s.n,s.sl,aB,s.rw⟩ oj.dst x:=by cases oj.dst<;>rfl
   simp only[e2];rw[<-fin];exact hK
 have ahc:kindOf oj.op= .L->∀{aB:List Bx} {d:D},jZ P oj.op (cF s.sl) s.bx (λr=>r=(aB,d))->∃t,aB=s.bx++t:=λhl {aB d} he=>by
  unfold jZ at he;split at he
  ·obtain⟨zs,_,he⟩:=cM he;cases he;exact⟨_,rfl⟩
  ·cases he.2;exact⟨_,rfl⟩
  ·rename_i ho;rw[ho]at hl;cases hl
  ·rename_i ho;rw[ho]at hl;cases hl
  ·cases he;exact⟨_,rfl⟩
  ·rename_i ho;rw[ho]at hl;cases hl
  ·rename_i ho;rw[ho]at hl;cases hl
  ·exact he.elim
 have U5:kindOf oi.op= .A->∀{b b':List Bx} {k:D->Prop},jJ P ops.toList oi s.sl b s.rw k->jJ P ops.toList oi s.sl b' s.rw k:=λvi {b b' k} hh=>by
  unfold jJ at hh⊢;cases hg:oi.guard with
  |none=>rw[hg]at hh;exact G0 vi hh
  |some jw=>
   obtain⟨j,want⟩:=jw;rw[hg]at hh;simp only at hh⊢;cases fP:iu ops.toList j with
   |none=>rw[fP]at hh;exact hh
   |some t=>
    rw[fP]at hh;simp only[a_]at hh⊢;cases aM:s.sl t<;>rw[aM]at hh<;>simp only[wG]at hh⊢
    case skp=>exact hh
    rename_i b0;cases gS:b0 == want<;>rw[gS]at hh<;>simp only at hh⊢
    ·exact hh
    ·exact G0 vi hh
 have ag9:∀{b t:List Bx} {k:D->Prop},jJ P ops.toList oi s.sl b s.rw k->jJ P ops.toList oi s.sl (b++t) s.rw k:=λ{b t0 k} hh=>by
  unfold jJ at hh⊢;cases hg:oi.guard with
  |none=>rw[hg]at hh;exact Rt hh
  |some jw=>
   obtain⟨j,want⟩:=jw;rw[hg]at hh;simp only at hh⊢;cases fP:iu ops.toList j with
   |none=>rw[fP]at hh;exact hh
   |some t=>
    rw[fP]at hh;simp only[a_]at hh⊢;cases aM:s.sl t<;>rw[aM]at hh<;>simp only[wG]at hh⊢
    case skp=>exact hh
    rename_i b0;cases gS:b0 == want<;>rw[gS]at hh<;>simp only at hh⊢
    ·exact hh
    ·exact Rt hh
 cases ki:kindOf oi.op<;>cases kj:kindOf oj.op<;>rw[ki,kj]at hp<;>simp only[yH,Bool.false_eq_true]at hp
 ·exact key (.inl ki) (.inl kj)
 ·exact key (.inl ki) (.inr kj)
 ·exact Ls (.inl ki) (.inl kj) (λ_ hv=>U5 ki hv)
 ·exact Ls (.inl ki) (.inr kj) (λ_ hv=>U5 ki hv)
 ·exact key (.inr ki) (.inl kj)
 ·exact key (.inr ki) (.inr kj)
 ·exact Ls (.inr ki) (.inl kj) (λhe hv=>by obtain⟨t,rfl⟩:=ahc kj he;exact ag9 hv)
 ·exact SF (.inl ki) kj
 ·exact SF (.inr ki) kj
def qy (P:Program)(ops:Array Oper)(K:St->Prop):Nat->Array Bool->St->Prop
 |0,listed,s=>rq .any ops listed=[]/\K s
 |n + 1,listed,s=>(rq .any ops listed=[]->K s)/\∀i∈rq .any ops listed,∀o,ops[i]? =some o->eY P ops.toList o s λs'=>qy P ops K n (listed.setIfInBounds i true) s'
theorem qp {ops:List Oper}{o:Oper}{s:St}{K K':St->Prop}(hk:kindOf o.op≠ .X)(hg:kindOf o.op= .L\/kindOf o.op= .W->o.guard=none)(h:∀s,K s->K' s):eY P ops o s K->eY P ops o s K':=by
 intro hh;cases k:kindOf o.op with
 |X=>exact absurd k hk
 |A=>obtain⟨h1,h2⟩:=(ou (.inl k)).1 hh;exact(ou (.inl k)).2 ⟨h1,(k5 _ _ _ _ _).mono (λ_ h'=>h _ h') h2⟩
 |B=>obtain⟨h1,h2⟩:=(ou (.inr k)).1 hh;exact(ou (.inr k)).2 ⟨h1,(k5 _ _ _ _ _).mono (λ_ h'=>h _ h') h2⟩
 |L=>obtain⟨h1,h2,h3⟩:=(sd (.inl k) (hg (.inl k))).1 hh;exact(sd (.inl k) (hg (.inl k))).2 ⟨h1,h2,(uC _ _ _).mono (λ_ h'=>h _ h') h3⟩
 |W=>obtain⟨h1,h2,h3⟩:=(sd (.inr k) (hg (.inr k))).1 hh;exact(sd (.inr k) (hg (.inr k))).2 ⟨h1,h2,(uC _ _ _).mono (λ_ h'=>h _ h') h3⟩
def qS (ops:List Oper):Bool:=ops.all λo=>match kindOf o.op with
 | .X=>false
 | .L=>o.guard.isNone
 | .W=>o.guard.isNone
 |_=>true
def adA (o:Oper)(i:Nat)(rest:List Oper):Bool:=rest.all λp=>p.after.any (λe=>gV .any e&&e.on == i)||yH (kindOf o.op) (kindOf p.op)
def Dh:Nat->List Oper->Bool
 |_,[]=>true
 |i,o::rest=>adA o i rest&&Dh (i + 1) rest
theorem p_ {ops:Array Oper}(h:qS ops.toList=true){i:Nat}{o:Oper}(ho:ops[i]? =some o):kindOf o.op≠ .X/\(kindOf o.op= .L\/kindOf o.op= .W->o.guard=none):=by
 have hm:o∈ops.toList:=by simpa using Array.mem_of_getElem? ho
 have:=iD.1 h o hm;cases k:kindOf o.op<;>rw[k]at this<;>simp at this⊢<;>exact this
theorem ak8 {ops:Array Oper}{K:St->Prop}(hk:qS ops.toList=true){i:Nat}{oi:Oper}(hi:ops[i]? =some oi):
  ∀(fuel:Nat) (listed:Array Bool) (s:St),
   (∀(j:Nat) (oj:Oper),ops[j]? =some oj->j≠i->listed.getD j true=false->(∀e∈oj.after,gV .any e=true->e.on≠i)->oi.apart ops oj=true/\yH (kindOf oi.op) (kindOf oj.op)=true)->
   i∈rq .any ops listed->eY P ops.toList oi s (λs'=>qy P ops K fuel (listed.setIfInBounds i true) s')->qy P ops K (fuel + 1) listed s:=by
 intro fuel;induction fuel with
 |zero=>
  intro listed s _ hr H;refine⟨λh=>(by rw[h]at hr;cases hr),λj hj oj jq=> ?_⟩;by_cases bF:j=i
  ·subst bF;rw[hi]at jq;cases jq;exact H
  ·
   have ui:=ready_mono hj bF;have hm:=p_ hk hi;exfalso;have:∃s',qy P ops K 0 (listed.setIfInBounds i true) s':=by
    cases k:kindOf oi.op with
    |X=>exact absurd k hm.1
    |A=>obtain⟨_,h2⟩:=(ou (.inl k)).1 H;obtain⟨d,_,h3⟩:=(k5 _ _ _ _ _).ex h2;exact⟨_,h3⟩
    |B=>obtain⟨_,h2⟩:=(ou (.inr k)).1 H;obtain⟨d,_,h3⟩:=(k5 _ _ _ _ _).ex h2;exact⟨_,h3⟩
    |L=>obtain⟨_,_,h2⟩:=(sd (.inl k) (hm.2 (.inl k))).1 H;obtain⟨d,_,h3⟩:=(uC _ _ _).ex h2;exact⟨_,h3⟩
    |W=>obtain⟨_,_,h2⟩:=(sd (.inr k) (hm.2 (.inr k))).1 H;obtain⟨d,_,h3⟩:=(uC _ _ _).ex h2;exact⟨_,h3⟩
   obtain⟨s',h1,_⟩:=this;rw[h1]at ui;cases ui
 |succ fuel ih=>
  intro listed s Ek hr H;refine⟨λh=>(by rw[h]at hr;cases hr),λj hj oj jq=> ?_⟩;by_cases bF:j=i
  ·subst bF;rw[hi]at jq;cases jq;exact H
  ·obtain⟨Ed,oj',DZ,dw⟩:=mem_ready.1 hj;rw[jq]at DZ;cases DZ
   have A8:∀e∈oj.after,gV .any e=true->e.on≠i:=λe he hb heq=>by
    have h1:=dw e he hb;have h0:=(mem_ready.1 hr).1;rw[heq]at h1;rcases ft i listed.size with h'|h'
    ·simp[h']at h0 h1;rw[h0]at h1;cases h1
    ·simp[Array.getElem?_eq_none h']at h1
   obtain⟨ra,pv⟩:=Ek j oj jq bF Ed A8;have sW:=p_ hk hi;have vp:=p_ hk jq;have h1:eY P ops.toList oi s λs1=>eY P ops.toList oj s1 λs2=>qy P ops K fuel ((listed.setIfInBounds i true).setIfInBounds j true) s2:=
    qp sW.1 sW.2 (λs1 mi=>mi.2 j (ready_mono hj bF) oj jq) H
   have h2:=swap ra pv sW.2 vp.2 h1;have Mn:∀(k:Nat) (ok:Oper),ops[k]? =some ok->k≠i->(listed.setIfInBounds j true).getD k true=false->
     (∀e∈ok.after,gV .any e=true->e.on≠i)->oi.apart ops ok=true/\yH (kindOf oi.op) (kindOf ok.op)=true:=λk ok hk ze jD ga=>by
    refine Ek k ok hk ze ?_ ga;by_cases q7:j=k
    ·subst q7;exact Ed
    ·rw[getD_set_ne true q7]at jD;exact jD
   refine qp vp.1 vp.2 (λs1 h3=>ih (listed.setIfInBounds j true) s1 Mn (ready_mono hr (Ne.symm bF)) ?_) h2;rw[Array.setIfInBounds_comm _ _ bF];exact h3
theorem Nj {ops:List Oper}{o:Oper}{l:List Oper}{s:St}{K:St->Prop}(h:bZ P ops (o::l) s K):eY P ops o s λs'=>bZ P ops l s' K:=by
 unfold bZ at h;unfold eY;cases hg:o.guard with
 |none=>rw[hg]at h;exact h
 |some jw=>
  obtain⟨j,want⟩:=jw;rw[hg]at h;simp only at h⊢;cases fP:iu ops j with
  |none=>rw[fP]at h;exact h
  |some t=>
   rw[fP]at h;simp only[a_]at h⊢;cases aM:s.sl t<;>rw[aM]at h<;>simp only[wG]at h⊢
   case skp=>exact h
   rename_i b;cases gS:b == want with
   |true=>
    have e:b=want:=by simpa using gS
    subst e;have:=h.1 rfl;rw[rH aM]at this;exact this
   |false=>
    have bz:b= !want:=by cases b<;>cases want<;>simp_all
    have h2:=h.2 bz;rw[<-bz,rH aM]at h2;exact h2
theorem Rl:∀(l:List Oper) (i:Nat),Dh i l=true->∀(a b:Nat) (oa ob:Oper),a < b->l[a]? =some oa->l[b]? =some ob->
  (∀e∈ob.after,gV .any e=true->e.on≠i + a)->yH (kindOf oa.op) (kindOf ob.op)=true
 |[],i,_,a,b,oa,ob,_,ha,_,_=>by simp at ha
 |o::l,i,h,a,b,oa,ob,hab,ha,hb,ga=>by
  simp only[Dh,c_]at h;obtain⟨b,rfl⟩:∃b',b=b' + 1:=⟨b - 1,ae⟩;cases a with
  |zero=>
   simp at ha;subst ha
   have hm:ob∈l:=List.mem_of_getElem? (by simpa using hb);have:=iD.1 h.1 ob hm;simp only[Bool.or_eq_true,Array.any_eq_true',c_,beq_iff_eq]at this;rcases this with⟨e,he,h1,h2⟩|h
   ·exact absurd h2 (ga e he h1)
   ·exact h
  |succ a=>
   exact Rl l (i + 1) h.2 a b oa ob ae (by simpa using ha) (by simpa using hb) (λe he cr=>by have:=ga e he cr;omega)
theorem WN {ops:Array Oper}{K:St->Prop}(hk:qS ops.toList=true)(hp:Dh 0 ops.toList=true):∀(l:List Oper) (k:Nat) (listed:Array Bool) (s:St),(∀j,l[j]? =ops[k + j]?)->
  (∀j,j < k->listed.getD j true=true)->Fo .any ops l.length k listed=true->bZ P ops.toList l s K->qy P ops K l.length listed s
 |[],_,_,_,_,_,hB,h=>⟨by simpa[Fo]using hB,h⟩
 |o::l,k,listed,s,hl,aG,hB,h=>by
  have h0:ops[k]? =some o:=by simpa using(hl 0).symm
  simp only[lV,Fo,c_]at hB;obtain⟨⟨hr,hf⟩,rb⟩:=hB;have hm:=p_ hk h0;refine ak8 hk h0 l.length listed s (λj oj hj q7 jD ga=>⟨Region.free_spec h0 hf j oj hj q7 jD ga, ?_⟩) (by simpa using hr)
   (qp hm.1 hm.2 (λs' mj=>WN hk hp l (k + 1) _ s' (λj=>by have:=hl (j + 1);simpa[Nat.add_assoc,Nat.add_comm 1 j]using this) (λj hj=> ?_) rb mj) (Nj h))
  ·have jH:k < j:=by
    rcases Nat.lt_trichotomy j k with h1|h1|h1
    ·rw[aG j h1]at jD;cases jD
    ·exact absurd h1 q7
    ·exact h1
   exact Rl ops.toList 0 hp k j o oj jH (by simpa using h0) (by simpa using hj) (by simpa using ga)
  ·by_cases h1:k=j
   ·subst h1;by_cases hs:k < listed.size
    ·simp[hs]
    ·simp[hs]
   ·rw[getD_set_ne true h1];exact aG j ae
theorem ag_ {c:Ctx}{s:St}{a:Act}{w:World}{g:Gh}{ops:Array Oper}{o:Oper}{K:St->Prop}{N:Act->World->Prop}{Q:Exit->Act->World->Prop}(hg:RG c s a w g)(hN:∀s a w,R c s a w->K s->N a w)
  (h:eY c.P ops.toList o s K):if eh o (yielded ops a.tmps)then o.wpIn c.F 0 c.P a w N Q else(∀f,o.about c.P w a.eval=some f->c.F.fn f)/\N (a.put o.dst undef) w:=by
 have next:cZ c.P o s K->o.wpIn c.F 0 c.P a w N Q:=λaM=>gK (wE aM) (Cg (λa' w' ⟨s',cW,fW⟩=>hN s' a' w' cW fW) (uY hg aM))
 unfold eY at h;split at h
 ·rename_i cP;rw[if_pos (by simp[eh,cP])];exact next h
 ·rename_i j want cP;obtain⟨t,ht,h2⟩:=cM h;clear h;cases hb:s.sl t<;>rw[hb]at h2<;>simp only[wG]at h2
  case skp=>
   have hy:=R.AI hg ht hb;rw[if_neg (by simp[eh,cP,hy])];exact⟨λ_ _=>trivial,hN _ _ _ ⟨g,hg.put h2.1 (.skp _)⟩ h2.2⟩
  rename_i b;have hy:=R.yielded hg ht hb;cases gS:b == want with
  |true=>
   rw[gS]at h2;have e:b=want:=by simpa using gS
   rw[if_pos (by simp[eh,cP,hy,e])];exact next h2
  |false=>
   rw[gS]at h2;have bz:b≠want:=by simpa using gS
   rw[if_neg (by simp[eh,cP,hy,bz])];exact⟨λ_ _=>trivial,hN _ _ _ ⟨g,hg.put h2.1 (.skp _)⟩ h2.2⟩
theorem IU {c:Ctx}{ops:Array Oper}{K:St->Prop}{Q:Exit->Act->World->Prop}(hQ:∀s a w,R c s a w->K s->Q .normal a w):∀(fuel:Nat) (listed:Array Bool) (s:St) (a:Act) (w:World),R c s a w->
  qy c.P ops K fuel listed s->wpAnyIn c.F 0 c.P .any ops Q fuel listed a w
 |0,_,s,a,w,hr,h=>⟨h.1,hQ s a w hr h.2⟩
 |fuel + 1,listed,s,a,w,hr,h=>by
  refine⟨λh0=>hQ s a w hr (h.1 h0),λi hi=> ?_⟩;obtain⟨g,hg⟩:=hr;unfold wpOpIn;cases ho:ops[i]? with
  |none=>
   obtain⟨_,o,TL,_⟩:=mem_ready.1 hi;rw[ho]at TL;cases TL
  |some o=>
   exact ag_ hg (λs' a' w' cW fW=>IU hQ fuel _ s' a' w' cW fW) (h.2 i hi o ho)
theorem RG.BH {c:Ctx}{s:St}{a:Act}{w:World}(h:R c s a w):R c s a {w with drawn:=w.drawn + 1}:=by
 obtain⟨g,h⟩:=h;exact⟨_,h.world (w':={w with drawn:=w.drawn + 1}) (S':=g.S) ⟨rfl,rfl,rfl,aY _,λ_ _=>rfl⟩ (λ_ h=>h) (λ_ h=> .inl h) h.ba⟩
theorem mG {c:Ctx}{id:Nat}{l:List Oper}{Q:Exit->St->Prop}{s:St}(hm:c.P.follows .mixedOrders=true)(hB:(Region.lexB .any l.toArray&&qS l&&Dh 0 l)=true)
  (h:∀K:St->Prop,(∀s',Q .normal s'->K s')->bZ c.P l l s K):av c (.region id l.toArray true) Q s:=by
 intro a w hr;simp only[c_,Region.lexB]at hB;obtain⟨⟨⟨_,hl⟩,hk⟩,hp⟩:=hB;refine wpIn_region_any hm (IU (K:=Q .normal) (λs a w hr hq=>⟨s,hr,hq⟩) _ _ s _ _ (RG.BH hr) ?_);have:=WN (P:=c.P) (ops:=l.toArray) (K:=Q .normal) (by simpa using hk) (by simpa using hp) l 0 (gW l.length false) s aO aO (by simpa using hl) (h _ (λ_ h=>h));simpa using this
end
end Go.Ab
end
section
namespace Go.Ab
theorem aj {p q:Prop}(k:q)(h:p=q:=by simp -implicitDefEqProofs only[go_sem,j5,aU,Nat.reduceAdd,Nat.reduceSub,Nat.reduceMul,Nat.reduceLT,Nat.reduceLeDiff,Nat.reduceEqDiff,Nat.reduceBEq,Int.reduceLT,Int.reduceLE,Int.reduceToNat,Int.reduceAdd,Int.reduceSub,Int.reduceMul,Int.reduceNeg,Int.reduceEq,reduceCtorEq,eq_self,ne_eq,not_false_eq_true,if_true,reduceIte]<;>rfl):p:=h.symm▸k
theorem aa_ {p q:Prop}(k:q)(h:p=q:=by simp -implicitDefEqProofs only[go_sem,j5,aU,Nat.reduceAdd,Nat.reduceSub,Nat.reduceMul,Nat.reduceLT,Nat.reduceLeDiff,Nat.reduceEqDiff,Nat.reduceBEq,Int.reduceLT,Int.reduceLE,Int.reduceToNat,Int.reduceAdd,Int.reduceSub,Int.reduceMul,Int.reduceNeg,Int.reduceEq,reduceCtorEq,eq_self,ne_eq,not_false_eq_true,if_true,reduceIte,hX]<;>rfl):p:=h.symm▸k
theorem nG {p q:Prop}(k:q)(h:p=q:=by simp only[go_sem,j5,aU,Nat.reduceAdd,Nat.reduceSub,Nat.reduceMul,Nat.reduceLT,Nat.reduceLeDiff,Nat.reduceEqDiff,Nat.reduceBEq,Int.reduceLT,Int.reduceLE,Int.reduceToNat,Int.reduceAdd,Int.reduceSub,Int.reduceMul,Int.reduceNeg,Int.reduceEq,reduceCtorEq,eq_self,ne_eq,not_false_eq_true,if_true,reduceIte]<;>rfl):p:=h.symm▸k
theorem aa9 {p q:Prop}(k:q)(h:p=q:=by simp only[go_sem,j5,aU,Nat.reduceAdd,Nat.reduceSub,Nat.reduceMul,Nat.reduceLT,Nat.reduceLeDiff,Nat.reduceEqDiff,Nat.reduceBEq,Int.reduceLT,Int.reduceLE,Int.reduceToNat,Int.reduceAdd,Int.reduceSub,Int.reduceMul,Int.reduceNeg,Int.reduceEq,reduceCtorEq,eq_self,ne_eq,not_false_eq_true,if_true,reduceIte,hX]<;>rfl):p:=h.symm▸k
theorem fin {p:Prop}(h:p:=by first|with_reducible rfl|exact trivial|(clear hK;omega)|omega):p:=h
theorem ai {p:Prop}(h:False:=by first|omega|contradiction):p:=h.elim
end Go.Ab
end
