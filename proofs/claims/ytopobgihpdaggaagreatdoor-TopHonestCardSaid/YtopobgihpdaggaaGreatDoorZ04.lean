import Derived.Test.YtopobgihpdaggaaGreatDoorZ03
set_option linter.unusedVariables false
set_option linter.unusedSimpArgs false
open Array renaming getD_eq_getD_getElem?->lL,mem_singleton->ag8,replicate->kq
open Bool renaming and_eq_true->dZ
open Go.Call renaming operands->sA
open Go renaming undef->bH
open Iff renaming rfl->lK
open List renaming all_eq_true->ic,ext_getElem->IZ,getElem?_append_left->cZ,getElem?_eq_getElem->cX,getElem?_eq_none->qd,getElem?_eq_some_iff->bm,getElem?_map->dO,length_cons->mH,map_congr_left->re,mem_append->gY,mem_cons_of_mem->fE,mem_cons_self->ey,nodup_cons->tY,range->dB
open Nat renaming le_refl->cx,lt_or_ge->fL
open Go.Op renaming operands->fi
open Go.Oper renaming wp->fC,wp_mono->zG
open Option renaming map_eq_some_iff->cS,map_some->eW
open Go.Region renaming binds->eF,lexB->Cg,lexFrom->vq,ready->kO,wanted->d_
section
namespace Go.Ab
open Go.RowKit
theorem OZ {w:World}{g:Gh}{v:Value}{d:D}{r:Nat}(h:Rel w g v d):g.ρ.length<=r->d.oL r=false:=by
 have key:∀(vs:Nat->Value) (cs:List D),(∀(q:Nat) (d:D),cs[q]? =some d->d.oL r=false)->pE r cs=false:=by
  intro vs cs;induction cs with
  |nil=>intro _;rfl
  |cons d cs ih=>
   intro h;simp only[pE,Bool.or_eq_false_iff];exact⟨h 0 d rfl,ih (λq d hd=>h (q + 1) d (by simpa using hd))⟩
 induction h with
 |own g r' v h=>
  intro hr;have:=(bm.1 h).1;simp only[D.oL,beq_eq_false_iff_ne,ne_eq];omega
 |agg g vs cs hl h1 hr ih=>intro h;exact key (λ_=>bH) cs (λq d hd=>ih q d hd h)
 |aQ g vs cs hl hr ih=>intro h;exact key (λ_=>bH) cs (λq d hd=>ih q d hd h)
 |aD g f vs cs hl hr ih=>intro h;exact key (λ_=>bH) cs (λq d hd=>ih q d hd h)
 |dq g f vs cs hl hr ih=>intro h;exact key (λ_=>bH) cs (λq d hd=>ih q d hd h)
 |_=>intro _;rfl
def qk (P:Program)(s:St)(dst:Option Tmp)(t:TypeId)(dx dy:D)(K:St->Prop):Prop:=
 bn (elemOf P t) λe=>aJ P e≠0/\(bX P e).isSome=true/\lM s.rw dy λys=>(∀y∈ys,y.cells.length=aJ P e)/\
  match dx with
  | .own r=>bn s.rw[r]? λrow=>row.live=true/\row.e=e/\row.sz=aJ P e/\row.xs.length + ys.length<=9223372036854775807/\
    (row.xs.length + ys.length) * bytesOf P e<=140737488355328/\K ((s.appended r ⟨true,e,aJ P e,row.xs++ys⟩).put dst (.own r))
  | .val (.slice none 0 0)=>ys.length<=9223372036854775807/\ys.length * bytesOf P e<=140737488355328/\
    K (St.put {s with rw:=s.rw++[⟨true,e,aJ P e,ys⟩]} dst (.own s.rw.length))
  |_=>False
def uj (P:Program)(t:TypeId)(x ix:D)(k:D->Prop):Prop:=match x with
 | .str s=>jX P t=true/\jx ix λ_ n=>0<=n/\∃hl:n.toNat < s.size,k (.int .u8 (s[n.toNat]'hl).toNat)
 |_=>yd P t x ix k
def ui (d:D)(k:D->Prop):Prop:=match d with| .box i off=>k (.box i off)| .ro cs=>k (.ro cs)|_=>False
def xb (P:Program)(t:TypeId):Bool:=match P.underlying t with|some (.interface _)=>false|some _=>true|none=>false
def lT (P:Program)(o:Op)(ρ:Operand->D)(rw:List Row)(k:D->Prop):Prop:=match o with
 | .move x=>k (ρ x)
 | .assign x=>k (ρ x)
 | .pick c a b=>lg (ρ c) λt=>k (C5 t (ρ a) (ρ b))
 | .binOp op xt x y _=>um P xt op (ρ x) (ρ y) k
 | .unOp op _ x=>uh op (ρ x) k
 | .nilCheck x=>ui (ρ x) k
 | .makeInterface t _=>xb P t=true/\k .any
 | .convert s t x=>rr P s t (ρ x) k
 | .extract x i=>rn (ρ x) λds=>bn ds[i]? k
 | .fieldAddr s x f=>bn (bq P s f) λot=>py (ρ x) ot.1 k
 | .field s x f=>uk P s (ρ x) f k
 | .indexAddr t x ix=>sI P rw t (ρ x) (ρ ix) k
 | .index t x ix=>uj P t (ρ x) (ρ ix) k
 | .makeFunc (.func f) ⟨[]⟩ cap=>k (.aD f (cap.toList.map ρ))
 | .makeFunc (.func f) ⟨x::fs⟩ ⟨[]⟩=>k (.dq f ((x::fs).map ρ))
 | .slice t x lo hi none=>sE P t (ρ x) (lo.map ρ) (hi.map ρ) k
 | .build t ps=>bn (bX P t) λzs=>bn (eP P t) λplace=>bn (qX place zs (ps.toList.map λp=>(p.1,ρ p.2))) λcs=>k (.agg cs)
 | .call ⟨.builtin .len,⟨[x]⟩,⟨[t]⟩⟩=>sH P t rw (ρ x) k
 | .call ⟨.builtin .max,⟨[x,y]⟩,_⟩=>iI (ρ x) (ρ y) λq n m=>k (.int q (max n m))
 | .call ⟨.builtin .min,⟨[x,y]⟩,_⟩=>iI (ρ x) (ρ y) λq n m=>k (.int q (min n m))
 |_=>False
def ez (P:Program)(o:Op)(ρ:Operand->D)(bx:List Bx)(rw:List Row)(k:D->Prop):Prop:=match o with
 | .load t x=>jW P bx t (ρ x) k
 | .lookup t x y ok=>sG P bx t (ρ x) (ρ y) ok k
 | .buildSlice t n ps=>bn (elemOf P t) λe=>aJ P e≠0/\n * aJ P e<=16777216/\(bX P e).isSome=true/\ps.toList.map (·.1)=dB n/\
   bn (gJ bx rw (ps.toList.map λp=>ρ p.2)) λds=>(∀d∈ds,d.cells.length=aJ P e/\d.cells.all D.one=true)/\k (.list ds)
 | .call ⟨.value fx,xs,_⟩=>lN (ρ fx) λf fs cs=>bn (gJ bx rw (fs++xs.toList.map ρ++cs)) λds=>dI P f ds k
 |o=>lT P o ρ rw k
def c_ (P:Program)(o:Oper)(s:St)(K:St->Prop):Prop:=match o.op with
 | .alloc t=>bp s o.dst/\bn (bX P t) λzs=>K (St.put {s with bx:=s.bx++[.mu zs]} o.dst (.box s.bx.length 0))
 | .box _ x=>bp s o.dst/\(s.ev x).cells.all D.one=true/\K (St.put {s with bx:=s.bx++[.mu (s.ev x).cells]} o.dst (.box s.bx.length 0))
 | .store t x y=>o.dst=none/\qj P s t (s.ev x) (s.ev y) K
 | .call ⟨.builtin .append,⟨[x,y]⟩,⟨[t,t']⟩⟩=>bp s o.dst/\t'=t/\qk P s o.dst t (s.ev x) (s.ev y) K
 | .call ⟨.builtin .copy,⟨[x,y]⟩,⟨[t,_]⟩⟩=>bp s o.dst/\CE P s o.dst t (s.ev x) (s.ev y) K
 | .makeSlice t x y=>bp s o.dst/\CB P s o.dst t (s.ev x) (s.ev y) K
 | .mapUpdate t x y z=>o.dst=none/\rm P s.bx t (s.ev x) (s.ev y) (s.ev z) λr=>K {s with bx:=r.1}
 | .insert t x y z=>o.dst=none/\rm P s.bx t (s.ev x) (s.ev y) (s.ev z) λr=>K {s with bx:=r.1}
 | .makeMap _ none=>bp s o.dst/\K (St.put {s with bx:=s.bx++[.mp []]} o.dst (.bz s.bx.length))
 |op=>bp s o.dst/\ez P op s.ev s.bx s.rw λd=>K (s.put o.dst d)
section
variable {c:Ctx} {s:St} {a:Act} {w:World} {g:Gh}
theorem FM {r:Nat}{d:D}(h:d.oL r=false):gI r d=d:=by unfold gI;rw[h]
theorem Xq {o:Oper}{x y:Operand}{t:TypeId}{K:St->Prop}{Q:Exit->Act->World->Prop}(h:RG c s a w g)
  (ho:o.op= .call {callee:= .builtin .append,args:=#[x,y],argTypes:=#[t,t]})(hd:bp s o.dst)(hk:qk c.P s o.dst t (s.ev x) (s.ev y) K):
  o.wp c.P a w (λa' w'=>∃s',R c s' a' w'/\K s') Q:=by
 obtain⟨e,he,hz,lv,hk⟩:=cE hk;have⟨ys,hy,j7,hk⟩:=z6 h.mem (h.ev y) hk;split at hk
 ·rename_i r hx;obtain⟨row,qK,hl,iq,bo,kK,hb,hk⟩:=cE hk;subst iq;have eg:=h.ev x;rw[hx]at eg;generalize A4:a.eval x=vx at eg;cases eg with
  |own _ _ _ hv=>
   obtain⟨v',w',g',bg,hr,hρ⟩:=h.append (t:=t) (ty:=o.type) qK hl hv hy he bo.symm hz lv (by rw[bo];exact j7) kK hb;have hex:(execOp a.eval o).run c.P w= .ok (.value v') w':=by
    simp[execOp,ho,resolve,invoke,builtin,A4,bg]
   unfold fC;rw[hex];rw[bo]at hr;exact⟨_,⟨g',hr.put hd (.own _ _ _ hρ)⟩,hk⟩
 ·rename_i hx;obtain⟨kK,hb,hk⟩:=hk;have eg:=h.ev x;rw[hx]at eg;generalize hv:a.eval x=vx at eg;cases eg;have hp:=h.yp e (aJ c.P e);have oT:(s.rw++[⟨true,e,aJ c.P e,[]⟩])[s.rw.length]? =some ⟨true,e,aJ c.P e,[]⟩:=by simp
  have abg:(g.ρ++[Value.slice none 0 0])[s.rw.length]? =some (.slice none 0 0):=by rw[<-h.lρ];simp
  have ky:ep w g w ⟨g.S,g.β,g.ρ++[.slice none 0 0],g.M⟩:=⟨λ_ _=>rfl,λ_ h=>h,λ_ _ h=>h,λi b hi=>by
   rw[cZ (bm.1 hi).1];exact hi,λ_ _ h=>h⟩
  obtain⟨v',w',g',bg,hr,hρ⟩:=hp.append (t:=t) (ty:=o.type) oT rfl abg (hy.bb ky) he rfl hz lv j7 (by simpa using kK) (by simpa using hb);have hex:(execOp a.eval o).run c.P w= .ok (.value v') w':=by
   simp[execOp,ho,resolve,invoke,builtin,hv,bg]
  have e1:(λn=>gI s.rw.length (s.sl n))=s.sl:=funext λn=>FM (OZ (h.sl n) (by rw[h.lρ];exact cx _));have e2:s.bx.map (iT s.rw.length)=s.bx:=by
   apply IZ
   ·simp
   ·intro i h1 h2;simp only[List.getElem_map];cases kc:s.bx[i]with
    |mu cs=>
     obtain⟨b,vs,tb,f1,f2,f3,_⟩:=(h.bx i cs (by rw[cX h2,kc])).ex;have f3:fF w g vs cs:=f3;simp only[iT]
     congr 1
     apply IZ
     ·simp
     ·intro q h1 h2;simp only[List.getElem_map];exact FM (OZ (f3.2 q _ (cX h2)).1 (by rw[h.lρ];exact cx _))
    |fz cs=>rfl
    |mp es=>rfl
    |dead=>rfl
  have e3:St.appended {s with rw:=s.rw++[⟨true,e,aJ c.P e,[]⟩]} s.rw.length ⟨true,e,aJ c.P e,[]++ys⟩={s with rw:=s.rw++[⟨true,e,aJ c.P e,ys⟩]}:=by
   simp only[St.appended,e1,e2,List.nil_append];simp
  rw[e3]at hr;unfold fC;rw[hex];exact⟨_,⟨g',hr.put hd (.own _ _ _ hρ)⟩,hk⟩
 ·exact hk.elim
theorem Zl {o:Oper}{k:D->Prop}(h:RG c s a w g)(hk:lT c.P o.op s.ev s.rw k):Yields c.P o a w g k:=by
 unfold lT at hk;split at hk
 ·exact Jd (.inl ‹_›) (h.ev _) hk
 ·exact Jd (.inr ‹_›) (h.ev _) hk
 ·exact Ty ‹_› (h.ev _) (h.ev _) (h.ev _) hk
 ·exact TP ‹_› (h.ev _) (h.ev _) hk
 ·exact Tw ‹_› (h.ev _) hk
 ·rename_i x ho;have hx:=h.ev x;cases hs:s.ev x<;>rw[hs]at hx hk<;>simp only[ui]at hk
  ·generalize hv:a.eval x=v at hx;cases hx with
   |box _ _ _ b hb=>exact⟨_,_,by simp[execOp,ho,hv], .box _ _ _ b hb,hk⟩
  ·have hx':=hx;obtain⟨ad,u,hv,_⟩:=hx.Aq;exact⟨_,_,by simp only[execOp,ho];rw[hv];simp,hv▸hx',hk⟩
 ·rename_i t x ho;obtain⟨hc,hk⟩:=hk;refine⟨.iface t (a.eval x),_, ?_, .any _ _ rfl,hk⟩;unfold xb at hc;split at hc
  ·cases hc
  ·rename_i d hn hd;have tg:∀i,d≠ .interface i:=hn;cases d<;>first|(exact absurd rfl (tg _))|simp[execOp,ho,Instr.makeInterface,run_underlying hd]
  ·cases hc
 ·exact TN ‹_› (h.ev _) hk
 ·exact TM ‹_› (h.ev _) hk
 ·exact TK ‹_› (h.ev _) hk
 ·exact TL ‹_› (h.ev _) hk
 ·exact TH ‹_› (h.ev _) (h.ev _) h.mem hk
 ·rename_i t x ix ho;have hx:=h.ev x;unfold uj at hk;split at hk
  ·rename_i sb hs;obtain⟨bD,hk⟩:=hk;obtain⟨q,n,hn,hd,h0,hl,hk⟩:=mL (h.ev ix) hk;rw[hs]at hx;have hi:=h.ev ix;rw[hd]at hi;exact TG ho hx hi bD h0 hl hk
  ·exact TJ ho hx (h.ev ix) hk
 ·exact TC ‹_› h.ev hk
 ·exact TB ‹_› h.ev hk
 ·exact Tx ‹_› h.ev hk
 ·exact TO h ‹_› hk
 ·exact TF ‹_› (h.ev _) h.mem hk
 ·exact TA ‹_› (h.ev _) (h.ev _) hk
 ·exact Tz ‹_› (h.ev _) (h.ev _) hk
 ·exact hk.elim
theorem Zk {o:Oper}{K:St->Prop}{Q:Exit->Act->World->Prop}(h:RG c s a w g)(hd:bp s o.dst)(hk:ez c.P o.op s.ev s.bx s.rw λd=>K (s.put o.dst d)):
  o.wp c.P a w (λa' w'=>∃s',R c s' a' w'/\K s') Q:=by
 unfold ez at hk;split at hk
 ·exact FD h hd (TE ‹_› (h.ev _) h.mem hk)
 ·exact FD h hd (TD h ‹_› (h.ev _) (h.ev _) hk)
 ·exact Xo h ‹_› hd hk
 ·rename_i fx xs at_ ho;refine Xn ho h hd ?_;revert hk;unfold lN;split
  ·intro hk;obtain⟨ds,hp,hk⟩:=cE hk;exact⟨ds,hp,hk⟩
  ·intro hk;obtain⟨ds,hp,hk⟩:=cE hk;exact⟨ds,hp,hk⟩
  ·exact λh=>h.elim
 ·exact FD h hd (Zl h hk)
theorem ru {o:Oper}{K:St->Prop}{Q:Exit->Act->World->Prop}(h:RG c s a w g)(hk:c_ c.P o s K):o.wp c.P a w (λa' w'=>∃s',R c s' a' w'/\K s') Q:=by
 unfold c_ at hk;split at hk
 ·exact Xr h ‹_› hk.1 hk.2
 ·exact Xp h ‹_› hk.1 hk.2
 ·exact Xf h ‹_› hk.1 hk.2
 ·obtain⟨h1,h2,h3⟩:=hk;subst h2;exact Xq h ‹_› h1 h3
 ·exact Xm h ‹_› hk.1 hk.2
 ·exact Xh h ‹_› hk.1 hk.2
 ·exact NC h (.inl ‹_›) hk.1 hk.2
 ·exact NC h (.inr ‹_›) hk.1 hk.2
 ·exact Xi h ‹_› hk.1 hk.2
 ·exact Zk h hk.1 hk.2
def wG (d:D)(no:Prop)(k:Bool->Prop):Prop:=match d with| .bool b=>k b| .skp=>no|_=>False
def iD (ops:List Oper)(j:Nat):Option Tmp:=(ops[j]?).bind (·.dst)
def cq (P:Program)(ops:List Oper):List Oper->St->(St->Prop)->Prop
 |[],s,K=>K s
 |o::rest,s,K=>match o.guard with
  |none=>c_ P o s λs'=>cq P ops rest s' K
  |some (j,want)=>bn (iD ops j) λt=>wG (s.sl t) (bp s o.dst/\cq P ops rest (s.put o.dst .skp) K) λb=>
    (b=want->c_ P o (s.put (some t) (.bool want)) λs'=>cq P ops rest s' K)/\
    (b= !want->bp s o.dst/\cq P ops rest ((s.put (some t) (.bool (!want))).put o.dst .skp) K)
theorem nL {t:Nat}{d:D}(hs:s.sl t=d):s.put (some t) d=s:=by
 have:Ab.put s.sl t d=s.sl:=funext λm=>by
  simp only[Ab.put];split
  ·rename_i hm;rw[hm,hs]
  ·rfl
 simp[St.put,this]
theorem R.yielded {ops:Array Oper}{j t:Nat}{b:Bool}(h:RG c s a w g)(hg:iD ops.toList j=some t)(hb:s.sl t= .bool b):yielded ops a.tmps j=some b:=by
 have me:(ops[j]?).bind (·.dst)=some t:=by simpa[iD]using hg
 have hr:=h.sl t;rw[hb]at hr;have hv:=hr.asBool;unfold Go.yielded;rw[me];have:a.tmps[t]? =some (.bool b):=by
  rw[lL]at hv;cases hx:a.tmps[t]? with
  |none=>rw[hx]at hv;simp[bH]at hv
  |some v=>rw[hx]at hv;simp at hv;rw[hv]
 simp[this]
theorem R.v7 {ops:Array Oper}{j t:Nat}(h:RG c s a w g)(hg:iD ops.toList j=some t)(hb:s.sl t= .skp):Go.yielded ops a.tmps j=none:=by
 have me:(ops[j]?).bind (·.dst)=some t:=by simpa[iD]using hg
 have hr:=h.sl t;rw[hb]at hr;unfold Go.yielded;rw[me];generalize hv:a.tmps.getD t bH=v at hr;cases hr;rw[lL]at hv;cases hx:a.tmps[t]? with
 |none=>simp[hx]
 |some v=>rw[hx]at hv;simp at hv;rw[Option.bind_some,hx,hv];rfl
theorem sL {o:Oper}{K:St->Prop}{P:Program}(h:c_ P o s K):∀cl,o.op≠ .defer cl:=by
 obtain⟨dst,op,ty,pos,aft,gd⟩:=o;rintro cl rfl;exact h.2.elim
theorem gK {o:Oper}{N:Act->World->Prop}{Q:Exit->Act->World->Prop}(hd:∀cl,o.op≠ .defer cl)(h:o.wp c.P a w N Q):o.wpIn c.F 0 c.P a w N Q:=by
 refine⟨λ_ _=>trivial, ?_⟩;rw[Oper.semAt_eq _ _ _ hd];unfold fC at h;generalize(execOp a.eval o).run c.P w=r at h⊢;have hn:c.F.depth.isSome=true->1<=0:=λh=>by cases h
 cases r with
 |ok x w'=>
  cases x with
  |value v=>exact h
  |skip=>exact h
  |defer d=>exact h
  |enter f args=>exact⟨hn,callsIn_wide.2 h⟩
  |row r args=>
   refine⟨hn,λc' cs _=> ?_⟩;obtain⟨v,w2,h1,h2⟩:=h c' cs;exact⟨v,w2,h1,stepsIn_wide.2 h2⟩
  |_=>exact h.elim
 |halt x w'=>cases x<;>first|exact h|exact h.elim
theorem n9 {ops:Array Oper}{K:St->Prop}{Q:Exit->Act->World->Prop}(hK:∀s a w,R c s a w->K s->Q .normal a w):∀(l:List Oper) (s:St) (a:Act) (w:World),R c s a w->cq c.P ops.toList l s K->wpListIn c.F 0 c.P ops Q l a w
 |[],s,a,w,hr,h=>hK s a w hr h
 |o::l,s,a,w,hr,h=>by
  obtain⟨g,hg⟩:=hr;have next:∀{s1:St},c_ c.P o s1 (λs'=>cq c.P ops.toList l s' K)->s1=s->o.wpIn c.F 0 c.P a w (wpListIn c.F 0 c.P ops Q l) Q:=λbD e=>by
   subst e;refine gK (sL bD) ?_;exact zG (λa' w' ⟨s',cH,fS⟩=>n9 hK l s' a' w' cH fS) (ru hg bD)
  unfold cq at h;unfold wpListIn;split at h
  ·rename_i cK;rw[if_pos (by simp[d_,cK])];exact next h rfl
  ·rename_i j want cK;obtain⟨t,ht,h⟩:=cE h;cases hb:s.sl t<;>rw[hb]at h<;>simp only[wG]at h
   case skp=>
    have hy:=R.v7 hg ht hb;rw[if_neg (by simp[d_,cK,hy])];exact⟨λ_ _=>trivial,n9 hK l _ _ _ ⟨g,hg.put h.1 (.skp _)⟩ h.2⟩
   rename_i b;have hy:=R.yielded hg ht hb;by_cases e_:b=want
   ·subst e_;rw[if_pos (by simp[d_,cK,hy])];exact next (h.1 rfl) (nL hb)
   ·have nh:b= !want:=by cases b<;>cases want<;>simp_all
    rw[if_neg (by simp[d_,cK,hy,e_])];obtain⟨hd,h2⟩:=h.2 nh;rw[<-nh,nL hb]at h2;exact⟨λ_ _=>trivial,n9 hK l _ _ _ ⟨g,hg.put hd (.skp _)⟩ h2⟩
theorem mA {id:Nat}{l:List Oper}{Q:Exit->St->Prop}(h:∀K:St->Prop,(∀s',Q .normal s'->K s')->cq c.P l l s K):az c (.region id l.toArray false) Q s:=by
 intro a w hr;refine wpIn_region_lit (n9 (K:=Q .normal) (λs a w hr hq=>⟨s,hr,hq⟩) l s a w hr ?_);exact h _ (λ_ h=>h)
def lQ (P:Program)(o:Oper)(s:St)(K:St->Prop):Prop:=match o.op with
 | .lookup t x y true=>bp s o.dst/\vK P t (s.ev x) (s.ev y) λd=>K (s.put o.dst d)
 | .lookup t x y false=>bp s o.dst/\Fl P t (s.ev x) (s.ev y) λd=>K (s.put o.dst d)
 | .mapUpdate t x y z=>o.dst=none/\vJ P t (s.ev x) (s.ev y) (s.ev z) (K s)
 | .makeMap _ none=>bp s o.dst/\∃m:nE,m.tI=[]/\K (s.put o.dst (.eN m))
 |_=>c_ P o s K
theorem Wa {o:Oper}{K:St->Prop}{Q:Exit->Act->World->Prop}(h:RG c s a w g)(hk:lQ c.P o s K):o.wp c.P a w (λa' w'=>∃s',R c s' a' w'/\K s') Q:=by
 unfold lQ at hk;split at hk
 ·exact Xl h ‹_› hk.1 hk.2
 ·exact Xk h ‹_› hk.1 hk.2
 ·exact Xg h ‹_› hk.1 hk.2
 ·exact Xj h ‹_› hk.1 hk.2
 ·exact ru h hk
theorem Wb {o:Oper}{K:St->Prop}{P:Program}(h:lQ P o s K):∀cl,o.op≠ .defer cl:=by
 obtain⟨dst,op,ty,pos,aft,gd⟩:=o;rintro cl rfl;exact h.2.elim
def zj (P:Program):List Oper->St->(St->Prop)->Prop
 |[],s,K=>K s
 |o::rest,s,K=>o.guard=none/\lQ P o s λs'=>zj P rest s' K
theorem Q9 {ops:Array Oper}{K:St->Prop}{Q:Exit->Act->World->Prop}(hK:∀s a w,R c s a w->K s->Q .normal a w):∀(l:List Oper) (s:St) (a:Act) (w:World),R c s a w->zj c.P l s K->wpListIn c.F 0 c.P ops Q l a w
 |[],s,a,w,hr,h=>hK s a w hr h
 |o::l,s,a,w,hr,h=>by
  obtain⟨g,hg⟩:=hr;obtain⟨cK,h⟩:=h;unfold wpListIn;rw[if_pos (by simp[d_,cK])];refine gK (Wb h) ?_;exact zG (λa' w' ⟨s',cH,fS⟩=>Q9 hK l s' a' w' cH fS) (Wa hg h)
theorem Iw {id:Nat}{l:List Oper}{Q:Exit->St->Prop}(h:∀K:St->Prop,(∀s',Q .normal s'->K s')->zj c.P l s K):az c (.region id l.toArray false) Q s:=by
 intro a w hr;refine wpIn_region_lit (Q9 (K:=Q .normal) (λs a w hr hq=>⟨s,hr,hq⟩) l s a w hr ?_);exact h _ (λ_ h=>h)
end
end Go.Ab
end
section
namespace Go.Ab
open Go.RowKit
def oK:Nat->List D->(Nat->D)
 |_,[]=>eC
 |k,d::ds=>put (oK (k + 1) ds) k d
theorem yu:∀(ds:List D) (k m:Nat),oK k ds m=if m < k then .undef else(ds[m - k]?).getD .undef
 |[],k,m=>by simp[oK,eC]
 |d::ds,k,m=>by
  simp only[oK,put];by_cases h:m=k
  ·subst h;simp
  ·rw[if_neg h,yu ds (k + 1) m];by_cases h2:m < k
   ·rw[if_pos ag,if_pos h2]
   ·rw[if_neg ag,if_neg h2,show m - k=(m - (k + 1)) + 1 by omega];simp
def sP (P:Program)(s:St):ResultVar->(D->Prop)->Prop
 | .tmp t,k=>bn (mR s.bx s.rw (s.sl t)) k
 | .cell t ty,k=>jW P s.bx ty (s.sl t) λd=>bn (mR s.bx s.rw d) k
def oH (P:Program)(s:St):List ResultVar->(List D->Prop)->Prop
 |[],k=>k []
 |r::rs,k=>sP P s r λd=>oH P s rs λds=>k (d::ds)
def kS:List D->D
 |[d]=>d
 |ds=> .aQ ds
def bC (P:Program)(rs:Array ResultVar)(d:D):Exit->St->Prop
 | .normal,s=>oH P s rs.toList λds=>kS ds=d
 | .ret,s=>oH P s rs.toList λds=>kS ds=d
 |_,_=>False
def sO (tmps:Array Value):ResultVar->Sem Value
 | .tmp t=>pure (tmps.getD t undef)
 | .cell ad t=>do loadVar t (<-asAddr (tmps.getD ad undef))
theorem FF (fn:Func)(tmps:Array Value):results fn tmps=(do
  let vs<-fn.results.mapM (sO tmps)
  pure (if h:vs.size=1 then vs[0]else .tuple vs)):=rfl
section
variable {c:Ctx} {s:St} {a:Act} {w:World} {g:Gh}
theorem XT (h:RG c s a w g){r:ResultVar}{k:D->Prop}(hk:sP c.P s r k):
  ∃v d,(sO a.tmps r).run c.P w= .ok v w/\Rel w g.er v d/\k d:=by
 cases r with
 |tmp t=>
  obtain⟨d,hd,hk⟩:=cE hk;exact⟨_,d,rfl,rC h (h.sl t) hd,hk⟩
 |cell t ty=>
  simp only[sP]at hk;have hx:=h.sl t;cases fY:s.sl t<;>rw[fY]at hk hx<;>simp only[jW]at hk
  ·rename_i i off;obtain⟨cs,aE,hk⟩:=z7 hk;obtain⟨b,vs,tb,e1,e2,e3⟩:=h.mem.bx i cs aE;generalize hv:a.tmps.getD t undef=v at hx;cases hx with
   |box _ _ _ b' bT=>
    obtain rfl:b'=b:=by rw[e1]at bT;exact(Option.some.inj bT).symm
    obtain⟨h1,h2⟩:=q7 e2 e3 off;obtain⟨v,d,bg,hr,hk⟩:=yk (P:=c.P) (t:=ty) (ad:=⟨b',off,none⟩) h1 h2 hk;obtain⟨d',ed,hk⟩:=cE hk;exact⟨v,d',by simp only[sO,hv];simp[asAddr,bg],rC h hr ed,hk⟩
  ·rename_i cs;obtain⟨ad,u,hv,hm,hr⟩:=hx.Aq;obtain⟨v,d,bg,hr,hk⟩:=yk (P:=c.P) (w:=w) (g:=g) (t:=ty) (ad:=ad) (cs:=cs) (u:=u) (λq hq=>⟨(hm q hq).1,(hm q hq).2.2⟩) (λq d hd=>(hr q d hd).bb (rL _ _)) hk;obtain⟨d',ed,hk⟩:=cE hk;exact⟨v,d',by simp only[sO,hv];simp[asAddr,bg],rC h hr ed,hk⟩
theorem NS (h:RG c s a w g):∀{rs:List ResultVar} {k:List D->Prop},oH c.P s rs k->
  ∃vs ds,(rs.mapM (sO a.tmps)).run c.P w= .ok vs w/\
   vs.length=ds.length/\(∀q d,ds[q]? =some d->Rel w g.er (vs.getD q undef) d)/\k ds
 |[],k,hk=>⟨[],[],by simp,rfl,by simp,hk⟩
 |r::rs,k,hk=>by
  obtain⟨v,d,h1,h2,hk⟩:=XT h hk;obtain⟨vs,ds,h3,h4,h5,hk⟩:=NS h hk;refine⟨v::vs,d::ds, ?_,by simp[h4],λq x hx=> ?_,hk⟩
  ·rw[List.mapM_cons];simp only[Sem.run_bind,h1,Result.andThen_ok,h3,Sem.run_pure]
  ·cases q with
   |zero=>simp at hx;subst hx;exact h2
   |succ q=>exact h5 q x (by simpa using hx)
theorem Dd {fn:Func}{ds:List D}{R:Ending->World->Prop}:∀(l:List Deferred) (a:Act) (w:World),RG c s a w g->a.defers=l->(oH c.P s fn.results.toList λcu=>cu=ds)->
  (∀v w',RG c s {a with defers:=[]} w' g->Rel w' g.er v (kS ds)->R (.returned v) w')->LeavesInM Fence.wide 0 c.P fn a.tmps R l .returning w
 |[],a,w,h,hl,hq,hR=>by
  obtain⟨vs,cu,h1,h2,h3,rfl⟩:=NS h hq;refine⟨(if h:vs.length=1 then vs[0]else .tuple vs.toArray), ?_,hR _ _ (by rw[show({a with defers:=[]}:Act)=a by rw[<-hl]];exact h) ?_⟩
  ·rw[FF,Array.mapM_eq_mapM_toList];simp only[Sem.run_bind,Sem.run_map,h1];simp
  ·match vs,cu,h2 with
   |[v],[d],_=>simpa[kS]using h3 0 d rfl
   |[],[],_=>exact .aQ _ _ _ rfl ay
   |v1::v2::vs,d1::d2::ds,h2=>
    simp only[mH,kS];rw[dif_neg ag];exact .aQ _ _ _ (by simpa using h2) (λq d hd=>by simpa using h3 q d hd)
 |d::l,a,w,h,hl,hq,hR=>by
  obtain⟨rX,bu⟩:=h.df.cW;rw[hl]at rX bu;obtain⟨D,hB,rfl,hD⟩:=bu d (ey ..);refine⟨by simp, .inl ⟨D,_,rfl,run_takeDeferred hD, ?_⟩⟩;have hg:RG c s {a with defers:=l} (w.putObj D (.deferred none)) g:=h.sJ hD rfl ay hB rfl ⟨(tY.1 rX).2,λd' ed=>by
   obtain⟨D',tE,rfl,lG⟩:=bu d' (fE _ ed);refine⟨D',tE,rfl, ?_⟩;rw[World.putObj_heap_other (λe=>by subst e;exact(tY.1 rX).1 ed)];exact lG⟩
  exact Dd l {a with defers:=l} _ hg rfl hq hR
theorem XS:∀{rs:List ResultVar} {k:List D->Prop},oH c.P s rs k->∃ds,(oH c.P s rs λcu=>cu=ds)/\k ds:=by
 have hk:∀{r:ResultVar} {k:D->Prop},sP c.P s r k->∃d,(∀k':D->Prop,k' d->sP c.P s r k')/\k d:=by
  intro r k h;cases r with
  |tmp t=>
   obtain⟨d,hd,h⟩:=cE h;exact⟨d,λk' fS=>by simp only[sP,hd];exact fS,h⟩
  |cell t ty=>
   have hw:∀{cs:List D} {k:D->Prop},qi c.P ty cs k->∃d,(∀k':D->Prop,k' d->qi c.P ty cs k')/\k d:=by
    intro cs k h;unfold qi at h⊢;obtain⟨b,hb,h⟩:=cE h;rw[hb];cases b with
    |true=>exact⟨_,λk' fS=>⟨h.1,h.2.1,fS⟩,h.2.2⟩
    |false=>
     cases cs with
     |nil=>exact h.elim
     |cons d cs=>exact⟨d,λk' fS=>fS,h⟩
   have:∃d,(∀k':D->Prop,k' d->jW c.P s.bx ty (s.sl t) k')/\bn (mR s.bx s.rw d) k:=by
    simp only[sP]at h;cases fY:s.sl t<;>rw[fY]at h<;>simp only[jW]at h
    ·obtain⟨cs,aE,h⟩:=z7 h;obtain⟨d,h1,h2⟩:=hw h;refine⟨d,λk' fS=> ?_,h2⟩;simp only[jW,lO];rcases aE with e|e<;>rw[e]<;>exact h1 k' fS
    ·obtain⟨d,h1,h2⟩:=hw h;exact⟨d,λk' fS=>h1 k' fS,h2⟩
   obtain⟨d,h1,h2⟩:=this;obtain⟨d',ed,h2⟩:=cE h2;refine⟨d',λk' fS=> ?_,h2⟩;simp only[sP];exact h1 _ (by rw[ed];exact fS)
 intro rs;induction rs with
 |nil=>intro k h;exact⟨[],rfl,h⟩
 |cons r rs ih=>
  intro k h;obtain⟨d,h1,h⟩:=hk (r:=r) h;obtain⟨ds,h2,h⟩:=ih h;refine⟨d::ds,h1 _ ?_,h⟩;have mono:∀{rs:List ResultVar} {k k':List D->Prop},(∀ds,k ds->k' ds)->oH c.P s rs k->oH c.P s rs k':=by
   intro rs;induction rs with
   |nil=>intro k k' hh h;exact hh _ h
   |cons r rs ih2=>
    intro k k' hh h;obtain⟨d,h1,h⟩:=hk (r:=r) h;exact h1 _ (ih2 (λds h=>hh _ h) h)
  exact mono (λcu e=>by rw[e]) h2
theorem XP {fn:Func}{d:D}{e:Exit}(h:RG c s a w g)(hq:bC c.P fn.results d e s){Rr:Ending->World->Prop}(hR:∀v w',RG c s {a with defers:=[]} w' g->Rel w' g.er v d->Rr (.returned v) w'):
  bodyPostM Fence.wide 0 c.P fn Rr e a w:=by
 have key:(oH c.P s fn.results.toList λds=>kS ds=d)->LeavesInM Fence.wide 0 c.P fn a.tmps Rr a.defers .returning w:=λhq=>by
  obtain⟨ds,h1,rfl⟩:=XS hq;exact Dd a.defers a w h rfl h1 hR
 cases e<;>first|exact key hq|exact hq.elim
end
theorem afV {P:Program}{f:FuncId}{fn:Func}{code:Code}{ds:List D}{d:D}(hf:P.funcs[f]? =some fn)(hb:fn.body=some code)
  (hc:∀(args:Array Value) (w:World),(callFunc f args).run P w= .ok (.enter f args) w)(hn:ds.length<=fn.ntmps)
  (h:∀c:Ctx,c.P=P->c.l=none->(c.own=λb=>c.w0.heap.size<=b)->c.β0=[]->az c code (bC P fn.results d) ⟨fn.ntmps,oK 0 ds,[],[]⟩):ax P f ds d:=by
 refine⟨hc,λS M w args hT hS hM hl b9=> ?_⟩;refine(callsIn_wide (n:=0)).1 (callsIn_of_wp_marks hf hb trivial ?_);have hw:=h ⟨P,w,S,M,none,λb=>w.heap.size<=b,[]⟩ rfl rfl rfl rfl {tmps:=args.toArray++kq (fn.ntmps - args.toArray.size) undef,defers:=[]} w
  ⟨⟨S,[],[],M⟩,⟨⟨List.nodup_nil,λd hd=>by cases hd⟩,hM,λ_ _ h=>h,λ_ _ h=> .inl h,λi b h=>by simp at h,λ_ _=>rfl,hT.fresh hM⟩,by simp;omega, .of (Below.refl _ _),λ_ h=>h,hS,λ_ h=> .inl h,λ_ h=>h,hS,rfl,rfl, ?_, ?_, ?_, ?_, ?_,λi es hi=>by simp at hi⟩
 ·refine wpIn_mono (F:=Fence.wide) hw ?_;rintro e a' w' ⟨s',⟨g,hg⟩,hq⟩;exact XP (c:=⟨P,w,S,M,none,λb=>w.heap.size<=b,[]⟩) hg hq (λv w' hg hv=>⟨v,g.S,g.M,rfl,⟨⟨hg.below.os,hg.below.tape,hg.below.output,hg.below.size,λk hk hn=>hg.below.block k hk (λh=>h.elim (λh=>absurd (show w.heap.size<=k from h) (Nat.not_le_of_lt hk)) hn)⟩,hg.S0,hg.eD,hg.df.m0,hg.df.fX,hg.df.cb⟩,hg.bt,hv⟩)
 ·intro m;simp only;rw[yu];simp only[Nat.not_lt_zero,if_false,Nat.sub_zero];cases hd:ds[m]? with
  |none=>exact .undef _ _
  |some x=>
   have hm:=(bm.1 hd).1;have:=b9 m x hd;have e:(args.toArray++kq (fn.ntmps - args.toArray.size) undef).getD m undef=args.getD m undef:=by
    have:m < args.length:=ag;simp[Array.getElem?_append,this]
   rw[e];exact this
 ·intro i cs hi;simp at hi
 ·intro i cs hi;simp at hi
 ·intro i cs hi;simp at hi
 ·exact⟨λ_=> .inl 0,λi x b hi=>by simp at hi,λr row v gb hr=>by simp at hr⟩
section
variable {c:Ctx} {s:St} {Q:Exit->St->Prop} {code:Code}
theorem ou (i:Nat)(cs dp:List D)(hi:s.bx[i]? =some (.mu cs))(hp:iU s.bx s.rw cs=some dp)
  (h:az c code Q {s with bx:=s.bx.set i (.fz dp)}):az c code Q s:=by
 rintro a w ⟨g,hg⟩;refine h a w ?_;obtain⟨b,vs,t,e1,e2,e3,e4,e5,_⟩:=(hg.bx i cs hi).ex;have e3:fF w g vs cs:=e3;obtain⟨p1,p2⟩:=Ax hp
 let S':Addr->Prop:=λx=>g.S x\/∃q,q < cs.length/\x=⟨b,q,none⟩
 have en:i < s.bx.length:=(bm.1 hi).1;have k:ep w g w ⟨S',g.β,g.ρ,g.M⟩:=⟨λ_ _=>rfl,λ_ h=> .inl h,λ_ _ h=>h,λ_ _ h=>h,λ_ _ h=>h⟩;obtain⟨κ,k1,k2⟩:=hg.ap;have hold:∀(j:Nat) (x:Bx),(s.bx.set i (.fz dp))[j]? =some x->(j=i/\x= .fz dp)\/(j≠i/\s.bx[j]? =some x):=λj x hj=>by
  by_cases bd:j=i
  ·subst bd;rw[List.getElem?_set_self en]at hj;exact .inl ⟨rfl,(Option.some.inj hj).symm⟩
  ·rw[List.getElem?_set_ne (Ne.symm bd)]at hj;exact .inr ⟨bd,hj⟩
 have acd:b < w.heap.size:=(Array.getElem?_eq_some_iff.1 e2).1;refine⟨⟨S',g.β,g.ρ,g.M⟩,hg.df.gh rfl,hg.sz,hg.below,hg.cY,λx hx=> ?_,λx hx=> ?_,λx hx=> .inl (hg.S0 x hx),hg.fU,by simp[hg.lβ],hg.lρ,λn=>(hg.sl n).bb k, ?_, ?_, ?_, ?_,λj es hj=>by
  rcases hold j _ hj with⟨_,e⟩|⟨bd,hj⟩
  ·cases e
  ·exact(hg.mp j es hj).imp λb2 hm=>hm.bb k rfl hm.nm⟩
 ·rcases hx with hx|⟨q,hq,rfl⟩
  ·exact hg.bt x hx
  ·rw[cell_of_row w b q vs t.1 _ e2];have:q < vs.size:=by rw[e3.1];exact hq
   exact⟨vs[q],by simp[this]⟩
 ·rcases hx with hx|⟨q,_,rfl⟩
  ·exact hg.eD x hx
  ·exact .inr e4
 ·intro j ds hj;rcases hold j _ hj with⟨_,e⟩|⟨bd,hj⟩
  ·cases e
  ·obtain⟨b',iJ,t',f1,f2,f3,f4,f5,f6⟩:=(hg.bx j ds hj).ex;refine⟨b',iJ,t',f1,f2,f3.bb k,f4,λ_ x hx=> ?_,λh=>by cases h⟩;rcases hx with hx|⟨q,_,rfl⟩
   ·exact f5 rfl x hx
   ·intro e;simp at e;subst e
    have q1:=k1 i _ b hi rfl e1;have q2:=k1 j _ b hj rfl f1;rw[q1]at q2;injection q2 with q2;exact bd q2.symm
 ·intro j ds hj;rcases hold j _ hj with⟨rfl,e⟩|⟨bd,hj⟩
  ·cases e;refine⟨b,vs,t,e1,e2,⟨by rw[e3.1,p1],λq d hd=> ?_⟩,e4,(λh=>by cases h),λ_ q hq=> .inr ⟨q,by rw[<-p1];exact hq,rfl⟩⟩;obtain⟨d0,jn,A_⟩:=p2 q d hd;exact⟨(Az hg (e3.2 q d0 jn).1 A_).bb k.er,(e3.2 q d0 jn).2⟩
  ·obtain⟨b',iJ,t',f1,f2,f3,f4,f5,f6⟩:=(hg.fz j ds hj).ex;exact⟨b',iJ,t',f1,f2,f3.bb k.er,f4,(λh=>by cases h),λ_ q hq=> .inl (f6 rfl q hq)⟩
 ·intro r row hr;obtain⟨v,f1,f2,f3⟩:=(hg.rw r row hr).ex;refine⟨v,f1,f2.bb k,λhl=> ?_⟩;obtain⟨ho,bE,hS⟩:=f3 hl;refine⟨ho,bE,λgb aW=>⟨(hS gb aW).1,λx hx ig=> ?_⟩⟩;rcases hx with hx|⟨q,_,rfl⟩
  ·exact(hS gb aW).2 x hx ig
  ·simp at ig;subst ig
   have q1:=k1 i _ b hi rfl e1;have q2:=k2 r row v b hr hl f1 aW;rw[q1]at q2;cases q2
 ·refine⟨κ,λj x b' hj hx bT=> ?_,k2⟩;rcases hold j _ hj with⟨rfl,e⟩|⟨bd,hj⟩
  ·exact k1 j _ b' hi rfl bT
  ·exact k1 j x b' hj hx bT
theorem Ez (n:Nat)(e:TypeId)(sz:Nat)(hn:s.sl n= .val (.slice none 0 0))
  (h:az c code Q {s with sl:=put s.sl n (.own s.rw.length),rw:=s.rw++[⟨true,e,sz,[]⟩]}):az c code Q s:=by
 rintro a w ⟨g,hg⟩;refine h a w ⟨⟨g.S,g.β,g.ρ++[.slice none 0 0],g.M⟩, ?_⟩;have hp:=hg.yp e sz;refine⟨hp.df,hp.sz,hp.below,hp.cY,hp.bt,hp.eD,hp.S0,hp.fU,hp.lβ,hp.lρ,λm=> ?_,hp.bx,hp.fz,hp.rw, ?_,hp.mp⟩
 ·simp only[put];by_cases hm:m=n
  ·subst hm;rw[if_pos rfl];have:=hg.sl m;rw[hn]at this;generalize hv:a.tmps.getD m undef=v at this;cases this;exact .own _ _ _ (by rw[<-hg.lρ];simp)
  ·rw[if_neg hm];exact hp.sl m
 ·exact hp.ap
end
end Go.Ab
end
section
namespace Go.Ab
open Go.RowKit
def dR (P:Program)(f:FuncId)(ds:List D)(ops l:List Oper)(s:St)(dst:Option Tmp)(K:St->Prop):Prop:=dI P f ds λd=>cq P ops l (s.put dst d) K
section congr
variable {P:Program} {d d' x x' y y':D} {s s':St}
@[congr] theorem ans {k:Bool->Prop}(h:d=d'):lg d k=lg d' k:=by rw[h]
@[congr] theorem ang {k:IntKind->Int->Prop}(h:d=d'):jx d k=jx d' k:=by rw[h]
@[congr] theorem anh {k:IntKind->Int->Int->Prop}(h:x=x')(h':y=y'):iI x y k=iI x' y' k:=by rw[h,h']
@[congr] theorem anu {k:List D->Prop}(h:d=d'):uo d k=uo d' k:=by rw[h]
@[congr] theorem am4 {k:List D->Prop}(h:d=d'):rn d k=rn d' k:=by rw[h]
@[congr] theorem am_ {α:Type}{o o':Option α}{k:α->Prop}(h:o=o'):bn o k=bn o' k:=by rw[h]
@[congr] theorem anq {t:TypeId}{k:Bool->Prop}(h:x=x')(h':y=y'):nI P t x y k=nI P t x' y' k:=by rw[h,h']
@[congr] theorem am7 {rw aL:List Row}{k:List D->Prop}(h:rw=aL)(h':d=d'):lM rw d k=lM aL d' k:=by rw[h,h']
@[congr] theorem ank {xs Je:List D}{k:D->Prop}(h:xs=Je):rq xs k=rq Je k:=by rw[h]
@[congr] theorem ane {bx aF:List Bx}{t:TypeId}{k:D->Prop}(h:bx=aF)(h':d=d'):jW P bx t d k=jW P aF t d' k:=by rw[h,h']
@[congr] theorem am8 {o:Nat}{k:D->Prop}(h:d=d'):py d o k=py d' o k:=by rw[h]
@[congr] theorem ant {t:TypeId}{op:BinOp}{k:D->Prop}(h:x=x')(h':y=y'):um P t op x y k=um P t op x' y' k:=by rw[h,h']
@[congr] theorem am3 {op:UnOp}{k:D->Prop}(h:d=d'):uh op d k=uh op d' k:=by rw[h]
@[congr] theorem anj {rw aL:List Row}{t:TypeId}{k:D->Prop}(h:rw=aL)(h1:x=x')(h2:y=y'):sI P rw t x y k=sI P aL t x' y' k:=by rw[h,h1,h2]
@[congr] theorem ani {t:TypeId}{k:D->Prop}(h1:x=x')(h2:y=y'):uj P t x y k=uj P t x' y' k:=by rw[h1,h2]
@[congr] theorem anp {t:TypeId}{f:Nat}{k:D->Prop}(h:d=d'):uk P t d f k=uk P t d' f k:=by rw[h]
@[congr] theorem anf {t:TypeId}{rw aL:List Row}{k:D->Prop}(h:rw=aL)(h':d=d'):sH P t rw d k=sH P t aL d' k:=by rw[h,h']
@[congr] theorem am5 {t:TypeId}{K:St->Prop}(h:s=s')(h1:x=x')(h2:y=y'):qj P s t x y K=qj P s' t x' y' K:=by rw[h,h1,h2]
@[congr] theorem ana {t:TypeId}{k:D->Prop}(h:x=x')(h':y=y'):vK P t x y k=vK P t x' y' k:=by rw[h,h']
@[congr] theorem am' {t:TypeId}{z z':D}{k:Prop}(h:x=x')(h':y=y')(h2:z=z'):vJ P t x y z k=vJ P t x' y' z' k:=by rw[h,h',h2]
@[congr] theorem am6 {t:TypeId}{lo O4 hi fk:Option D}{k:D->Prop}(h:x=x')(h1:lo=O4)(h2:hi=fk):sE P t x lo hi k=sE P t x' O4 fk k:=by rw[h,h1,h2]
@[congr] theorem ano {k:FuncId->List D->List D->Prop}(h:d=d'):lN d k=lN d' k:=by rw[h]
@[congr] theorem anY {ops l:List Oper}{K:St->Prop}(h:s=s'):cq P ops l s K=cq P ops l s' K:=by rw[h]
@[congr] theorem aoJ {c:Ctx}{code:Code}{Q:Exit->St->Prop}(h:s=s'):az c code Q s=az c code Q s':=by rw[h]
end congr
section eqs
variable {P:Program} {k:D->Prop} {K:St->Prop} {s:St} {ty:TypeId} {pos:String} {aft:Array Edge} {dst:Option Tmp} {gd:Option (Nat×Bool)} {ops l:List Oper} {rw:List Row} {bx:List Bx} {ρ:Operand->D}
@[go_sem] theorem adk:cq P ops [] s K=K s:=rfl
@[go_sem] theorem adj {op:Op}:cq P ops (⟨dst,op,ty,pos,aft,none⟩::l) s K=c_ P ⟨dst,op,ty,pos,aft,none⟩ s λs'=>cq P ops l s' K:=rfl
def pz (s:St)(t:Nat)(want:Bool)(A B:St->Prop):Prop:=wG (s.sl t) (B s) λb=>(b=want->A (s.put (some t) (.bool want)))/\(b= !want->B (s.put (some t) (.bool (!want))))
@[congr] theorem anm {d d':D}{no:Prop}{k:Bool->Prop}(h:d=d'):wG d no k=wG d' no k:=by rw[h]
@[congr] theorem anl {s s':St}{t:Nat}{want:Bool}{A B:St->Prop}(h:s=s'):pz s t want A B=pz s' t want A B:=by rw[h]
theorem DZ {t:Nat}{want:Bool}{A B:St->Prop}{b:Bool}(h:s.sl t= .bool b):pz s t want A B=((b=want->A (s.put (some t) (.bool want)))/\(b= !want->B (s.put (some t) (.bool (!want))))):=by
 unfold pz;rw[h];rfl
def CC (d:D)(s:St)(t:Nat)(want:Bool)(A B:St->Prop):Prop:=wG d (B s) λb=>(b=want->A (s.put (some t) (.bool want)))/\(b= !want->B (s.put (some t) (.bool (!want))))
@[congr] theorem ann {d d':D}{t:Nat}{want:Bool}{A B:St->Prop}(h:d=d'):CC d s t want A B=CC d' s t want A B:=by rw[h]
@[go_sem] theorem adA {b:Bool}{t:Nat}{want:Bool}{A B:St->Prop}:CC (.bool b) s t want A B=((b=want->A (s.put (some t) (.bool want)))/\(b= !want->B (s.put (some t) (.bool (!want))))):=rfl
attribute[go_sem↓] adA
@[go_sem↓low] theorem anW {N:Nat}{sl:Nat->D}{t:Nat}{want:Bool}{A B:St->Prop}:pz ⟨N,sl,bx,rw⟩ t want A B=CC (sl t) ⟨N,sl,bx,rw⟩ t want A B:=rfl
@[go_sem↓high] theorem anT {N:Nat}{sl:Nat->D}{t:Nat}{want:Bool}{A B:St->Prop}(h:sl t= .skp):pz ⟨N,sl,bx,rw⟩ t want A B=B ⟨N,sl,bx,rw⟩:=by
 unfold pz;simp only[h];rfl
@[go_sem↓high] theorem anR {N:Nat}{sl:Nat->D}{t:Nat}{A B:St->Prop}(h:sl t= .bool true):pz ⟨N,sl,bx,rw⟩ t true A B=A ⟨N,sl,bx,rw⟩:=by
 rw[DZ h];simp[nL (s:=⟨N,sl,bx,rw⟩) h]
@[go_sem↓high] theorem anS {N:Nat}{sl:Nat->D}{t:Nat}{A B:St->Prop}(h:sl t= .bool false):pz ⟨N,sl,bx,rw⟩ t true A B=B ⟨N,sl,bx,rw⟩:=by
 rw[DZ h];simp[nL (s:=⟨N,sl,bx,rw⟩) h]
@[go_sem↓high] theorem anU {N:Nat}{sl:Nat->D}{t:Nat}{A B:St->Prop}(h:sl t= .bool true):pz ⟨N,sl,bx,rw⟩ t false A B=B ⟨N,sl,bx,rw⟩:=by
 rw[DZ h];simp[nL (s:=⟨N,sl,bx,rw⟩) h]
@[go_sem↓high] theorem anV {N:Nat}{sl:Nat->D}{t:Nat}{A B:St->Prop}(h:sl t= .bool false):pz ⟨N,sl,bx,rw⟩ t false A B=A ⟨N,sl,bx,rw⟩:=by
 rw[DZ h];simp[nL (s:=⟨N,sl,bx,rw⟩) h]
@[go_sem] theorem adl {op:Op}{j:Nat}{want:Bool}:cq P ops (⟨dst,op,ty,pos,aft,some (j,want)⟩::l) s K=bn (iD ops j) λt=>pz s t want
  (λs=>cq P ops (⟨dst,op,ty,pos,aft,none⟩::l) s K)
  (λs=>bp s dst/\cq P ops l (s.put dst .skp) K):=rfl
@[go_sem] theorem acy {j:Nat}:iD l j=(l[j]?).bind (·.dst):=rfl
@[go_sem] theorem WO {t:TypeId}:c_ P ⟨dst, .alloc t,ty,pos,aft,gd⟩ s K=(bp s dst/\bn (bX P t) λzs=>K (St.put {s with bx:=s.bx++[.mu zs]} dst (.box s.bx.length 0))):=rfl
@[go_sem] theorem WK {t:TypeId}{x:Operand}:c_ P ⟨dst, .box t x,ty,pos,aft,gd⟩ s K=(bp s dst/\(s.ev x).cells.all D.one=true/\K (St.put {s with bx:=s.bx++[.mu (s.ev x).cells]} dst (.box s.bx.length 0))):=rfl
@[go_sem] theorem Wj {t:TypeId}{x y:Operand}:c_ P ⟨dst, .store t x y,ty,pos,aft,gd⟩ s K=(dst=none/\qj P s t (s.ev x) (s.ev y) K):=rfl
@[go_sem] theorem WN {t t':TypeId}{x y:Operand}:c_ P ⟨dst, .call ⟨.builtin .append,#[x,y],#[t,t']⟩,ty,pos,aft,gd⟩ s K=(bp s dst/\t'=t/\qk P s dst t (s.ev x) (s.ev y) K):=rfl
@[go_sem] theorem Wn {x:Operand}:c_ P ⟨dst, .move x,ty,pos,aft,gd⟩ s K=(bp s dst/\K (s.put dst (s.ev x))):=rfl
@[go_sem] theorem WM {x:Operand}:c_ P ⟨dst, .assign x,ty,pos,aft,gd⟩ s K=(bp s dst/\K (s.put dst (s.ev x))):=rfl
@[go_sem] theorem Wl {a b d:Operand}:c_ P ⟨dst, .pick a b d,ty,pos,aft,gd⟩ s K=(bp s dst/\lg (s.ev a) λt=>K (s.put dst (C5 t (s.ev b) (s.ev d)))):=rfl
@[go_sem] theorem WL {op:BinOp}{xt yt:TypeId}{x y:Operand}:c_ P ⟨dst, .binOp op xt x y yt,ty,pos,aft,gd⟩ s K=(bp s dst/\um P xt op (s.ev x) (s.ev y) λd=>K (s.put dst d)):=rfl
@[go_sem] theorem Wi {op:UnOp}{xt:TypeId}{x:Operand}:c_ P ⟨dst, .unOp op xt x,ty,pos,aft,gd⟩ s K=(bp s dst/\uh op (s.ev x) λd=>K (s.put dst d)):=rfl
@[go_sem] theorem WH {a b:TypeId}{x:Operand}:c_ P ⟨dst, .convert a b x,ty,pos,aft,gd⟩ s K=(bp s dst/\rr P a b (s.ev x) λd=>K (s.put dst d)):=rfl
@[congr] theorem anr {a b:TypeId}{d d':D}{k:D->Prop}(h:d=d'):rr P a b d k=rr P a b d' k:=by rw[h]
@[go_sem↓] theorem aoe {a b:TypeId}{q:IntKind}{n:Int}{k:D->Prop}:rr P a b (.int q n) k=(bn (lX P a) λ_=>bn (lX P b) λq=>jV q n/\k (.int q n)):=rfl
@[go_sem↓] theorem aod {a b:TypeId}{xs:List D}{k:D->Prop}:rr P a b (.list xs) k=(jX P b=true/\bn (elemOf P a) λe=>bn (lX P e) λq=>q= .u8/\bn (xd xs) λl=>k (.str ⟨l.toArray⟩)):=rfl
attribute[go_sem] xd
@[go_sem] theorem WG {x:Operand}{i:Nat}:c_ P ⟨dst, .extract x i,ty,pos,aft,gd⟩ s K=(bp s dst/\rn (s.ev x) λds=>bn ds[i]? λd=>K (s.put dst d)):=rfl
@[go_sem] theorem WC {t:TypeId}{x:Operand}{f:Nat}:c_ P ⟨dst, .fieldAddr t x f,ty,pos,aft,gd⟩ s K=(bp s dst/\bn (bq P t f) λot=>py (s.ev x) ot.1 λd=>K (s.put dst d)):=rfl
@[go_sem] theorem WE {t:TypeId}{x:Operand}{f:Nat}:c_ P ⟨dst, .field t x f,ty,pos,aft,gd⟩ s K=(bp s dst/\uk P t (s.ev x) f λd=>K (s.put dst d)):=rfl
@[go_sem] theorem WA {t:TypeId}{x y:Operand}:c_ P ⟨dst, .indexAddr t x y,ty,pos,aft,gd⟩ s K=(bp s dst/\sI P s.rw t (s.ev x) (s.ev y) λd=>K (s.put dst d)):=rfl
@[go_sem] theorem WB {t:TypeId}{x y:Operand}:c_ P ⟨dst, .index t x y,ty,pos,aft,gd⟩ s K=(bp s dst/\uj P t (s.ev x) (s.ev y) λd=>K (s.put dst d)):=rfl
@[go_sem] theorem Wv {f:FuncId}{cap:Array Operand}:c_ P ⟨dst, .makeFunc (.func f) #[] cap,ty,pos,aft,gd⟩ s K=(bp s dst/\K (s.put dst (.aD f (cap.toList.map s.ev)))):=rfl
@[go_sem] theorem WJ {t:TypeId}{ps:Array (Nat×Operand)}:c_ P ⟨dst, .build t ps,ty,pos,aft,gd⟩ s K=(bp s dst/\bn (bX P t) λzs=>bn (eP P t) λplace=>
  bn (qX place zs (ps.toList.map λp=>(p.1,s.ev p.2))) λcs=>K (s.put dst (.agg cs))):=rfl
@[go_sem] theorem Wy {x:Operand}{t:TypeId}:c_ P ⟨dst, .call ⟨.builtin .len,#[x],#[t]⟩,ty,pos,aft,gd⟩ s K=(bp s dst/\sH P t s.rw (s.ev x) λd=>K (s.put dst d)):=rfl
@[go_sem] theorem Wp {x y:Operand}{at_:Array TypeId}:c_ P ⟨dst, .call ⟨.builtin .max,#[x,y],at_⟩,ty,pos,aft,gd⟩ s K=(bp s dst/\iI (s.ev x) (s.ev y) λq n m=>K (s.put dst (.int q (max n m)))):=rfl
@[go_sem] theorem Wo {x y:Operand}{at_:Array TypeId}:c_ P ⟨dst, .call ⟨.builtin .min,#[x,y],at_⟩,ty,pos,aft,gd⟩ s K=(bp s dst/\iI (s.ev x) (s.ev y) λq n m=>K (s.put dst (.int q (min n m)))):=rfl
@[go_sem] theorem Ws {f:FuncId}{x:Operand}{fs:List Operand}:c_ P ⟨dst, .makeFunc (.func f) ⟨x::fs⟩ #[],ty,pos,aft,gd⟩ s K=(bp s dst/\K (s.put dst (.dq f ((x::fs).map s.ev)))):=rfl
@[go_sem] theorem Wk {t:TypeId}{x:Operand}{lo hi:Option Operand}:c_ P ⟨dst, .slice t x lo hi none,ty,pos,aft,gd⟩ s K=(bp s dst/\sE P t (s.ev x) (lo.map s.ev) (hi.map s.ev) λd=>K (s.put dst d)):=rfl
@[go_sem] theorem Wr {t:TypeId}{x y:Operand}:c_ P ⟨dst, .makeSlice t x y,ty,pos,aft,gd⟩ s K=(bp s dst/\CB P s dst t (s.ev x) (s.ev y) K):=rfl
@[go_sem] theorem Wx {t:TypeId}{x:Operand}:c_ P ⟨dst, .load t x,ty,pos,aft,gd⟩ s K=(bp s dst/\jW P s.bx t (s.ev x) λd=>K (s.put dst d)):=rfl
@[go_sem] theorem WI {t:TypeId}{n:Nat}{ps:Array (Nat×Operand)}:c_ P ⟨dst, .buildSlice t n ps,ty,pos,aft,gd⟩ s K=(bp s dst/\bn (elemOf P t) λe=>aJ P e≠0/\n * aJ P e<=16777216/\(bX P e).isSome=true/\
  ps.toList.map (·.1)=dB n/\bn (gJ s.bx s.rw (ps.toList.map λp=>s.ev p.2)) λds=>(∀d∈ds,d.cells.length=aJ P e/\d.cells.all D.one=true)/\K (s.put dst (.list ds))):=rfl
@[go_sem↓high] theorem anX {fx:Operand}{xs:Array Operand}{at_:Array TypeId}:cq P ops (⟨dst, .call ⟨.value fx,xs,at_⟩,ty,pos,aft,none⟩::l) s K=(bp s dst/\lN (s.ev fx) λf fs cs=>
  bn (gJ s.bx s.rw (fs++xs.toList.map s.ev++cs)) λds=>dR P f ds ops l s dst K):=by
 show(bp s dst/\lN (s.ev fx) λf fs cs=>bn (gJ s.bx s.rw (fs++xs.toList.map s.ev++cs)) λds=>dI P f ds λd=>cq P ops l (s.put dst d) K)=_;rfl
@[go_sem] theorem Ww {t:TypeId}{x y:Operand}{ok:Bool}:c_ P ⟨dst, .lookup t x y ok,ty,pos,aft,gd⟩ s K=(bp s dst/\sG P s.bx t (s.ev x) (s.ev y) ok λd=>K (s.put dst d)):=rfl
@[go_sem] theorem V7 {t:TypeId}{x y:Operand}:lQ P ⟨dst, .lookup t x y true,ty,pos,aft,gd⟩ s K=(bp s dst/\vK P t (s.ev x) (s.ev y) λd=>K (s.put dst d)):=rfl
@[go_sem] theorem Wq {t:TypeId}{x y z:Operand}:c_ P ⟨dst, .mapUpdate t x y z,ty,pos,aft,gd⟩ s K=(dst=none/\rm P s.bx t (s.ev x) (s.ev y) (s.ev z) λr=>K ⟨s.n,s.sl,r.1,s.rw⟩):=rfl
@[go_sem] theorem Wz {t:TypeId}{x y z:Operand}:c_ P ⟨dst, .insert t x y z,ty,pos,aft,gd⟩ s K=(dst=none/\rm P s.bx t (s.ev x) (s.ev y) (s.ev z) λr=>K ⟨s.n,s.sl,r.1,s.rw⟩):=rfl
@[go_sem] theorem V5 {t:TypeId}{x y z:Operand}:lQ P ⟨dst, .mapUpdate t x y z,ty,pos,aft,gd⟩ s K=(dst=none/\vJ P t (s.ev x) (s.ev y) (s.ev z) (K s)):=rfl
@[go_sem] theorem adS {bx:List Bx}{t:TypeId}{i:Nat}{dk:D}{ok:Bool}{k:D->Prop}:sG P bx t (.bz i) dk ok k=oE bx i λes=>yc P t es dk λe=>bn (zeroV P e) λz=>k (Gb ok (lU dk es) z):=rfl
@[go_sem] theorem adB {bx:List Bx}{t:TypeId}{i:Nat}{dk dv:D}{k:List Bx×D->Prop}:rm P bx t (.bz i) dk dv k=oE bx i λes=>yc P t es dk λ_=>dA bx.length 0 dv=true/\k (bx.set i (.mp (nS dk dv es)), .undef):=rfl
@[congr] theorem anb {x x' y y':D}{bx aF:List Bx}{t:TypeId}{ok:Bool}{k:D->Prop}(h:x=x')(h':y=y')(hb:bx=aF):sG P bx t x y ok k=sG P aF t x' y' ok k:=by rw[h,h',hb]
@[go_sem] theorem an9 {bx:List Bx}{i:Nat}{k:List (D×D)->Prop}:oE bx i k=match bx[i]? with|some (.mp es)=>k es|_=>False:=rfl
@[go_sem] theorem an_ {t:TypeId}{es:List (D×D)}{dk:D}{k:TypeId->Prop}:yc P t es dk k=bn (mapOf P t) λke=>bn (kV dk) λsh=>xN P ke.1 sh/\(es.all λp=>decide (kV p.1=some sh))=true/\k ke.2:=rfl
attribute[go_sem] kV kx uL lU nS Gb
@[go_sem] theorem Wm {x:Operand}:c_ P ⟨dst, .nilCheck x,ty,pos,aft,gd⟩ s K=(bp s dst/\ui (s.ev x) λd=>K (s.put dst d)):=rfl
@[go_sem] theorem Wu {t:TypeId}{x:Operand}:c_ P ⟨dst, .makeInterface t x,ty,pos,aft,gd⟩ s K=(bp s dst/\xb P t=true/\K (s.put dst .any)):=rfl
@[go_sem] theorem adL {i off:Nat}{k:D->Prop}:ui (.box i off) k=k (.box i off):=rfl
@[go_sem] theorem adK {cs:List D}{k:D->Prop}:ui (.ro cs) k=k (.ro cs):=rfl
@[congr] theorem am9 {d d':D}{k:D->Prop}(h:d=d'):ui d k=ui d' k:=by rw[h]
@[go_sem] theorem aoa {t:TypeId}{i off:Nat}{k:Bool->Prop}:nI P t (.box i off) (.val (.pointer none)) k=(rO P t=true/\k false):=rfl
@[go_sem] theorem an' {t:TypeId}{k:Bool->Prop}:nI P t (.val (.pointer none)) (.val (.pointer none)) k=(rO P t=true/\k true):=rfl
@[go_sem] theorem ado:zj P [] s K=K s:=rfl
@[go_sem] theorem adp {o:Oper}:zj P (o::l) s K=(o.guard=none/\lQ P o s λs'=>zj P l s' K):=rfl
@[go_sem] theorem V6 {t:TypeId}:lQ P ⟨dst, .makeMap t none,ty,pos,aft,gd⟩ s K=(bp s dst/\∃m:nE,m.tI=[]/\K (s.put dst (.eN m))):=rfl
@[go_sem] theorem Wt {t:TypeId}:c_ P ⟨dst, .makeMap t none,ty,pos,aft,gd⟩ s K=(bp s dst/\K (St.put ⟨s.n,s.sl,s.bx++[.mp []],s.rw⟩ dst (.bz s.bx.length))):=rfl
@[go_sem] theorem adR {t:TypeId}{ka:Bool}{va:VK}{dm:List (List Int)}{n:Nat}{f:List Int->List Int}{dk:D}:vK P t (.eN ⟨ka,va,n,f,dm⟩) dk k=bn (mapOf P t) λke=>bn (uI ka dk) λxs=>xs.length=n/\ua P ke.1 ka n/\
  bn (zeroV P ke.2) λz=>k (.aQ [uG va (f xs), .bool true])/\(xs∉dm->k (.aQ [z, .bool false])):=rfl
@[go_sem] theorem adP {t:TypeId}{ka:Bool}{va:VK}{dm:List (List Int)}{n:Nat}{f:List Int->List Int}{dk dv:D}{K:Prop}:vJ P t (.eN ⟨ka,va,n,f,dm⟩) dk dv K=bn (mapOf P t) λke=>bn (uI ka dk) λxs=>xs.length=n/\ua P ke.1 ka n/\dv=uG va (f xs)/\K:=rfl
attribute[go_sem] AL uG uI
@[go_sem] theorem aen {n:Nat}:bp s (some n)=(n < s.n):=rfl
@[go_sem] theorem YB {N n:Nat}{sl:Nat->D}{d:D}:St.put ⟨N,sl,bx,rw⟩ (some n) d=⟨N,Ab.put sl n d,bx,rw⟩:=rfl
@[go_sem] theorem adi {t:Tmp}:St.ev s (.tmp t)=s.sl t:=rfl
@[go_sem] theorem adn {v:Value}:St.ev s (.const v)=tJ v:=rfl
@[go_sem] theorem adm {f:FuncId}:St.ev s (.func f)= .aD f []:=rfl
attribute[go_sem] tJ dN YF oK
@[go_sem] theorem ad8 {b:Bool}{k:Bool->Prop}:lg (.bool b) k=k b:=rfl
@[go_sem] theorem adX {q:IntKind}{n:Int}{k:IntKind->Int->Prop}:jx (.int q n) k=k q n:=rfl
@[go_sem] theorem adW {q q':IntKind}{n m:Int}{k:IntKind->Int->Int->Prop}:iI (.int q n) (.int q' m) k=(q=q'/\k q n m):=rfl
@[go_sem] theorem aeb {cs:List D}{k:List D->Prop}:uo (.agg cs) k=k cs:=rfl
@[go_sem] theorem adC {cs:List D}{k:List D->Prop}:rn (.aQ cs) k=k cs:=rfl
@[go_sem] theorem adF {α:Type}{x:α}{k:α->Prop}:bn (some x) k=k x:=rfl
@[go_sem] theorem ad3 {f:FuncId}{cs:List D}{k:FuncId->List D->List D->Prop}:lN (.aD f cs) k=k f [] cs:=rfl
@[go_sem] theorem adO {f:FuncId}{cs:List D}{k:FuncId->List D->List D->Prop}:lN (.dq f cs) k=k f cs []:=rfl
@[go_sem] theorem an3 {t:TypeId}{xs:List D}{lo hi:Option D}{k:D->Prop}:sE P t (.list xs) lo hi k=
  bn (elemOf P t) λe=>lh hi xs.length xs.length λh=>lh lo 0 h λl=>aJ P e≠0/\(∀d∈xs,d.cells.length=aJ P e)/\k (.list ((xs.drop l).take (h - l))):=rfl
@[go_sem] theorem ad_ {n m:Nat}{k:Nat->Prop}:lh none n m k=k n:=rfl
@[go_sem] theorem ad9 {d:D}{n m:Nat}{k:Nat->Prop}:lh (some d) n m k=jx d λ_ j=>0<=j/\j<=m/\k j.toNat:=rfl
@[go_sem] theorem Rg {i off n c:Nat}{k:List D->Prop}:vI bx (.a_ i off n c) k=lO bx i λcs=>off + n<=cs.length/\k ((cs.drop off).take n):=rfl
@[go_sem] theorem ad6 {dst:Option Tmp}{t:TypeId}{i off n c:Nat}{dy:D}{K:St->Prop}:CE P s dst t (.a_ i off n c) dy K=bn (elemOf P t) λe=>aJ P e=1/\vI s.bx dy λys=>ys.all D.one=true/\match s.bx[i]? with
   |some (.mu cs)=>off + n<=cs.length/\K (St.put {s with bx:=s.bx.set i (.mu (cs.take off++ys.take n++cs.drop (off + (ys.take n).length)))} dst (.int .i64 (ys.take n).length))
   |_=>False:=rfl
@[go_sem] theorem adQ {dst:Option Tmp}{t:TypeId}{dl dc:D}{K:St->Prop}:CB P s dst t dl dc K=bn (elemOf P t) λe=>iI dl dc λ_ n m=>n=m/\0<=n/\n<=9223372036854775807/\(BY P e:Int) * n<=140737488355328/\bn (bX P e) λzs=>zs≠[]/\
  K (St.put {s with bx:=s.bx++[.mu (List.replicate n.toNat zs).flatten]} dst (.a_ s.bx.length 0 n.toNat n.toNat)):=rfl
@[go_sem] theorem aoj {α:Type}{f:α->D}{l:List α}:(l.map f).all D.one=l.all (λx=>(f x).one):=by rw[List.all_map];rfl
@[go_sem] theorem aoi {α:Type}{l:List α}:(l.all λ_=>true)=true:=by simp
@[go_sem] theorem ad7 {i:Nat}{k:List D->Prop}:lO bx i k=match bx[i]? with|some (.mu cs)=>k cs|some (.fz cs)=>k cs|_=>False:=rfl
@[go_sem] theorem ad5 {t:TypeId}{a b:IntKind}{n m:Int}{k:Bool->Prop}:nI P t (.int a n) (.int b m) k=(a=b/\k (decide (n=m))):=rfl
@[go_sem] theorem ad4 {t:TypeId}{a b:ByteArray}{k:Bool->Prop}:nI P t (.str a) (.str b) k=k (a.toList == b.toList):=rfl
attribute[go_sem] jk
@[go_sem] theorem adH {xs:List D}{k:List D->Prop}:lM rw (.list xs) k=k xs:=rfl
@[go_sem] theorem adG {r:Nat}{k:List D->Prop}:lM rw (.own r) k=match rw[r]? with|some row=>k row.xs|none=>False:=rfl
@[go_sem] theorem ad1 {d:D}{ds:List D}:rq (d::ds) k=k d:=rfl
@[go_sem] theorem adD {t:TypeId}{cs:List D}:qi P t cs k=bn (cM P t) λb=>match b with
 |true=>aJ P t≠0/\aJ P t<=cs.length/\k (.agg (cs.take (aJ P t)))
 |false=>rq cs k:=rfl
@[go_sem] theorem adU {t:TypeId}{i off:Nat}:jW P bx t (.box i off) k=lO bx i λcs=>qi P t (cs.drop off) k:=rfl
@[go_sem] theorem adT {t:TypeId}{cs:List D}:jW P bx t (.ro cs) k=qi P t cs k:=rfl
@[go_sem] theorem adJ {i off o:Nat}:py (.box i off) o k=k (.box i (off + o)):=rfl
@[go_sem] theorem adI {cs:List D}{o:Nat}:py (.ro cs) o k=k (.ro (cs.drop o)):=rfl
@[go_sem] theorem aoh:vn 1 1=1:=rfl
@[go_sem] theorem aog:vn 2 1=0:=rfl
@[go_sem] theorem aol {a b:IntKind}{n m:Int}{k:D->Prop}:vM (.int a n) (.int b m) k=iI (.int a n) (.int b m) λa n m=>jV a (n + m)/\k (.int a (n + m)):=rfl
@[go_sem] theorem aok {a b:ByteArray}{k:D->Prop}:vM (.str a) (.str b) k=(a.size + b.size<=9223372036854775807/\k (.str (a++b))):=rfl
@[go_sem] theorem an2 {t:TypeId}{s:ByteArray}{lo hi:Option D}{k:D->Prop}:sE P t (.str s) lo hi k=(jX P t=true/\lh hi s.size s.size λh=>lh lo 0 h λl=>k (.str (s.extract l h))):=rfl
@[congr] theorem anv {x x' y y':D}{k:D->Prop}(h:x=x')(h':y=y'):vM x y k=vM x' y' k:=by rw[h,h']
attribute[go_sem] um uh C5 sI uk yd jX
@[go_sem] theorem adM {t:TypeId}{cs:List D}{off:Nat}:yb P t cs off k=bn (cM P t) λb=>match b with
 |true=>aJ P t≠0/\off + aJ P t<=cs.length/\k (.agg ((cs.drop off).take (aJ P t)))
 |false=>bn cs[off]? k:=rfl
@[go_sem] theorem adZ {t:TypeId}{cs:List D}{ix:D}:uj P t (.agg cs) ix k=yd P t (.agg cs) ix k:=rfl
@[go_sem] theorem adY {t:TypeId}{b:ByteArray}{ix:D}:uj P t (.str b) ix k=(jX P t=true/\jx ix λ_ n=>0<=n/\∃hl:n.toNat < b.size,k (.int .u8 (b[n.toNat]'hl).toNat)):=rfl
@[go_sem] theorem adV {t:TypeId}{x:D}:sH P t rw x k=match elemOf P t with
 |some _=>(match x with
  | .list xs=>k (.int .i64 xs.length)
  | .own r=>bn rw[r]? λrow=>k (.int .i64 row.xs.length)
  | .val (.slice none 0 0)=>k (.int .i64 0)
  | .a_ _ _ n _=>k (.int .i64 n)
  |_=>False)
 |none=>jX P t=true/\(match x with
  | .str s=>k (.int .i64 s.size)
  |_=>False):=rfl
@[go_sem] theorem adE {t:TypeId}{i off:Nat}{d:D}:qj P s t (.box i off) d K=match s.bx[i]? with
  |some (.mu cs)=>aJ P t≠0/\d.cells.length=aJ P t/\d.cells.all D.one=true/\off + d.cells.length<=cs.length/\
    K {s with bx:=s.bx.set i (.mu (cs.take off++d.cells++cs.drop (off + d.cells.length)))}
  |_=>False:=rfl
@[go_sem] theorem aea {t:TypeId}{dx dy:D}:qk P s dst t dx dy K=bn (elemOf P t) λe=>aJ P e≠0/\(bX P e).isSome=true/\lM s.rw dy λys=>(∀y∈ys,y.cells.length=aJ P e)/\
  match dx with
  | .own r=>bn s.rw[r]? λrow=>row.live=true/\row.e=e/\row.sz=aJ P e/\row.xs.length + ys.length<=9223372036854775807/\
    (row.xs.length + ys.length) * bytesOf P e<=140737488355328/\K ((s.appended r ⟨true,e,aJ P e,row.xs++ys⟩).put dst (.own r))
  | .val (.slice none 0 0)=>ys.length<=9223372036854775807/\ys.length * bytesOf P e<=140737488355328/\
    K (St.put {s with rw:=s.rw++[⟨true,e,aJ P e,ys⟩]} dst (.own s.rw.length))
  |_=>False:=rfl
attribute[go_sem] D.cells D.one nO mQ oI nP mS iU mR gJ qX sP oH kS bC gI iT D.oL pE cF dn
def jz (r:Nat)(sl:Nat->D):Nat->D:=λm=>gI r (sl m)
@[go_sem] theorem agd {r:Nat}{row:Row}:s.appended r row=⟨s.n,jz r s.sl,s.bx.map (iT r),s.rw.set r row⟩:=rfl
@[go_sem] theorem nM {sl:Nat->D}{n r:Nat}{v:D}:jz r (Ab.put sl n v)=Ab.put (jz r sl) n (gI r v):=by
 funext m;simp only[jz,Ab.put];split<;>rfl
@[go_sem] theorem nN {r:Nat}:jz r eC=eC:=rfl
theorem kM:(∀p:Prop,(True/\p)=p)/\(∀p:Prop,(p/\True)=p)/\(∀p:Prop,(False->p)=True)/\(∀p:Prop,(True->p)=p)/\(∀p:Prop,(False/\p)=False)/\(∀p:Prop,(p\/False)=p)/\(∀p:Prop,(False\/p)=p)/\
  (∀b:Bool,(b&&true)=b)/\(∀b:Bool,(true&&b)=b)/\(∀b:Bool,(b&&false)=false)/\(∀b:Bool,(false&&b)=false)/\
  (∀b:Bool,(b||true)=true)/\(∀b:Bool,(true||b)=true)/\(∀b:Bool,(b||false)=b)/\(∀b:Bool,(false||b)=b)/\((!true)=false)/\((!false)=true)/\(∀b:Bool,(!!b)=b)/\
  (∀(p:Prop) [Decidable p],(decide p=true)=p)/\(∀(p:Prop) [Decidable p],(decide p=false)=¬p)/\(∀b:Bool,((!b)=true)=(b=false))/\(∀b:Bool,((!b)=false)=(b=true))/\
  (∀n:Nat,(n:Int).toNat=n)/\(∀n:Nat,(0<=(n:Int))=True)/\(∀(p q:Bool),((p&&q)=true)=(p=true/\q=true))/\(∀p:Prop,(¬¬p)=p)/\((decide True)=true)/\((decide False)=false):=
 ⟨λ_=>by simp,λ_=>by simp,λ_=>by simp,λ_=>by simp,λ_=>by simp,λ_=>by simp,λ_=>by simp,ak,ak,ak,ak,ak,ak,ak,ak,rfl,rfl,ak,
  λ_=>by simp,λ_=>by simp,λ_=>by simp,λ_=>by simp,λ_=>by simp,λ_=>by simp,λ_ _=>by simp,λ_=>by simp,rfl,rfl⟩
theorem bF:(∀{α β:Type} (f:α->β) (l:List α),(l.map f).length=l.length)/\(∀{α:Type} (a:α) (l:List α),(a::l).length=l.length + 1)/\(∀{α:Type},([]:List α).length=0)/\
  (∀{α:Type} (l l':List α),(l++l').length=l.length + l'.length)/\(∀{α:Type} (l:List α),l.drop 0=l)/\(∀{α:Type} (a:α) (l:List α) (n:Nat),(a::l).drop (n + 1)=l.drop n)/\(∀{α:Type} (n:Nat),([]:List α).drop n=[])/\
  (∀{α:Type} (l:List α),l.take 0=[])/\(∀{α:Type} (a:α) (l:List α) (n:Nat),(a::l).take (n + 1)=a::l.take n)/\(∀{α:Type} (n:Nat),([]:List α).take n=[])/\
  (∀{α:Type} (l:List α),[]++l=l)/\(∀{α:Type} (a:α) (l l':List α),(a::l)++l'=a::(l++l'))/\(∀{α:Type} (l:List α),l++[]=l)/\
  (∀{α:Type} (a:α) (l:List α),(a::l)[0]? =some a)/\(∀{α:Type} (a:α) (l:List α) (n:Nat),(a::l)[n + 1]? =l[n]?)/\(∀{α:Type} (n:Nat),([]:List α)[n]? =none)/\
  (∀{α:Type} (a b:α) (l:List α),(a::l).set 0 b=b::l)/\(∀{α:Type} (a b:α) (l:List α) (n:Nat),(a::l).set (n + 1) b=a::l.set n b)/\
  (∀{α β:Type} (f:α->β) (a:α) (l:List α),(a::l).map f=f a::l.map f)/\(∀{α β:Type} (f:α->β),([]:List α).map f=[])/\
  (∀{α:Type} (p:α->Bool) (a:α) (l:List α),(a::l).all p=(p a&&l.all p))/\(∀{α:Type} (p:α->Bool),([]:List α).all p=true)/\
  (∀{α β:Type} (f:α->β) (a:α),(some a).map f=some (f a))/\(∀{α β:Type} (f:α->β),(none:Option α).map f=none)/\(∀{α β:Type} (f:α->Option β) (a:α),(some a).bind f=f a)/\
  (∀{α:Type} (a:α),(some a).isSome=true)/\(∀{α β:Type} (f:α->β->β) (b:β) (a:α) (l:List α),(a::l).foldr f b=f a (l.foldr f b))/\(∀{α β:Type} (f:α->β->β) (b:β),([]:List α).foldr f b=b)/\
  (∀{α:Type} (p:α->Prop) (a:α) (l:List α),(∀x∈a::l,p x)=(p a/\∀x∈l,p x))/\(∀{α:Type} (p:α->Prop),(∀x∈([]:List α),p x)=True)/\(dB 0=[])/\(dB 1=[0])/\(dB 2=[0,1])/\(dB 3=[0,1,2])/\(dB 4=[0,1,2,3]):=
 ⟨λ_ _=>by simp,λ_ _=>by simp,by simp,λ_ _=>by simp,λ_=>by simp,λ_ _ _=>by simp,λ_=>by simp,λ_=>by simp,λ_ _ _=>by simp,λ_=>by simp,λ_=>by simp,λ_ _ _=>by simp,λ_=>by simp,
  λ_ _=>by simp,λ_ _ _=>by simp,λ_=>by simp,λ_ _ _=>by simp,λ_ _ _ _=>by simp,λ_ _ _=>by simp,λ_=>by simp,λ_ _ _=>by simp,λ_=>by simp,λ_ _=>by simp,λ_=>by simp,λ_ _=>by simp,
  λ_=>by simp,λ_ _ _ _=>by simp,λ_ _=>by simp,λ_ _ _=>by simp,λ_=>by simp,rfl,rfl,rfl,rfl,rfl⟩
def nth {α:Type}[Inhabited α](xs:List α)(i:Nat):α:=xs.getD i default
theorem uB {α:Type}[Inhabited α](xs:List α)(i:Nat)(h:i < xs.length):nth xs i=xs[i]:=by simp[nth,h]
@[go_sem] theorem adN {α:Type}[Inhabited α]{f:α->D}{xs:List α}{n:Int}:sF (xs.map f) n k=((0<=n/\n < xs.length)/\k (f (nth xs n.toNat))):=by
 unfold sF;refine propext ⟨λ⟨h0,d,hd,hk⟩=> ?_,λ⟨⟨h0,h1⟩,hk⟩=> ?_⟩
 ·have hl:=(bm.1 hd).1;simp only[List.length_map]at hl;rw[dO,cX hl]at hd;simp only[eW,Option.some.injEq]at hd;refine⟨⟨h0,ag⟩, ?_⟩;rw[uB xs _ hl,hd];exact hk
 ·have hl:n.toNat < xs.length:=ag;refine⟨h0,_,by rw[dO,cX hl];rfl, ?_⟩;rw[uB xs _ hl]at hk;exact hk
end eqs
theorem aR {P:Program}{f:FuncId}{fn:Func}{code:Code}{ds:List D}{d:D}{n:Nat}{rs:Array ResultVar}(hf:P.funcs[f]? =some fn)(hn:fn.ntmps=n)(hr:fn.results=rs)
  (hc:∀(args:Array Value) (w:World),(callFunc f args).run P w= .ok (.enter f args) w)(hb:fn.body=some code)(hl:ds.length<=n)
  (h:∀(w0:World) (S0:Addr->Prop) (M0:MM),az ⟨P,w0,S0,M0,none,λb=>w0.heap.size<=b,[]⟩ code (bC P rs d) ⟨n,oK 0 ds,[],[]⟩):ax P f ds d:=by
 subst hn;subst hr
 refine afV hf hb hc hl ?_;rintro⟨_,w0,S0,M0,l,own,b0⟩ h1 h2 h3 h4;simp only at h1 h2 h3 h4;subst h1;subst h2;subst h3;subst h4
 exact h w0 S0 M0
theorem bI {c:Ctx}{x:Operand}{t e:Code}{Q:Exit->St->Prop}{s:St}(h:lg (s.ev x) λb=>(b=true->az c t Q s)/\(b=false->az c e Q s)):az c (.cond x t e) Q s:=by
 cases hs:s.ev x<;>rw[hs]at h<;>simp only[lg]at h
 exact agK _ hs h.1 h.2
theorem wk {n:Int}(h1: -9223372036854775808<=n)(h2:n<=9223372036854775807):jV .i64 n:=⟨h1,h2⟩
attribute[go_sem] dA db
def bZ (nb nr:Nat):List Bx->Bool
 |[]=>true
 | .mu cs::bs=>db nb nr cs&&bZ nb nr bs
 | .mp es::bs=>(es.all λp=>dA nb 0 p.1&&dA nb 0 p.2)&&bZ nb nr bs
 |_::bs=>bZ nb nr bs
attribute[go_sem] bZ
theorem qo {nb nr:Nat}:∀(bs:List Bx),bZ nb nr bs=true->∀(i:Nat) (x:Bx),bs[i]? =some x->x.Db nb nr
 |[],_,i,x,hi=>by simp at hi
 | .mu dp::bs,h,i,x,hi=>by
  simp only[bZ,dZ]at h;cases i with
  |zero=>simp at hi;subst hi;exact yx _ h.1
  |succ i=>exact qo bs h.2 i x (by simpa using hi)
 | .mp es::bs,h,i,x,hi=>by
  simp only[bZ,dZ]at h;cases i with
  |zero=>
   simp at hi;subst hi
   intro p hp;have:=ic.1 h.1 p hp;simp only[dZ]at this;exact⟨sZ _ this.1,sZ _ this.2⟩
  |succ i=>exact qo bs h.2 i x (by simpa using hi)
 | .fz _::bs,h,i,x,hi=>by
  cases i with
  |zero=>simp at hi;subst hi;trivial
  |succ i=>exact qo bs (by simpa[bZ]using h) i x (by simpa using hi)
 | .dead::bs,h,i,x,hi=>by
  cases i with
  |zero=>simp at hi;subst hi;trivial
  |succ i=>exact qo bs (by simpa[bZ]using h) i x (by simpa using hi)
def dD (n:Nat)(l:List (Nat×D))(bx:List Bx)(rw:List Row):St:=⟨n,l.foldr (λp f=>put f p.1 p.2) eC,bx,rw⟩
theorem gT {n:Nat}{l:List (Nat×D)}{bx:List Bx}{rw:List Row}(h:(l.all λp=>dA bx.length rw.length p.2)=true)(hb:bZ bx.length rw.length bx=true):(dD n l bx rw).named:=by
 refine⟨λm=> ?_,qo bx hb⟩;simp only[dD];clear hb;induction l with
 |nil=>exact .undef
 |cons p l ih=>
  simp only[List.all_cons,dZ]at h;simp only[List.foldr_cons,put];split
  ·exact sZ _ h.1
  ·exact ih h.2
theorem aV {s:St}{n:Nat}{l:List (Nat×D)}{bx:List Bx}{rw:List Row}(hn:s.n=n)(hl:∀p∈l,s.sl p.1=p.2)(hb:∃t,s.bx=bx++t)(hr:∃t,s.rw=rw++t):
  Le s (dD n l bx rw):=by
 refine⟨hn.symm,λm=> ?_,hb,hr⟩;simp only[dD];clear hb hr;induction l with
 |nil=>exact .inl rfl
 |cons p l ih=>
  simp only[List.foldr_cons,put];by_cases h:m=p.1
  ·rw[if_pos h];subst h;exact .inr (hl p (ey ..))
  ·rw[if_neg h];exact ih (λq hq=>hl q (fE _ hq))
theorem dH {c:Ctx}{body:Code}{Q:Exit->St->Prop}{s:St}{ι:Type}{n:Nat}(l:ι->List (Nat×D))(bx:ι->List Bx)(rw:ι->List Row)(p:ι->Prop)(μ:ι->Nat)
  (hn:∀i,p i->((l i).all λq=>dA (bx i).length (rw i).length q.2)=true/\bZ (bx i).length (rw i).length (bx i)=true)
  (i0:ι)(h0:p i0)(hle:Le s (dD n (l i0) (bx i0) (rw i0)))
  (round:∀i,p i->az c body (cF (λs'=>∃j,p j/\μ j < μ i/\Le s' (dD n (l j) (bx j) (rw j))) Q) ⟨n,(l i).foldr (λp f=>put f p.1 p.2) eC,bx i,rw i⟩)(hβ:∀i,p i->c.β0.length<=(bx i).length:=by first|exact λ_ _=>Nat.zero_le _|(intros;simp;omega)):az c (.loop body) Q s:=
 agH (λi=>dD n (l i) (bx i) (rw i)) p μ (λi hp=>gT (hn i hp).1 (hn i hp).2) hβ i0 h0 hle round
theorem bl {P:Program}{f:FuncId}{ds:List D}{ops l:List Oper}{s:St}{dst:Option Tmp}{K:St->Prop}{d:D}(h:ax P f ds d)(hk:cq P ops l (s.put dst d) K):dR P f ds ops l s dst K:=⟨d,h,hk⟩
end Go.Ab
namespace Go.Ab
@[go_sem] theorem aoF {P:Program}{t:TypeId}:BY P t=bytesOf P t:=rfl
end Go.Ab
namespace Go.Ab
attribute[go_sem↓] adk adj adl acy WO WK Wj WN Wn WM Wl WL Wi WH WG WC WE WA WB Wv WJ Wy Wp Wo Ws Wk Wr Wx WI Ww Wq Wz Wt V7 V5 V6 ado adp Wm Wu adL adK adS adB adR adP aen YB adi adn adm ad8 adX adW aeb adC adF ad3 adO ad_ ad9 Rg ad6 adQ ad7 ad5 ad4 adH adG ad1 adD adU adT adJ adI adM adZ adY adV adE aea agd adN
end Go.Ab
end
section
namespace Go.Ab
open Go.RowKit
structure CP {α:Type}(V:(α->Prop)->Prop):Prop where
 mono:∀{k k':α->Prop},(∀a,k a->k' a)->V k->V k'
 ex:∀{k:α->Prop},V k->∃a,V (λx=>x=a)/\k a
theorem CP.ret {α:Type}(a:α):CP (λk:α->Prop=>k a):=⟨λh hk=>h _ hk,λhk=>⟨a,rfl,hk⟩⟩
theorem CP.no {α:Type}:CP (λ_:α->Prop=>False):=⟨λ_ h=>h,λh=>h.elim⟩
theorem CP.and {α:Type}{V:(α->Prop)->Prop}(p:Prop)(h:CP V):CP (λk=>p/\V k):=
 ⟨λhk ⟨hp,hv⟩=>⟨hp,h.mono hk hv⟩,λ⟨hp,hv⟩=>let⟨a,h1,h2⟩:=h.ex hv;⟨a,⟨hp,h1⟩,h2⟩⟩
theorem CP.gW {α:Type}(p:Prop)(a:α):CP (λk:α->Prop=>p/\k a):= .and p (.ret a)
theorem CP.bind {α β:Type}{V:(α->Prop)->Prop}{U:α->(β->Prop)->Prop}(h:CP V)(hu:∀a,CP (U a)):CP (λk=>V λa=>U a k):=
 ⟨λhk hv=>h.mono (λa=>(hu a).mono hk) hv,λhv=>by
  obtain⟨a,h1,h2⟩:=h.ex hv;obtain⟨b,h3,h4⟩:=(hu a).ex h2;exact⟨b,h.mono (λx hx=>by rw[hx];exact h3) h1,h4⟩⟩
theorem CP.HQ {α:Type}{β:Sort _}{U:β->(α->Prop)->Prop}(hu:∀b,CP (U b)):CP (λk=>∃b,U b k):=
 ⟨λhk ⟨b,h⟩=>⟨b,(hu b).mono hk h⟩,λ⟨b,h⟩=>let⟨a,h1,h2⟩:=(hu b).ex h;⟨a,⟨b,h1⟩,h2⟩⟩
section
variable {P:Program}
theorem RJ (d:D):CP (lg d):=by cases d<;>first|exact .ret _|exact .no
theorem od {β:Type}(d:D){U:IntKind->Int->(β->Prop)->Prop}(hu:∀q n,CP (U q n)):CP (λk=>jx d λq n=>U q n k):=by
 cases d<;>first|exact hu _ _|exact .no
theorem w_ {β:Type}(x y:D){U:IntKind->Int->Int->(β->Prop)->Prop}(hu:∀q n m,CP (U q n m)):CP (λk=>iI x y λq n m=>U q n m k):=
 od x λq n=>od y λ_ m=> .and _ (hu q n m)
theorem RL (d:D):CP (uo d):=by cases d<;>first|exact .ret _|exact .no
theorem aeM (d:D):CP (rn d):=by cases d<;>first|exact .ret _|exact .no
theorem gg {α:Type}(o:Option α):CP (bn o):=by cases o<;>first|exact .ret _|exact .no
theorem H5 (t:TypeId)(x y:D):CP (nI P t x y):=by
 unfold nI;split<;>first|exact .no|exact .gW _ _|exact .ret _|exact .and _ (.and _ (.gW _ _))|exact(gg _).bind λ_=>(gg _).bind λ_=> .and _ (.gW _ _)
theorem RI (bx:List Bx)(i:Nat):CP (lO bx i):=by
 unfold lO;cases bx[i]? with
 |none=>exact .no
 |some b=>cases b<;>first|exact .ret _|exact .no
theorem aeP (rw:List Row)(d:D):CP (lM rw d):=by
 cases d<;>first|exact .ret _|exact .no|skip
 rename_i r;show CP (λk:List D->Prop=>match rw[r]? with|some row=>k row.xs|none=>False);cases rw[r]? <;>first|exact .ret _|exact .no
theorem aeS (xs:List D)(n:Int):CP (sF xs n):= .and _ (.HQ λd=> .gW _ d)
theorem aeZ (cs:List D):CP (rq cs):=by cases cs<;>first|exact .ret _|exact .no
theorem RA (t:TypeId)(cs:List D):CP (qi P t cs):=(gg _).bind λb=>by
 cases b
 ·exact aeZ _
 ·exact .and _ (.gW _ _)
theorem aeU (bx:List Bx)(t:TypeId)(d:D):CP (jW P bx t d):=by
 cases d<;>first|exact .no|exact RA _ _|exact(RI _ _).bind λ_=>RA _ _
theorem RC (d:D)(o:Nat):CP (py d o):=by cases d<;>first|exact .no|exact .ret _
theorem ae6 (x y:D):CP (vM x y):=by
 cases x
 case str a=>cases y<;>first|exact .no|exact .gW _ _
 all_goals exact w_ _ y λ_ _ _=> .gW _ _
theorem ae5 (t:TypeId)(op:BinOp)(x y:D):CP (um P t op x y):=by
 have he:=H5 (P:=P) t x y;cases op<;>first
  |exact .no
  |exact ae6 x y
  |exact w_ x y λ_ _ _=> .ret _
  |exact w_ x y λ_ _ _=> .gW _ _
  |exact w_ x y λ_ _ _=> .and _ (.gW _ _)
  |exact w_ x y λ_ _ _=> .and _ (.and _ (.gW _ _))
  |exact w_ x y λ_ _ _=> .and _ (.and _ (.and _ (.gW _ _)))
  |(show CP (λk:D->Prop=>nI P t x y λb=>k (.bool b));exact CP.bind (U:=λ(b:Bool) (k:D->Prop)=>k (.bool b)) (H5 t x y) λb=>CP.ret (D.bool b))
  |(show CP (λk:D->Prop=>nI P t x y λb=>k (.bool (!b)));exact CP.bind (U:=λ(b:Bool) (k:D->Prop)=>k (.bool (!b))) (H5 t x y) λb=>CP.ret (D.bool (!b)))
  |exact od x λ_ _=>od y λ_ _=> .and _ (.gW _ _)
  |exact od x λ_ _=>od y λ_ _=> .and _ (.and _ (.gW _ _))
theorem aeL (op:UnOp)(x:D):CP (uh op x):=by
 cases op<;>first|exact .no|exact(RJ x).bind λ_=> .ret _|exact od x λ_ _=> .gW _ _
theorem aeX (rw:List Row)(t:TypeId)(x ix:D):CP (sI P rw t x ix):=by
 unfold sI;cases Ab.elemOf P t with
 |some e=>cases x<;>first|exact(aeP rw _).bind λ_=>od ix λ_ _=>(aeS _ _).bind λ_=> .and _ (.gW _ _)|exact od ix λ_ _=> .and _ (.and _ (.gW _ _))
 |none=>exact(gg _).bind λ_=>od ix λ_ _=> .and _ (.and _ (.and _ (RC _ _)))
theorem RD (t:TypeId)(cs:List D)(o:Nat):CP (yb P t cs o):=(gg _).bind λb=>by
 cases b
 ·exact gg _
 ·exact .and _ (.gW _ _)
theorem aeY (t:TypeId)(x ix:D):CP (yd P t x ix):=(gg _).bind λ_=>(RL x).bind λ_=>od ix λ_ _=> .and _ (.and _ (.and _ (RD _ _ _)))
theorem aeW (t:TypeId)(x ix:D):CP (uj P t x ix):=by
 cases x<;>first|exact aeY _ _ _|exact .and _ (od ix λ_ _=> .and _ (.HQ λ_=> .ret _))
theorem ae1 (t:TypeId)(x:D)(f:Nat):CP (uk P t x f):=(gg _).bind λ_=>(RL x).bind λ_=>RD _ _ _
theorem ae0 {β:Type}(d:D){U:FuncId->List D->List D->(β->Prop)->Prop}(hu:∀f fs cs,CP (U f fs cs)):CP (λk=>lN d λf fs cs=>U f fs cs k):=by
 cases d<;>first|exact hu _ _ _|exact .no
theorem zo {β:Type}(d:Option D)(n m:Nat){U:Nat->(β->Prop)->Prop}(hu:∀n,CP (U n)):CP (λk=>lh d n m λj=>U j k):=by
 cases d
 ·exact hu _
 ·exact od _ λ_ _=> .and _ (.and _ (hu _))
theorem aeO (t:TypeId)(x:D)(lo hi:Option D):CP (sE P t x lo hi):=by
 cases x<;>first|exact .no|exact(gg _).bind λ_=>zo _ _ _ λ_=>zo _ _ _ λ_=> .gW _ _|exact .and _ (zo _ _ _ λ_=>zo _ _ _ λ_=> .ret _)|exact(gg _).bind λ_=>zo _ _ _ λ_=>zo _ _ _ λ_=> .and _ (.gW _ _)
theorem ae3 (s t:TypeId)(x:D):CP (rr P s t x):=by
 unfold rr;split
 ·exact .and _ ((gg _).bind λ_=>(gg _).bind λ_=> .and _ ((gg _).bind λ_=> .ret _))
 ·exact(gg _).bind λ_=>(gg _).bind λ_=>od _ λ_ _=> .gW _ _
theorem ae4 (f:FuncId)(ds:List D):CP (dI P f ds):= .HQ λ_=> .gW _ _
theorem aeV (t:TypeId)(rw:List Row)(x:D):CP (sH P t rw x):=by
 unfold sH;cases Ab.elemOf P t with
 |some e=>
  cases x<;>first|exact .ret _|exact .no|exact(gg _).bind λ_=> .ret _|skip
  rename_i v;simp only;split<;>first|exact .ret _|exact .no|exact(gg _).bind λ_=> .ret _
 |none=>exact .and _ (by cases x<;>first|exact .ret _|exact .no)
theorem aeQ (d:D):CP (ui d):=by cases d<;>first|exact .ret _|exact .no
theorem RH (t:TypeId)(es:List (D×D))(dk:D):CP (yc P t es dk):=(gg _).bind λ_=>(gg _).bind λ_=> .and _ (.and _ (.ret _))
theorem RF (bx:List Bx)(i:Nat):CP (oE bx i):=by
 unfold oE;cases bx[i]? with
 |none=>exact .no
 |some b=>cases b<;>first|exact .ret _|exact .no
theorem aeT (bx:List Bx)(t:TypeId)(x dk:D)(ok:Bool):CP (sG P bx t x dk ok):=by
 cases x<;>first|exact .no|exact(RF _ _).bind λ_=>(RH _ _ _).bind λ_=>(gg _).bind λ_=> .ret _
theorem Rz (bx:List Bx)(t:TypeId)(x dk dv:D):CP (rm P bx t x dk dv):=by
 cases x<;>first|exact .no|exact(RF _ _).bind λ_=>(RH _ _ _).bind λ_=> .and _ (.ret _)
theorem aeR (o:Op)(ρ:Operand->D)(rw:List Row):CP (lT P o ρ rw):=by
 unfold lT;split<;>first
  |exact .ret _
  |exact(RJ _).bind λ_=> .ret _
  |exact ae5 _ _ _ _
  |exact aeL _ _
  |exact aeQ _
  |exact .gW _ _
  |exact ae3 _ _ _
  |exact(aeM _).bind λ_=>gg _
  |exact(gg _).bind λ_=>RC _ _
  |exact ae1 _ _ _
  |exact aeX _ _ _ _
  |exact aeW _ _ _
  |exact(gg _).bind λ_=>(gg _).bind λ_=>(gg _).bind λ_=> .ret _
  |exact aeV _ _ _
  |exact w_ _ _ λ_ _ _=> .ret _
  |exact aeO _ _ _ _
  |exact .no
theorem RE (o:Op)(ρ:Operand->D)(bx:List Bx)(rw:List Row):CP (ez P o ρ bx rw):=by
 unfold ez;split<;>first
  |exact aeU _ _ _
  |exact aeT _ _ _ _ _
  |exact(gg _).bind λ_=> .and _ (.and _ (.and _ (.and _ ((gg _).bind λ_=> .gW _ _))))
  |exact ae0 _ λ_ _ _=>(gg _).bind λ_=>ae4 _ _
  |exact aeR _ _ _
inductive Kd where
 |A|B|L|W|X
 deriving DecidableEq
def kindOf:Op->Kd
 | .nilCheck _| .makeInterface .. | .move _| .assign _| .pick .. | .binOp .. | .unOp .. | .convert .. | .extract .. | .fieldAddr .. | .field .. | .indexAddr .. | .index .. | .makeFunc .. | .build .. | .slice .. => .A
 | .load .. | .lookup .. | .buildSlice .. => .B
 | .call ⟨.value _,_,_⟩=> .B
 | .call ⟨.builtin .len,_,_⟩=> .A
 | .call ⟨.builtin .max,_,_⟩=> .A
 | .call ⟨.builtin .min,_,_⟩=> .A
 | .alloc _| .box .. => .L
 | .makeMap _ none=> .L
 | .store .. => .W
 | .mapUpdate .. | .insert .. => .W
 | .call ⟨.builtin .copy,_,_⟩=> .W
 |_=> .X
def cL (sl:Nat->D):Operand->D
 | .tmp t=>sl t
 | .const v=>tJ v
 | .global g=> .val (.pointer (some ⟨g,0,none⟩))
 | .func f=> .aD f []
theorem zi (s:St):s.ev=cL s.sl:=by funext x;cases x<;>rfl
theorem Nq {o:Oper}{s:St}{K:St->Prop}(h:kindOf o.op= .A\/kindOf o.op= .B):c_ P o s K↔bp s o.dst/\ez P o.op (cL s.sl) s.bx s.rw λd=>K (s.put o.dst d):=by
 rw[<-zi];obtain⟨dst,op,ty,pos,aft,gd⟩:=o;cases op<;>first|exact lK|(simp only[kindOf,reduceCtorEq,or_self]at h;done)|(rename_i r;cases r<;>(simp only[kindOf,reduceCtorEq,or_self]at h;done))|skip
 rename_i cl;obtain⟨callee,args,at_⟩:=cl;cases callee with
 |value f=>exact lK
 |invoke r m=>exact lK
 |builtin b=>
  cases b<;>first|exact lK|(simp only[kindOf,reduceCtorEq,or_self]at h;done)
theorem C_ {o:Op}{ρ:Operand->D}{bx aF:List Bx}{rw:List Row}{k:D->Prop}(h:kindOf o= .A):ez P o ρ bx rw k->ez P o ρ aF rw k:=by
 cases o<;>first|exact id|(simp only[kindOf,reduceCtorEq]at h;done)|(rename_i r;cases r<;>(simp only[kindOf,reduceCtorEq]at h;done))|skip
 rename_i cl;obtain⟨callee,args,at_⟩:=cl;cases callee with
 |value f=>simp only[kindOf,reduceCtorEq]at h
 |invoke r m=>exact id
 |builtin b=>exact id
theorem FO {bx t:List Bx}{rw:List Row}{d d':D}(h:nO bx rw d=some d'):nO (bx++t) rw d=some d':=by
 unfold nO at h⊢;have key:∀i:Nat,i < bx.length\/bx[i]? =none:=λi=>by
  rcases fL i bx.length with aU|il
  ·exact .inl aU
  ·exact .inr (qd il)
 split at h<;>first|exact h|skip
 case h_2 i off=>
  rcases key i with hi|hi
  ·rw[cZ hi];exact h
  ·rw[hi]at h;cases h
 case h_3 i off n c=>
  rcases key i with hi|hi
  ·rw[cZ hi];exact h
  ·rw[hi]at h;cases h
theorem FU {bx t:List Bx}{rw:List Row}:∀{ds cu:List D},mQ bx rw ds=some cu->mQ (bx++t) rw ds=some cu
 |[],cu,h=>h
 |d::ds,cu,h=>by
  simp only[mQ]at h⊢;split at h
  ·rename_i d1 h1;rw[FO h1];simp only[cS]at h⊢;obtain⟨l,hl,rfl⟩:=h;exact⟨l,FU hl,rfl⟩
  ·cases h
theorem YL {bx t:List Bx}{rw:List Row}{d d':D}(h:oI bx rw d=some d'):oI (bx++t) rw d=some d':=by
 unfold oI at h⊢;split at h
 ·simp only[cS]at h⊢;obtain⟨l,hl,rfl⟩:=h;exact⟨l,FU hl,rfl⟩
 ·exact FO h
theorem Ob {bx t:List Bx}{rw:List Row}:∀{ds cu:List D},nP bx rw ds=some cu->nP (bx++t) rw ds=some cu
 |[],cu,h=>h
 |d::ds,cu,h=>by
  simp only[nP]at h⊢;split at h
  ·rename_i d1 h1;rw[YL h1];simp only[cS]at h⊢;obtain⟨l,hl,rfl⟩:=h;exact⟨l,Ob hl,rfl⟩
  ·cases h
theorem Of {bx t:List Bx}{rw:List Row}{d d':D}(h:mS bx rw d=some d'):mS (bx++t) rw d=some d':=by
 unfold mS at h⊢;split at h
 ·simp only[cS]at h⊢;obtain⟨l,hl,rfl⟩:=h;exact⟨l,Ob hl,rfl⟩
 ·simp only[cS]at h⊢;obtain⟨l,hl,rfl⟩:=h;exact⟨l,FU hl,rfl⟩
 ·exact FO h
theorem FQ {bx t:List Bx}{rw:List Row}:∀{ds cu:List D},iU bx rw ds=some cu->iU (bx++t) rw ds=some cu
 |[],cu,h=>h
 |d::ds,cu,h=>by
  simp only[iU]at h⊢;split at h
  ·rename_i d1 h1;rw[Of h1];simp only[cS]at h⊢;obtain⟨l,hl,rfl⟩:=h;exact⟨l,FQ hl,rfl⟩
  ·cases h
theorem YO {bx t:List Bx}{rw:List Row}{d d':D}(h:mR bx rw d=some d'):mR (bx++t) rw d=some d':=by
 unfold mR at h⊢;split at h
 ·simp only[cS]at h⊢;obtain⟨l,hl,rfl⟩:=h;exact⟨l,FQ hl,rfl⟩
 ·simp only[cS]at h⊢;obtain⟨l,hl,rfl⟩:=h;exact⟨l,FQ hl,rfl⟩
 ·exact h
 ·exact Of h
theorem C3 {bx t:List Bx}{rw:List Row}:∀{ds cu:List D},gJ bx rw ds=some cu->gJ (bx++t) rw ds=some cu
 |[],cu,h=>h
 |d::ds,cu,h=>by
  simp only[gJ]at h⊢;split at h
  ·rename_i d1 h1;rw[YO h1];simp only[cS]at h⊢;obtain⟨l,hl,rfl⟩:=h;exact⟨l,C3 hl,rfl⟩
  ·cases h
theorem Um {bx t:List Bx}{i:Nat}{k:List D->Prop}(h:lO bx i k):lO (bx++t) i k:=by
 have hi:i < bx.length:=by
  rcases fL i bx.length with aU|il
  ·exact aU
  ·unfold lO at h;rw[qd il]at h;exact h.elim
 unfold lO at h⊢;rw[cZ hi];exact h
theorem Ul {bx t:List Bx}{i:Nat}{k:List (D×D)->Prop}(h:oE bx i k):oE (bx++t) i k:=by
 have hi:i < bx.length:=by
  rcases fL i bx.length with aU|il
  ·exact aU
  ·unfold oE at h;rw[qd il]at h;exact h.elim
 unfold oE at h⊢;rw[cZ hi];exact h
theorem OH {o:Op}{ρ:Operand->D}{bx t:List Bx}{rw:List Row}{k:D->Prop}:ez P o ρ bx rw k->ez P o ρ (bx++t) rw k:=by
 unfold ez;split
 ·intro h;unfold jW at h⊢;split at h<;>first|exact Um h|exact h
 ·intro h;unfold sG at h⊢;split at h<;>first|exact Ul h|exact h
 ·intro h;obtain⟨e,he,h1,h2,h3,h4,h⟩:=cE h;obtain⟨ds,hd,h⟩:=cE h;rw[he];refine⟨h1,h2,h3,h4, ?_⟩;rw[C3 hd];exact h
 ·intro h;unfold lN at h⊢;split at h
  ·obtain⟨ds,hd,h⟩:=cE h;rw[C3 hd];exact h
  ·obtain⟨ds,hd,h⟩:=cE h;rw[C3 hd];exact h
  ·exact h
 ·exact id
theorem OI {o:Op}{ρ ρ':Operand->D}{bx:List Bx}{rw:List Row}{k:D->Prop}(h:∀x∈o.operands,ρ x=ρ' x):ez P o ρ bx rw k->ez P o ρ' bx rw k:=by
 cases o
 case call cl=>
  obtain⟨callee,⟨args⟩,at_⟩:=cl;have ha:args.map ρ=args.map ρ':=re λx hx=>h x (by simp[fi,sA,hx]);cases callee with
  |value f=>
   have hf:ρ f=ρ' f:=h f (by simp[fi,sA]);simp only[ez,hf,ha];exact id
  |invoke r m=>exact id
  |builtin b=>
   cases b<;>first|exact id|skip
   all_goals
    match args,at_,h,ha with
    |[],_,_,_=>exact id
    |[x],⟨[]⟩,_,_=>exact id
    |[x],⟨[t]⟩,h,_=>
     have h1:=h x (by simp[fi,sA]);simp only[ez,lT,h1];exact id
    |[x],⟨_::_::_⟩,_,_=>exact id
    |[x,y],_,h,_=>
     have h1:=h x (by simp[fi,sA]);have h2:=h y (by simp[fi,sA]);simp only[ez,lT,h1,h2];exact id
    |_::_::_::_,_,_,_=>exact id
 case build t ps=>
  have hp:(ps.toList.map λp=>(p.1,ρ p.2))=ps.toList.map λp=>(p.1,ρ' p.2):=re λp hp=>by
   rw[h p.2 (by simp[fi];exact⟨p.1,by simpa using hp⟩)]
  simp only[ez,lT,hp];exact id
 case buildSlice t n ps=>
  have hp:(ps.toList.map λp=>ρ p.2)=ps.toList.map λp=>ρ' p.2:=re λp hp=>by
   rw[h p.2 (by simp[fi];exact⟨p.1,by simpa using hp⟩)]
  simp only[ez,hp];exact id
 case makeFunc fn first cap=>
  have hc:cap.toList.map ρ=cap.toList.map ρ':=re λx hx=>h x (by simp[fi];right;simpa using hx);obtain⟨first⟩:=first
  cases fn<;>first|exact id|skip
  cases first with
  |nil=>simp only[ez,lT,hc];exact id
  |cons x fs=>
   obtain⟨cap⟩:=cap;cases cap with
   |nil=>
    have hf:(x::fs).map ρ=(x::fs).map ρ':=re λy hy=>h y (by simp[fi];simpa using hy);simp only[ez,lT,hf];exact id
   |cons y ys=>exact id
 case slice t x lo hi mx=>
  cases mx with
  |some m=>exact id
  |none=>
   have h1:=h x (by simp[fi]);have h2:lo.map ρ=lo.map ρ':=by cases lo with|none=>rfl|some y=>simp only[eW];rw[h y (by simp[fi])]
   have h3:hi.map ρ=hi.map ρ':=by cases hi with|none=>rfl|some y=>simp only[eW];rw[h y (by simp[fi])]
   simp only[ez,lT,h1,h2,h3];exact id
 all_goals first
  |exact id
  |(have h1:=h _ (by simp only[fi];exact ag8.2 rfl);simp only[ez,lT,h1];exact id)
  |(rename_i a b c
    have h1:=h a (by simp[fi]);have h2:=h b (by simp[fi]);have h3:=h c (by simp[fi])
    simp only[ez,lT,h1,h2,h3];exact id)
  |(rename_i a b c
    have h2:=h b (by simp[fi]);have h3:=h c (by simp[fi])
    simp only[ez,lT,h2,h3];exact id)
  |(rename_i a b c d
    have h2:=h b (by simp[fi]);have h3:=h c (by simp[fi])
    simp only[ez,lT,h2,h3];exact id)
  |(rename_i a b c d e
    have h2:=h c (by simp[fi]);have h3:=h d (by simp[fi])
    simp only[ez,lT,h2,h3];exact id)
end
end Go.Ab
end
section
namespace Go.Ab
open Go.RowKit
section
variable {P:Program}
def jo (P:Program)(o:Op)(ρ:Operand->D)(bx:List Bx)(k:List Bx×D->Prop):Prop:=match o with
 | .alloc t=>bn (bX P t) λzs=>k (bx++[.mu zs], .box bx.length 0)
 | .box _ x=>(ρ x).cells.all D.one=true/\k (bx++[.mu (ρ x).cells], .box bx.length 0)
 | .store t x y=>match ρ x with
  | .box i off=>match bx[i]? with
   |some (.mu cs)=>aJ P t≠0/\(ρ y).cells.length=aJ P t/\(ρ y).cells.all D.one=true/\off + (ρ y).cells.length<=cs.length/\
     k (bx.set i (.mu (cs.take off++(ρ y).cells++cs.drop (off + (ρ y).cells.length))), .undef)
   |_=>False
  |_=>False
 | .call ⟨.builtin .copy,⟨[x,y]⟩,⟨[t,_]⟩⟩=>CD P bx t (ρ x) (ρ y) k
 | .makeMap _ none=>k (bx++[.mp []], .bz bx.length)
 | .mapUpdate t x y z=>rm P bx t (ρ x) (ρ y) (ρ z) k
 | .insert t x y z=>rm P bx t (ρ x) (ρ y) (ρ z) k
 |_=>False
theorem aeN (bx:List Bx)(d:D):CP (vI bx d):=by
 cases d<;>first|exact .no|exact .ret _|exact(RI _ _).bind λ_=> .gW _ _
theorem ae2 (bx:List Bx)(t:TypeId)(dx dy:D):CP (CD P bx t dx dy):=by
 cases dx<;>first|exact .no|skip
 rename_i i off n c;refine(gg _).bind λ_=> .and _ ((aeN _ _).bind λys=> .and _ ?_);cases bx[i]? with
 |none=>exact .no
 |some b=>cases b<;>first|exact .no|exact .gW _ _
theorem sd (o:Op)(ρ:Operand->D)(bx:List Bx):CP (jo P o ρ bx):=by
 unfold jo;split
 ·exact(gg _).bind λ_=> .ret _
 ·exact .gW _ _
 ·split
  ·rename_i i off _;cases bx[i]? with
   |none=>exact .no
   |some b=>cases b<;>first|exact .no|exact .and _ (.and _ (.and _ (.gW _ _)))
  ·exact .no
 ·exact ae2 _ _ _ _
 ·exact .ret _
 ·exact Rz _ _ _ _ _
 ·exact Rz _ _ _ _ _
 ·exact .no
def BO (o:Oper):Prop:=match o.op with| .store .. =>o.dst=none| .mapUpdate .. =>o.dst=none| .insert .. =>o.dst=none|_=>True
theorem V9 {o:Oper}{s:St}{K:St->Prop}(h:kindOf o.op= .L\/kindOf o.op= .W):c_ P o s K↔bp s o.dst/\BO o/\jo P o.op (cL s.sl) s.bx λr=>K (St.put ⟨s.n,s.sl,r.1,s.rw⟩ o.dst r.2):=by
 rw[<-zi];obtain⟨dst,op,ty,pos,aft,gd⟩:=o;cases op<;>first|(simp only[kindOf,reduceCtorEq,or_self]at h;done)|skip
 case alloc=>exact⟨λ⟨h1,h2⟩=>⟨h1,trivial,h2⟩,λ⟨h1,_,h2⟩=>⟨h1,h2⟩⟩
 case box=>exact⟨λ⟨h1,h2⟩=>⟨h1,trivial,h2⟩,λ⟨h1,_,h2⟩=>⟨h1,h2⟩⟩
 case makeMap t r=>
  cases r with
  |none=>exact⟨λ⟨h1,h2⟩=>⟨h1,trivial,h2⟩,λ⟨h1,_,h2⟩=>⟨h1,h2⟩⟩
  |some r=>simp only[kindOf,reduceCtorEq,or_self]at h
 case mapUpdate=>
  refine⟨λ⟨h1,h2⟩=> ?_,λ⟨_,h1,h2⟩=> ?_⟩
  ·have gu:dst=none:=h1;subst gu;exact⟨trivial,rfl,h2⟩
  ·have gu:dst=none:=h1;subst gu;exact⟨rfl,h2⟩
 case insert=>
  refine⟨λ⟨h1,h2⟩=> ?_,λ⟨_,h1,h2⟩=> ?_⟩
  ·have gu:dst=none:=h1;subst gu;exact⟨trivial,rfl,h2⟩
  ·have gu:dst=none:=h1;subst gu;exact⟨rfl,h2⟩
 case store=>
  refine⟨λ⟨h1,h2⟩=> ?_,λ⟨_,h1,h2⟩=> ?_⟩
  ·have gu:dst=none:=h1;subst gu;exact⟨trivial,rfl,h2⟩
  ·have gu:dst=none:=h1;subst gu;exact⟨rfl,h2⟩
 case call cl=>
  obtain⟨callee,args,at_⟩:=cl;cases callee with
  |value f=>simp only[kindOf,reduceCtorEq,or_self]at h
  |invoke r m=>simp only[kindOf,reduceCtorEq,or_self]at h
  |builtin b=>
   cases b<;>first|(simp only[kindOf,reduceCtorEq,or_self]at h;done)|skip
   obtain⟨args⟩:=args;obtain⟨at_⟩:=at_
   match args,at_ with
   |[x,y],[t,t']=>exact⟨λ⟨h1,h2⟩=>⟨h1,trivial,h2⟩,λ⟨h1,_,h2⟩=>⟨h1,h2⟩⟩
   |[],_=>exact⟨λh=>h.2.elim,λh=>h.2.2.elim⟩
   |[_],_=>exact⟨λh=>h.2.elim,λh=>h.2.2.elim⟩
   |_::_::_::_,_=>exact⟨λh=>h.2.elim,λh=>h.2.2.elim⟩
   |[_,_],[]=>exact⟨λh=>h.2.elim,λh=>h.2.2.elim⟩
   |[_,_],[_]=>exact⟨λh=>h.2.elim,λh=>h.2.2.elim⟩
   |[_,_],_::_::_::_=>exact⟨λh=>h.2.elim,λh=>h.2.2.elim⟩
theorem zl {o:Op}{ρ ρ':Operand->D}{bx:List Bx}{k:List Bx×D->Prop}(h:∀x∈o.operands,ρ x=ρ' x):jo P o ρ bx k->jo P o ρ' bx k:=by
 cases o
 case call cl=>
  obtain⟨callee,⟨args⟩,⟨at_⟩⟩:=cl;cases callee with
  |value f=>exact id
  |invoke r m=>exact id
  |builtin b=>
   cases b<;>first|exact id|skip
   match args,at_,h with
   |[x,y],[t,t'],h=>
    have h1:=h x (by simp[fi,sA]);have h2:=h y (by simp[fi,sA])
    simp only[jo,h1,h2];exact id
   |[],_,_=>exact id
   |[_],_,_=>exact id
   |_::_::_::_,_,_=>exact id
   |[_,_],[],_=>exact id
   |[_,_],[_],_=>exact id
   |[_,_],_::_::_::_,_=>exact id
 case makeMap t r=>cases r<;>exact id
 case mapUpdate t x y z=>
  have h1:=h x (by simp[fi]);have h2:=h y (by simp[fi]);have h3:=h z (by simp[fi])
  simp only[jo,h1,h2,h3];exact id
 case insert t x y z=>
  have h1:=h x (by simp[fi]);have h2:=h y (by simp[fi]);have h3:=h z (by simp[fi])
  simp only[jo,h1,h2,h3];exact id
 all_goals first
  |exact id
  |(have h1:=h _ (by simp only[fi];exact ag8.2 rfl);simp only[jo,h1];exact id)
  |(rename_i a b c
    have h2:=h b (by simp[fi]);have h3:=h c (by simp[fi])
    simp only[jo,h2,h3];exact id)
def iY (P:Program)(ops:List Oper)(o:Oper)(sl:Nat->D)(bx:List Bx)(rw:List Row)(k:D->Prop):Prop:=match o.guard with
 |none=>ez P o.op (cL sl) bx rw k
 |some (j,want)=>bn (iD ops j) λt=>wG (sl t) (k .skp) λb=>match b == want with
  |true=>ez P o.op (cL sl) bx rw k
  |false=>k .skp
theorem jS (ops:List Oper)(o:Oper)(sl:Nat->D)(bx:List Bx)(rw:List Row):CP (iY P ops o sl bx rw):=by
 unfold iY;split
 ·exact RE _ _ _ _
 ·rename_i j want _;refine(gg (iD ops j)).bind λt=> ?_;cases sl t<;>first|exact .no|exact .ret _|skip
  rename_i b;show CP λk=>match b == want with|true=>ez P o.op (cL sl) bx rw k|false=>k .skp
  cases b == want
  ·exact .ret _
  ·exact RE _ _ _ _
def de (P:Program)(ops:List Oper)(o:Oper)(s:St)(K:St->Prop):Prop:=match o.guard with
 |none=>c_ P o s K
 |some (j,want)=>bn (iD ops j) λt=>wG (s.sl t) (bp s o.dst/\K (s.put o.dst .skp)) λb=>match b == want with
  |true=>c_ P o s K
  |false=>bp s o.dst/\K (s.put o.dst .skp)
theorem mq {ops:List Oper}{o:Oper}{s:St}{K:St->Prop}(h:kindOf o.op= .A\/kindOf o.op= .B):de P ops o s K↔bp s o.dst/\iY P ops o s.sl s.bx s.rw λd=>K (s.put o.dst d):=by
 unfold de iY;cases o.guard with
 |none=>exact Nq h
 |some jw=>
  obtain⟨j,want⟩:=jw;simp only;cases iD ops j with
  |none=>exact⟨λh=>h.elim,λh=>h.2.elim⟩
  |some t=>
   simp only[bn];cases s.sl t<;>simp only[wG]<;>try exact⟨λh=>h.elim,λh=>h.2.elim⟩
   rename_i b;cases b == want
   ·exact lK
   ·exact Nq h
theorem pO {ops:List Oper}{o:Oper}{s:St}{K:St->Prop}(h:kindOf o.op= .L\/kindOf o.op= .W)(hg:o.guard=none):
  de P ops o s K↔bp s o.dst/\BO o/\jo P o.op (cL s.sl) s.bx λr=>K (St.put ⟨s.n,s.sl,r.1,s.rw⟩ o.dst r.2):=by
 unfold de;rw[hg];exact V9 h
theorem tG {o:Oper}{ops:Array Oper}{s:St}{dst:Option Tmp}{d:D}(h:∀t,dst=some t->t∉o.looksAt ops):∀x∈o.op.operands,cL (St.put s dst d).sl x=cL s.sl x:=by
 intro x hx;cases dst with
 |none=>rfl
 |some t=>
  cases x with
  |tmp u=>
   simp only[cL,St.put,Ab.put];rw[if_neg];intro e;subst e;exact h u rfl (by
    simp only[Oper.looksAt,gY,List.mem_filterMap];exact .inl ⟨.tmp u,by simpa using hx,rfl⟩)
  |_=>rfl
theorem za {ops:Array Oper}{o:Oper}{s:St}{dst:Option Tmp}{d:D}{bx:List Bx}{rw:List Row}{k:D->Prop}(h:∀t,dst=some t->t∉o.looksAt ops):
  iY P ops.toList o (St.put s dst d).sl bx rw k↔iY P ops.toList o s.sl bx rw k:=by
 have h1:=tG (s:=s) (d:=d) h;have hb:∀{k:D->Prop},ez P o.op (cL (St.put s dst d).sl) bx rw k↔ez P o.op (cL s.sl) bx rw k:=λ{k}=>
  ⟨OI h1,OI λx hx=>(h1 x hx).symm⟩
 unfold iY;cases hg:o.guard with
 |none=>exact hb
 |some jw=>
  obtain⟨j,want⟩:=jw;simp only;cases gM:iD ops.toList j with
  |none=>exact lK
  |some t=>
   have ht:(St.put s dst d).sl t=s.sl t:=by
    cases dst with
    |none=>rfl
    |some u=>
     simp only[St.put,Ab.put];rw[if_neg];intro e;subst e;refine h t rfl ?_;simp only[Oper.looksAt,gY];right;rw[hg];have:(ops[j]?).bind (·.dst)=some t:=by simpa[iD]using gM
     show t∈((ops[j]?).bind (·.dst)).toList;rw[this];simp
   simp only[bn,ht];cases s.sl t<;>simp only[wG]
   rename_i b;cases b == want
   ·exact lK
   ·exact hb
theorem yn {s:St}{x y:Option Tmp}{d e:D}(h:∀t,x=some t->y≠some t):(s.put x d).put y e=(s.put y e).put x d:=by
 cases x with
 |none=>rfl
 |some t=>
  cases y with
  |none=>rfl
  |some u=>
   have bS:t≠u:=λhe=>h t rfl (by rw[he]);simp only[St.put]
   congr 1
   funext m
   simp only[Ab.put];by_cases h1:m=u<;>by_cases h2:m=t
   ·exact absurd (h2.symm.trans h1) bS
   ·simp[h1,Ne.symm bS]
   ·simp[h2,bS]
   ·simp[h1,h2]
def sS:Kd->Kd->Bool
 | .A, .A| .A, .B| .B, .A| .B, .B| .A, .L| .B, .L| .L, .A| .A, .W| .W, .A=>true
 |_,_=>false
theorem swap {ops:Array Oper}{oi oj:Oper}{s:St}{K:St->Prop}(iX:oi.apart ops oj=true)(hp:sS (kindOf oi.op) (kindOf oj.op)=true)
  (nc:kindOf oi.op= .L\/kindOf oi.op= .W->oi.guard=none)(qT:kindOf oj.op= .L\/kindOf oj.op= .W->oj.guard=none):
  de P ops.toList oi s (λs1=>de P ops.toList oj s1 K)->de P ops.toList oj s (λs1=>de P ops.toList oi s1 K):=by
 obtain⟨h1,h2,h3⟩:=Oper.apart_spec iX;have cW:∀{s:St} {x y:Option Tmp} {d:D},bp (St.put s x d) y↔bp s y:=λ{s x y d}=>by
  cases x<;>exact lK
 have fin:∀{d e:D} {s:St},(s.put oi.dst d).put oj.dst e=(s.put oj.dst e).put oi.dst d:=yn h2;have key:∀(vi:kindOf oi.op= .A\/kindOf oi.op= .B) (vj:kindOf oj.op= .A\/kindOf oj.op= .B),
   de P ops.toList oi s (λs1=>de P ops.toList oj s1 K)->de P ops.toList oj s (λs1=>de P ops.toList oi s1 K):=λvi vj h=>by
  obtain⟨hd,h⟩:=(mq vi).1 h;obtain⟨d,hv,h⟩:=(jS _ _ _ _ _).ex h;obtain⟨ed,h⟩:=(mq vj).1 h;obtain⟨e,he,hK⟩:=(jS _ _ _ _ _).ex h;have hs:∀{x:Option Tmp} {d:D},(St.put s x d).bx=s.bx/\(St.put s x d).rw=s.rw:=λ{x d}=>by cases x<;>exact⟨rfl,rfl⟩
  rw[hs.1,hs.2]at he;have he:=(za h1).1 he;refine(mq vj).2 ⟨cW.1 ed,(jS _ _ _ _ _).mono (λx hx=> ?_) he⟩;subst hx;refine(mq vi).2 ⟨cW.2 hd, ?_⟩;rw[hs.1,hs.2];refine(za h3).2 ((jS _ _ _ _ _).mono (λx hx=> ?_) hv);subst hx;rw[<-fin];exact hK
 have Gl:∀(vi:kindOf oi.op= .A\/kindOf oi.op= .B) (ej:kindOf oj.op= .L\/kindOf oj.op= .W)
   (kc:∀{aF:List Bx} {d:D} {k:D->Prop},jo P oj.op (cL s.sl) s.bx (λr=>r=(aF,d))->iY P ops.toList oi s.sl s.bx s.rw k->iY P ops.toList oi s.sl aF s.rw k),
   de P ops.toList oi s (λs1=>de P ops.toList oj s1 K)->de P ops.toList oj s (λs1=>de P ops.toList oi s1 K):=λvi ej kc h=>by
  obtain⟨hd,h⟩:=(mq vi).1 h;obtain⟨d,hv,h⟩:=(jS _ _ _ _ _).ex h;obtain⟨ed,Hi,h⟩:=(pO ej (qT ej)).1 h;obtain⟨⟨aF,e⟩,he,hK⟩:=(sd _ _ _).ex h;have hs:(St.put s oi.dst d).bx=s.bx/\(St.put s oi.dst d).rw=s.rw/\(St.put s oi.dst d).n=s.n:=by cases oi.dst<;>exact⟨rfl,rfl,rfl⟩
  rw[hs.1]at he;have he:=zl (tG h1) he;refine(pO ej (qT ej)).2 ⟨cW.1 ed,Hi,(sd _ _ _).mono (λx hx=> ?_) he⟩;subst hx;refine(mq vi).2 ⟨?_, ?_⟩
  ·have:=hd;cases dF:oj.dst<;>cases te:oi.dst<;>simp_all[bp,St.put]
  ·have j8:=kc he hv;have e1:(St.put ⟨s.n,s.sl,aF,s.rw⟩ oj.dst e).bx=aF/\(St.put ⟨s.n,s.sl,aF,s.rw⟩ oj.dst e).rw=s.rw:=by cases oj.dst<;>exact⟨rfl,rfl⟩
   rw[e1.1,e1.2];refine(za (s:=⟨s.n,s.sl,aF,s.rw⟩) h3).2 ((jS _ _ _ _ _).mono (λx hx=> ?_) j8);subst hx;have e2:(St.mk (St.put s oi.dst x).n (St.put s oi.dst x).sl aF (St.put s oi.dst x).rw)=St.put ⟨s.n,s.sl,aF,s.rw⟩ oi.dst x:=by cases oi.dst<;>rfl
   simp only[e2]at hK;rw[<-fin];exact hK
 have Pc:∀(ei:kindOf oi.op= .L\/kindOf oi.op= .W) (vj:kindOf oj.op= .A),
   de P ops.toList oi s (λs1=>de P ops.toList oj s1 K)->de P ops.toList oj s (λs1=>de P ops.toList oi s1 K):=λei vj h=>by
  obtain⟨hd,Hi,h⟩:=(pO ei (nc ei)).1 h;obtain⟨⟨aF,d⟩,he,h⟩:=(sd _ _ _).ex h;obtain⟨ed,h⟩:=(mq (.inl vj)).1 h;obtain⟨e,hv,hK⟩:=(jS _ _ _ _ _).ex h;have e1:(St.put ⟨s.n,s.sl,aF,s.rw⟩ oi.dst d).bx=aF/\(St.put ⟨s.n,s.sl,aF,s.rw⟩ oi.dst d).rw=s.rw:=by cases oi.dst<;>exact⟨rfl,rfl⟩
  simp only[e1.1,e1.2]at hv;have hv:=(za (s:=⟨s.n,s.sl,aF,s.rw⟩) h1).1 hv;have hvA:∀{b b':List Bx} {k:D->Prop},iY P ops.toList oj s.sl b s.rw k->iY P ops.toList oj s.sl b' s.rw k:=λ{b b' k} hh=>by
   unfold iY at hh⊢;cases hg:oj.guard with
   |none=>rw[hg]at hh;exact C_ vj hh
   |some jw=>
    obtain⟨j,want⟩:=jw;rw[hg]at hh;simp only at hh⊢;cases gM:iD ops.toList j with
    |none=>rw[gM]at hh;exact hh
    |some t=>
     rw[gM]at hh;simp only[bn]at hh⊢;cases bD:s.sl t<;>rw[bD]at hh<;>simp only[wG]at hh⊢
     case skp=>exact hh
     rename_i b0;cases e_:b0 == want<;>rw[e_]at hh<;>simp only at hh⊢
     ·exact hh
     ·exact C_ vj hh
  refine(mq (.inl vj)).2 ⟨?_,(jS _ _ _ _ _).mono (λx hx=> ?_) (hvA hv)⟩
  ·have:=ed;cases dF:oj.dst<;>cases te:oi.dst<;>simp_all[bp,St.put]
  ·subst hx;have hs:(St.put s oj.dst x).bx=s.bx/\(St.put s oj.dst x).rw=s.rw/\(St.put s oj.dst x).n=s.n:=by cases oj.dst<;>exact⟨rfl,rfl,rfl⟩
   refine(pO ei (nc ei)).2 ⟨cW.2 hd,Hi, ?_⟩;rw[hs.1];refine(sd _ _ _).mono (λr hr=> ?_) (zl (λy hy=>(tG h3 y hy).symm) he);subst hr;have e2:(St.mk (St.put s oj.dst x).n (St.put s oj.dst x).sl aF (St.put s oj.dst x).rw)=St.put ⟨s.n,s.sl,aF,s.rw⟩ oj.dst x:=by cases oj.dst<;>rfl
   simp only[e2];rw[<-fin];exact hK
 have acA:kindOf oj.op= .L->∀{aF:List Bx} {d:D},jo P oj.op (cL s.sl) s.bx (λr=>r=(aF,d))->∃t,aF=s.bx++t:=λhl {aF d} he=>by
  unfold jo at he;split at he
  ·obtain⟨zs,_,he⟩:=cE he;cases he;exact⟨_,rfl⟩
  ·cases he.2;exact⟨_,rfl⟩
  ·rename_i ho;rw[ho]at hl;cases hl
  ·rename_i ho;rw[ho]at hl;cases hl
  ·cases he;exact⟨_,rfl⟩
  ·rename_i ho;rw[ho]at hl;cases hl
  ·rename_i ho;rw[ho]at hl;cases hl
  ·exact he.elim
 have QE:kindOf oi.op= .A->∀{b b':List Bx} {k:D->Prop},iY P ops.toList oi s.sl b s.rw k->iY P ops.toList oi s.sl b' s.rw k:=λvi {b b' k} hh=>by
  unfold iY at hh⊢;cases hg:oi.guard with
  |none=>rw[hg]at hh;exact C_ vi hh
  |some jw=>
   obtain⟨j,want⟩:=jw;rw[hg]at hh;simp only at hh⊢;cases gM:iD ops.toList j with
   |none=>rw[gM]at hh;exact hh
   |some t=>
    rw[gM]at hh;simp only[bn]at hh⊢;cases bD:s.sl t<;>rw[bD]at hh<;>simp only[wG]at hh⊢
    case skp=>exact hh
    rename_i b0;cases e_:b0 == want<;>rw[e_]at hh<;>simp only at hh⊢
    ·exact hh
    ·exact C_ vi hh
 have acu:∀{b t:List Bx} {k:D->Prop},iY P ops.toList oi s.sl b s.rw k->iY P ops.toList oi s.sl (b++t) s.rw k:=λ{b t0 k} hh=>by
  unfold iY at hh⊢;cases hg:oi.guard with
  |none=>rw[hg]at hh;exact OH hh
  |some jw=>
   obtain⟨j,want⟩:=jw;rw[hg]at hh;simp only at hh⊢;cases gM:iD ops.toList j with
   |none=>rw[gM]at hh;exact hh
   |some t=>
    rw[gM]at hh;simp only[bn]at hh⊢;cases bD:s.sl t<;>rw[bD]at hh<;>simp only[wG]at hh⊢
    case skp=>exact hh
    rename_i b0;cases e_:b0 == want<;>rw[e_]at hh<;>simp only at hh⊢
    ·exact hh
    ·exact OH hh
 cases ki:kindOf oi.op<;>cases kj:kindOf oj.op<;>rw[ki,kj]at hp<;>simp only[sS,Bool.false_eq_true]at hp
 ·exact key (.inl ki) (.inl kj)
 ·exact key (.inl ki) (.inr kj)
 ·exact Gl (.inl ki) (.inl kj) (λ_ hv=>QE ki hv)
 ·exact Gl (.inl ki) (.inr kj) (λ_ hv=>QE ki hv)
 ·exact key (.inr ki) (.inl kj)
 ·exact key (.inr ki) (.inr kj)
 ·exact Gl (.inr ki) (.inl kj) (λhe hv=>by obtain⟨t,rfl⟩:=acA kj he;exact acu hv)
 ·exact Pc (.inl ki) kj
 ·exact Pc (.inr ki) kj
def kh (P:Program)(ops:Array Oper)(K:St->Prop):Nat->Array Bool->St->Prop
 |0,listed,s=>kO .any ops listed=[]/\K s
 |n + 1,listed,s=>(kO .any ops listed=[]->K s)/\∀i∈kO .any ops listed,∀o,ops[i]? =some o->de P ops.toList o s λs'=>kh P ops K n (listed.setIfInBounds i true) s'
theorem n7 {ops:List Oper}{o:Oper}{s:St}{K K':St->Prop}(hk:kindOf o.op≠ .X)(hg:kindOf o.op= .L\/kindOf o.op= .W->o.guard=none)(h:∀s,K s->K' s):de P ops o s K->de P ops o s K':=by
 intro hh;cases k:kindOf o.op with
 |X=>exact absurd k hk
 |A=>obtain⟨h1,h2⟩:=(mq (.inl k)).1 hh;exact(mq (.inl k)).2 ⟨h1,(jS _ _ _ _ _).mono (λ_ h'=>h _ h') h2⟩
 |B=>obtain⟨h1,h2⟩:=(mq (.inr k)).1 hh;exact(mq (.inr k)).2 ⟨h1,(jS _ _ _ _ _).mono (λ_ h'=>h _ h') h2⟩
 |L=>obtain⟨h1,h2,h3⟩:=(pO (.inl k) (hg (.inl k))).1 hh;exact(pO (.inl k) (hg (.inl k))).2 ⟨h1,h2,(sd _ _ _).mono (λ_ h'=>h _ h') h3⟩
 |W=>obtain⟨h1,h2,h3⟩:=(pO (.inr k) (hg (.inr k))).1 hh;exact(pO (.inr k) (hg (.inr k))).2 ⟨h1,h2,(sd _ _ _).mono (λ_ h'=>h _ h') h3⟩
def oO (ops:List Oper):Bool:=ops.all λo=>match kindOf o.op with
 | .X=>false
 | .L=>o.guard.isNone
 | .W=>o.guard.isNone
 |_=>true
def Zb (o:Oper)(i:Nat)(rest:List Oper):Bool:=rest.all λp=>p.after.any (λe=>eF .any e&&e.on == i)||sS (kindOf o.op) (kindOf p.op)
def AG:Nat->List Oper->Bool
 |_,[]=>true
 |i,o::rest=>Zb o i rest&&AG (i + 1) rest
theorem nU {ops:Array Oper}(h:oO ops.toList=true){i:Nat}{o:Oper}(ho:ops[i]? =some o):kindOf o.op≠ .X/\(kindOf o.op= .L\/kindOf o.op= .W->o.guard=none):=by
 have hm:o∈ops.toList:=by simpa using Array.mem_of_getElem? ho
 have:=ic.1 h o hm;cases k:kindOf o.op<;>rw[k]at this<;>simp at this⊢<;>exact this
theorem agk {ops:Array Oper}{K:St->Prop}(hk:oO ops.toList=true){i:Nat}{oi:Oper}(hi:ops[i]? =some oi):
  ∀(fuel:Nat) (listed:Array Bool) (s:St),
   (∀(j:Nat) (oj:Oper),ops[j]? =some oj->j≠i->listed.getD j true=false->(∀e∈oj.after,eF .any e=true->e.on≠i)->oi.apart ops oj=true/\sS (kindOf oi.op) (kindOf oj.op)=true)->
   i∈kO .any ops listed->de P ops.toList oi s (λs'=>kh P ops K fuel (listed.setIfInBounds i true) s')->kh P ops K (fuel + 1) listed s:=by
 intro fuel;induction fuel with
 |zero=>
  intro listed s _ hr H;refine⟨λh=>(by rw[h]at hr;cases hr),λj hj oj dF=> ?_⟩;by_cases bd:j=i
  ·subst bd;rw[hi]at dF;cases dF;exact H
  ·
   have uT:=ready_mono hj bd;have hm:=nU hk hi;exfalso;have:∃s',kh P ops K 0 (listed.setIfInBounds i true) s':=by
    cases k:kindOf oi.op with
    |X=>exact absurd k hm.1
    |A=>obtain⟨_,h2⟩:=(mq (.inl k)).1 H;obtain⟨d,_,h3⟩:=(jS _ _ _ _ _).ex h2;exact⟨_,h3⟩
    |B=>obtain⟨_,h2⟩:=(mq (.inr k)).1 H;obtain⟨d,_,h3⟩:=(jS _ _ _ _ _).ex h2;exact⟨_,h3⟩
    |L=>obtain⟨_,_,h2⟩:=(pO (.inl k) (hm.2 (.inl k))).1 H;obtain⟨d,_,h3⟩:=(sd _ _ _).ex h2;exact⟨_,h3⟩
    |W=>obtain⟨_,_,h2⟩:=(pO (.inr k) (hm.2 (.inr k))).1 H;obtain⟨d,_,h3⟩:=(sd _ _ _).ex h2;exact⟨_,h3⟩
   obtain⟨s',h1,_⟩:=this;rw[h1]at uT;cases uT
 |succ fuel ih=>
  intro listed s u4 hr H;refine⟨λh=>(by rw[h]at hr;cases hr),λj hj oj dF=> ?_⟩;by_cases bd:j=i
  ·subst bd;rw[hi]at dF;cases dF;exact H
  ·obtain⟨u2,OJ,uV,bu⟩:=mem_ready.1 hj;rw[dF]at uV;cases uV
   have uX:∀e∈oj.after,eF .any e=true->e.on≠i:=λe he hb heq=>by
    have h1:=bu e he hb;have h0:=(mem_ready.1 hr).1;rw[heq]at h1;rcases fL i listed.size with h'|h'
    ·simp[h']at h0 h1;rw[h0]at h1;cases h1
    ·simp[Array.getElem?_eq_none h']at h1
   obtain⟨iX,ik⟩:=u4 j oj dF bd u2 uX;have qO:=nU hk hi;have th:=nU hk dF;have h1:de P ops.toList oi s λs1=>de P ops.toList oj s1 λs2=>kh P ops K fuel ((listed.setIfInBounds i true).setIfInBounds j true) s2:=
    n7 qO.1 qO.2 (λs1 gL=>gL.2 j (ready_mono hj bd) oj dF) H
   have h2:=swap iX ik qO.2 th.2 h1;have Bp:∀(k:Nat) (ok:Oper),ops[k]? =some ok->k≠i->(listed.setIfInBounds j true).getD k true=false->
     (∀e∈ok.after,eF .any e=true->e.on≠i)->oi.apart ops ok=true/\sS (kindOf oi.op) (kindOf ok.op)=true:=λk ok hk Bj dU fR=>by
    refine u4 k ok hk Bj ?_ fR;by_cases lE:j=k
    ·subst lE;exact u2
    ·rw[getD_set_ne true lE]at dU;exact dU
   refine n7 th.1 th.2 (λs1 h3=>ih (listed.setIfInBounds j true) s1 Bp (ready_mono hr (Ne.symm bd)) ?_) h2;rw[Array.setIfInBounds_comm _ _ bd];exact h3
theorem D6 {ops:List Oper}{o:Oper}{l:List Oper}{s:St}{K:St->Prop}(h:cq P ops (o::l) s K):de P ops o s λs'=>cq P ops l s' K:=by
 unfold cq at h;unfold de;cases hg:o.guard with
 |none=>rw[hg]at h;exact h
 |some jw=>
  obtain⟨j,want⟩:=jw;rw[hg]at h;simp only at h⊢;cases gM:iD ops j with
  |none=>rw[gM]at h;exact h
  |some t=>
   rw[gM]at h;simp only[bn]at h⊢;cases bD:s.sl t<;>rw[bD]at h<;>simp only[wG]at h⊢
   case skp=>exact h
   rename_i b;cases e_:b == want with
   |true=>
    have e:b=want:=by simpa using e_
    subst e;have:=h.1 rfl;rw[nL bD]at this;exact this
   |false=>
    have bS:b= !want:=by cases b<;>cases want<;>simp_all
    have h2:=h.2 bS;rw[<-bS,nL bD]at h2;exact h2
theorem OC:∀(l:List Oper) (i:Nat),AG i l=true->∀(a b:Nat) (oa ob:Oper),a < b->l[a]? =some oa->l[b]? =some ob->
  (∀e∈ob.after,eF .any e=true->e.on≠i + a)->sS (kindOf oa.op) (kindOf ob.op)=true
 |[],i,_,a,b,oa,ob,_,ha,_,_=>by simp at ha
 |o::l,i,h,a,b,oa,ob,Qx,ha,hb,fR=>by
  simp only[AG,dZ]at h;obtain⟨b,rfl⟩:∃b',b=b' + 1:=⟨b - 1,ag⟩;cases a with
  |zero=>
   simp at ha;subst ha
   have hm:ob∈l:=List.mem_of_getElem? (by simpa using hb);have:=ic.1 h.1 ob hm;simp only[Bool.or_eq_true,Array.any_eq_true',dZ,beq_iff_eq]at this;rcases this with⟨e,he,h1,h2⟩|h
   ·exact absurd h2 (fR e he h1)
   ·exact h
  |succ a=>
   exact OC l (i + 1) h.2 a b oa ob ag (by simpa using ha) (by simpa using hb) (λe he bT=>by have:=fR e he bT;omega)
theorem Sr {ops:Array Oper}{K:St->Prop}(hk:oO ops.toList=true)(hp:AG 0 ops.toList=true):∀(l:List Oper) (k:Nat) (listed:Array Bool) (s:St),(∀j,l[j]? =ops[k + j]?)->
  (∀j,j < k->listed.getD j true=true)->vq .any ops l.length k listed=true->cq P ops.toList l s K->kh P ops K l.length listed s
 |[],_,_,_,_,_,hB,h=>⟨by simpa[vq]using hB,h⟩
 |o::l,k,listed,s,hl,aU,hB,h=>by
  have h0:ops[k]? =some o:=by simpa using(hl 0).symm
  simp only[mH,vq,dZ]at hB;obtain⟨⟨hr,hf⟩,tE⟩:=hB;have hm:=nU hk h0;refine agk hk h0 l.length listed s (λj oj hj lE dU fR=>⟨Region.free_spec h0 hf j oj hj lE dU fR, ?_⟩) (by simpa using hr)
   (n7 hm.1 hm.2 (λs' ly=>Sr hk hp l (k + 1) _ s' (λj=>by have:=hl (j + 1);simpa[Nat.add_assoc,Nat.add_comm 1 j]using this) (λj hj=> ?_) tE ly) (D6 h))
  ·have jE:k < j:=by
    rcases Nat.lt_trichotomy j k with h1|h1|h1
    ·rw[aU j h1]at dU;cases dU
    ·exact absurd h1 lE
    ·exact h1
   exact OC ops.toList 0 hp k j o oj jE (by simpa using h0) (by simpa using hj) (by simpa using fR)
  ·by_cases h1:k=j
   ·subst h1;by_cases hs:k < listed.size
    ·simp[hs]
    ·simp[hs]
   ·rw[getD_set_ne true h1];exact aU j ag
theorem acv {c:Ctx}{s:St}{a:Act}{w:World}{g:Gh}{ops:Array Oper}{o:Oper}{K:St->Prop}{N:Act->World->Prop}{Q:Exit->Act->World->Prop}(hg:RG c s a w g)(hN:∀s a w,R c s a w->K s->N a w)
  (h:de c.P ops.toList o s K):if d_ o (yielded ops a.tmps)then o.wpIn c.F 0 c.P a w N Q else(∀f,o.about c.P w a.eval=some f->c.F.fn f)/\N (a.put o.dst undef) w:=by
 have next:c_ c.P o s K->o.wpIn c.F 0 c.P a w N Q:=λbD=>gK (sL bD) (zG (λa' w' ⟨s',cH,fS⟩=>hN s' a' w' cH fS) (ru hg bD))
 unfold de at h;split at h
 ·rename_i cK;rw[if_pos (by simp[d_,cK])];exact next h
 ·rename_i j want cK;obtain⟨t,ht,h2⟩:=cE h;clear h;cases hb:s.sl t<;>rw[hb]at h2<;>simp only[wG]at h2
  case skp=>
   have hy:=R.v7 hg ht hb;rw[if_neg (by simp[d_,cK,hy])];exact⟨λ_ _=>trivial,hN _ _ _ ⟨g,hg.put h2.1 (.skp _)⟩ h2.2⟩
  rename_i b;have hy:=R.yielded hg ht hb;cases e_:b == want with
  |true=>
   rw[e_]at h2;have e:b=want:=by simpa using e_
   rw[if_pos (by simp[d_,cK,hy,e])];exact next h2
  |false=>
   rw[e_]at h2;have bS:b≠want:=by simpa using e_
   rw[if_neg (by simp[d_,cK,hy,bS])];exact⟨λ_ _=>trivial,hN _ _ _ ⟨g,hg.put h2.1 (.skp _)⟩ h2.2⟩
theorem B1 {c:Ctx}{ops:Array Oper}{K:St->Prop}{Q:Exit->Act->World->Prop}(hQ:∀s a w,R c s a w->K s->Q .normal a w):∀(fuel:Nat) (listed:Array Bool) (s:St) (a:Act) (w:World),R c s a w->
  kh c.P ops K fuel listed s->wpAnyIn c.F 0 c.P .any ops Q fuel listed a w
 |0,_,s,a,w,hr,h=>⟨h.1,hQ s a w hr h.2⟩
 |fuel + 1,listed,s,a,w,hr,h=>by
  refine⟨λh0=>hQ s a w hr (h.1 h0),λi hi=> ?_⟩;obtain⟨g,hg⟩:=hr;unfold wpOpIn;cases ho:ops[i]? with
  |none=>
   obtain⟨_,o,PZ,_⟩:=mem_ready.1 hi;rw[ho]at PZ;cases PZ
  |some o=>
   exact acv hg (λs' a' w' cH fS=>B1 hQ fuel _ s' a' w' cH fS) (h.2 i hi o ho)
theorem RG.ve {c:Ctx}{s:St}{a:Act}{w:World}(h:R c s a w):R c s a {w with drawn:=w.drawn + 1}:=by
 obtain⟨g,h⟩:=h;exact⟨_,h.world (w':={w with drawn:=w.drawn + 1}) (S':=g.S) ⟨rfl,rfl,rfl,cx _,λ_ _=>rfl⟩ (λ_ h=>h) (λ_ h=> .inl h) h.bt⟩
theorem ph {c:Ctx}{id:Nat}{l:List Oper}{Q:Exit->St->Prop}{s:St}(hm:c.P.follows .mixedOrders=true)(hB:(Cg .any l.toArray&&oO l&&AG 0 l)=true)
  (h:∀K:St->Prop,(∀s',Q .normal s'->K s')->cq c.P l l s K):az c (.region id l.toArray true) Q s:=by
 intro a w hr;simp only[dZ,Cg]at hB;obtain⟨⟨⟨_,hl⟩,hk⟩,hp⟩:=hB;refine wpIn_region_any hm (B1 (K:=Q .normal) (λs a w hr hq=>⟨s,hr,hq⟩) _ _ s _ _ (RG.ve hr) ?_);have:=Sr (P:=c.P) (ops:=l.toArray) (K:=Q .normal) (by simpa using hk) (by simpa using hp) l 0 (kq l.length false) s ay ay (by simpa using hl) (h _ (λ_ h=>h));simpa using this
end
end Go.Ab
end
section
namespace Go.Ab
theorem av {p q:Prop}(k:q)(h:p=q:=by simp -implicitDefEqProofs only[go_sem,kM,bF,Nat.reduceAdd,Nat.reduceSub,Nat.reduceMul,Nat.reduceLT,Nat.reduceLeDiff,Nat.reduceEqDiff,Nat.reduceBEq,Int.reduceLT,Int.reduceLE,Int.reduceToNat,Int.reduceAdd,Int.reduceSub,Int.reduceMul,Int.reduceNeg,Int.reduceEq,reduceCtorEq,eq_self,ne_eq,not_false_eq_true,if_true,reduceIte]<;>rfl):p:=h.symm▸k
theorem W7 {p q:Prop}(k:q)(h:p=q:=by simp -implicitDefEqProofs only[go_sem,kM,bF,Nat.reduceAdd,Nat.reduceSub,Nat.reduceMul,Nat.reduceLT,Nat.reduceLeDiff,Nat.reduceEqDiff,Nat.reduceBEq,Int.reduceLT,Int.reduceLE,Int.reduceToNat,Int.reduceAdd,Int.reduceSub,Int.reduceMul,Int.reduceNeg,Int.reduceEq,reduceCtorEq,eq_self,ne_eq,not_false_eq_true,if_true,reduceIte,hX]<;>rfl):p:=h.symm▸k
theorem fZ {p q:Prop}(k:q)(h:p=q:=by simp only[go_sem,kM,bF,Nat.reduceAdd,Nat.reduceSub,Nat.reduceMul,Nat.reduceLT,Nat.reduceLeDiff,Nat.reduceEqDiff,Nat.reduceBEq,Int.reduceLT,Int.reduceLE,Int.reduceToNat,Int.reduceAdd,Int.reduceSub,Int.reduceMul,Int.reduceNeg,Int.reduceEq,reduceCtorEq,eq_self,ne_eq,not_false_eq_true,if_true,reduceIte]<;>rfl):p:=h.symm▸k
theorem W6 {p q:Prop}(k:q)(h:p=q:=by simp only[go_sem,kM,bF,Nat.reduceAdd,Nat.reduceSub,Nat.reduceMul,Nat.reduceLT,Nat.reduceLeDiff,Nat.reduceEqDiff,Nat.reduceBEq,Int.reduceLT,Int.reduceLE,Int.reduceToNat,Int.reduceAdd,Int.reduceSub,Int.reduceMul,Int.reduceNeg,Int.reduceEq,reduceCtorEq,eq_self,ne_eq,not_false_eq_true,if_true,reduceIte,hX]<;>rfl):p:=h.symm▸k
theorem am2 {E p:Prop}(e:E)(k:E->p):p:=k e
theorem st1 {p q:Prop}(k:q)(h:q->p:=by first|exact Ew|exact ID|exact Iu|exact Iv|exact Iz|exact IB|exact oo):p:=h k
theorem qst {p q:Prop}(k:q)(h:p=q:=by simp only[qn,cF,dn,if_true,Nat.reduceEqDiff,reduceIte]<;>rfl):p:=h.symm▸k
theorem anF {p q:Prop}(k:q)(h:p=q:=by simp only[cF,dn,if_true,Nat.reduceEqDiff,reduceIte]<;>rfl):p:=h.symm▸k
theorem fin {p:Prop}(h:p:=by first|with_reducible rfl|exact trivial|(clear hK;omega)|omega):p:=h
theorem aw {p:Prop}(h:False:=by first|omega|contradiction):p:=h.elim
end Go.Ab
end
