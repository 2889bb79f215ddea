import Derived.Test.YtopobgihpdaggaaGreatDoorZ10
import Derived.Maps.RangeRun
set_option linter.unusedVariables false
set_option linter.unusedSimpArgs false
open Array renaming getElem?_eq_some_iff->bJ,getElem?_setIfInBounds->sB,length_toList->zW,setIfInBounds->Tt,toList_filter->ag7
open List renaming getElem?_append_left->cZ,getElem?_append_right->gk,getElem?_cons_succ->xI,getElem?_drop->tZ,getElem?_eq_getElem->cX,getElem?_eq_some_iff->bm,getElem?_map->dO,getElem?_set_ne->gz,getElem?_set_self->je,length_map->jU,mem_filter->Cn,mem_of_getElem?->fM,nodup_cons->tY,nodup_nil->vt
open Nat renaming le_refl->cx,le_trans->gj,lt_or_ge->fL,not_le_of_lt->tW,zero_add->jd
open Option renaming map_eq_some_iff->cS
open Option.some renaming inj->jb,injEq->fe
open Go.Value renaming ownBlock->jr
open Go.World renaming cell?_of_block->nz
namespace Go.Ab
open Go.RowKit
structure It where
 r:Nat
 b:Nat
 i:Nat
 es:List (D×D)
 ms:Array MapEntry
 cl:Nat
def It.seen (J:It):Nat->Array Nat
 |0=>#[]
 |_ + 1=>J.ms.map (·.born)
structure TR (c:Ctx)(J:It)(k:Nat)(s:St)(a:Act)(w:World):Prop where
 rg:∃g,RG c s a w g/\g.β[J.i]? =some J.b/\g.M J.b=none/\g.M J.r=none/\(∀(q:Nat) (p:D×D) (m:MapEntry),J.es[q]? =some p->J.ms[q]? =some m->Rel w g.mg m.key p.1/\Rel w g.mg m.val p.2)/\
  ∀(j:Nat) (kd:List (D×D)) (b':Nat),s.bx[j]? =some (.mp kd)->g.β[j]? =some b'->b'≠J.b
 dead:s.bx[J.i]? =some .dead
 it:∃c0,J.cl<=c0/\w.heap[J.r]? =some (.mapIter (some J.b) J.cl (J.seen k) c0)/\(0 < k->c0=J.cl)
 mp:w.heap[J.b]? =some (.map J.ms J.cl)
 sz:J.ms.size=J.es.length
 one:J.es.length<=1
 i_:(∀(p q:Nat) (m m':MapEntry),J.ms[p]? =some m->J.ms[q]? =some m'->m.key=m'.key->p=q)/\∀m∈J.ms.toList,m.born < J.cl
 own:c.own J.b
 lo:c.w0.heap.size<=J.r
 kk:k<=J.es.length
def jv (c:Ctx)(J:It)(code:Code)(Q:Exit->St->Nat->Prop)(s:St)(k:Nat):Prop:=
 ∀a w,TR c J k s a w->code.wpIn c.F 0 c.P (λe a' w'=>∃s' k',TR c J k' s' a' w'/\Q e s' k') a w
section
variable {c:Ctx} {s:St} {a:Act} {w:World} {g:Gh}
theorem RG.Xd {w':World}(h:RG c s a w g)(r:Nat)(hr:∃m sn se ct,w.heap[r]? =some (.mapIter m sn se ct))(uZ:c.w0.heap.size<=r)
  (hk:∀x,x≠r->w'.heap[x]? =w.heap[x]?)(bo:w.heap.size<=w'.heap.size)(ho:w'.os=w.os)(ht:w'.tape=w.tape)(hu:w'.output=w.output):RG c s a w' g:=by
 obtain⟨m,sn,se,ct,hr⟩:=hr;have hc:∀(b:Nat) (cs:Array Value) (t:TypeId) (fz:Nat×Nat),w.heap[b]? =some (.cells cs t fz)->w'.heap[b]? =some (.cells cs t fz):=λb cs t fz hb=>(hk b (λe=>by subst e;rw[hr]at hb;cases hb)).trans hb;have fI:∀x,g.S x->w'.cell? x=w.cell? x:=λx hx=>by
  obtain⟨u,hu⟩:=h.bt x hx;obtain⟨cs,t,fz,hx⟩:=si hu;exact nz ((hc _ _ _ _ hx).trans hx.symm)
 have k:ep w g w' g:=⟨fI,λ_ h=>h,λ_ _ h=>h,λ_ _ h=>h,λ_ _ h=>h⟩;refine⟨⟨⟨h.df.cW.1,λd hd=> ?_⟩,λb f hf=> ?_,h.df.m0,h.df.fX,h.df.eV,λx hx=>(fI x (h.S0 x hx)).trans (h.df.iA x hx),h.df.fj⟩,h.sz, ?_,h.cY,λx hx=> ?_,h.eD,h.S0,h.fU,h.lβ,h.lρ,λn=>(h.sl n).bb k, ?_, ?_, ?_,h.ap,λi es hi=> ?_⟩
 ·obtain⟨D,hB,e,hD⟩:=h.df.cW.2 d hd;exact⟨D,hB,e,(hk D (λe=>by subst e;rw[hr]at hD;cases hD)).trans hD⟩
 ·obtain⟨es,cl,h1,h2⟩:=h.df.cb b f hf;exact⟨es,cl,(hk b (λe=>by subst e;rw[hr]at h1;cases h1)).trans h1,h2⟩
 ·exact⟨ho.trans h.below.os,ht.trans h.below.tape,hu.trans h.below.output,gj h.below.size bo,λx hx hn=>(hk x (λe=>by subst e;omega)).trans (h.below.block x hx hn)⟩
 ·obtain⟨u,hu⟩:=h.bt x hx;exact⟨u,(fI x hx).trans hu⟩
 ·intro i cs hi;obtain⟨b,vs,t,e1,e2,e3,e4,e5,e6⟩:=(h.bx i cs hi).ex;exact⟨b,vs,t,e1,hc _ _ _ _ e2,e3.bb k,e4,e5,e6⟩
 ·intro i cs hi;obtain⟨b,vs,t,e1,e2,e3,e4,e5,e6⟩:=(h.fz i cs hi).ex;exact⟨b,vs,t,e1,hc _ _ _ _ e2,e3.bb k.er,e4,e5,e6⟩
 ·intro r row hr;obtain⟨v,e1,e2,e3⟩:=(h.rw r row hr).ex;refine⟨v,e1,e2.bb k,λhl=> ?_⟩;obtain⟨⟨vals,bG⟩,bE,hS⟩:=e3 hl;refine⟨⟨vals,bG.1, ?_⟩,bE,hS⟩;rcases bG.2 with hn|⟨g,cap,cur,rfl,hg,fw,rest⟩
  ·exact .inl hn
  ·exact .inr ⟨g,cap,cur,rfl,hg,hc _ _ _ _ fw,rest⟩
 ·obtain⟨b,hm⟩:=h.mp i es hi;obtain⟨ms,cl,h1,_⟩:=hm.ex;exact⟨b,hm.bb k (hk b (λe=>by subst e;rw[hr]at h1;cases h1)) hm.nm⟩
def beside (c:Ctx)(p:Nat->Prop)(w:World)(g:Gh):Ctx:=⟨c.P,w,g.S,g.M,c.l,λx=>w.heap.size<=x\/(c.own x/\¬p x),g.β⟩
theorem RG.af5 {p:Nat->Prop}(h:RG c s a w g)(hc:∀x vs t fz,w.heap[x]? =some (.cells vs t fz)->¬p x)(hd:∀x ds,w.heap[x]? =some (.deferred ds)->¬p x)
  (hm:∀(j:Nat) (es:List (D×D)) (b:Nat),s.bx[j]? =some (.mp es)->g.β[j]? =some b->¬p b):RG (beside c p w g) s a w g:=by
 refine⟨⟨⟨h.df.cW.1,λd ed=> ?_⟩,h.df.cb,λ_ _ h=>h,λ_ _ h=> .inl h,λ_ _ h=>h,λ_ _=>rfl,h.df.fj.own h.below h.df.cb (λb hb=>hb.elim .inl λh1=> .inr (.inl h1.1))⟩,h.sz, .of (Below.refl _ _),λ_ h=> .inl h,h.bt,λ_ h=> .inl h,λ_ h=>h,h.bt,h.lβ,h.lρ,h.sl,λi cs hi=> ?_,λi cs hi=> ?_,λr row hr=> ?_,h.ap,λi es hi=> ?_⟩
 ·obtain⟨D,hB,e,hD⟩:=h.df.cW.2 d ed;exact⟨D, .inr ⟨hB,hd _ _ hD⟩,e,hD⟩
 ·obtain⟨b',vs,t,e1,e2,e3,e4,e5⟩:=(h.bx i cs hi).ex;exact⟨b',vs,t,e1,e2,e3, .inr ⟨e4,hc _ _ _ _ e2⟩,e5⟩
 ·obtain⟨b',vs,t,e1,e2,e3,e4,e5⟩:=(h.fz i cs hi).ex;exact⟨b',vs,t,e1,e2,e3, .inr ⟨e4,hc _ _ _ _ e2⟩,e5⟩
 ·obtain⟨v,e1,e2,e3⟩:=(h.rw r row hr).ex;refine⟨v,e1,e2,λhl=> ?_⟩;obtain⟨h1,h2,h3⟩:=e3 hl;refine⟨h1,h2,λgb aW=>⟨.inr ⟨(h3 gb aW).1, ?_⟩,(h3 gb aW).2⟩⟩;obtain⟨vals,bG⟩:=h1;rcases bG.2 with⟨rfl,_⟩|⟨g2,cap,cur,rfl,_,fw,_⟩
  ·simp[jr]at aW
  ·simp[jr]at aW;subst aW;exact hc _ _ _ _ fw
 ·obtain⟨b,dw⟩:=h.mp i es hi;exact⟨b,dw.ctx (.inr ⟨dw.own,hm i es b hi dw.β⟩)⟩
theorem RG.af4 {p:Nat->Prop}{s2:St}{a2:Act}{w2:World}{g2:Gh}(h:RG c s a w g)(h2:RG (beside c p w g) s2 a2 w2 g2):RG c s2 a2 w2 g2:=by
 have bo:c.w0.heap.size<=w.heap.size:=h.below.size;have bG:∀x,(w.heap.size<=x\/(c.own x/\¬p x))->c.own x:=λx hx=>hx.elim (λh1=>h.cY x (gj bo h1)) (λh1=>h1.1);refine⟨⟨⟨h2.df.cW.1,λd hd=> ?_⟩,h2.df.cb,λb f hb=>h2.df.m0 b f (h.df.m0 b f hb),λx f hb=> ?_,λi x hb=>h2.df.eV i x (h.df.eV i x hb),λx hx=>(h2.df.iA x (h.S0 x hx)).trans (h.df.iA x hx),h.df.fj⟩,h2.sz,
  h.below.trans h2.below bo (λi hi hn=> ?_),h.cY,h2.bt,λx hx=> ?_,λx hx=>h2.S0 x (h.S0 x hx),h.fU,h2.lβ,h2.lρ,h2.sl,λi cs hi=> ?_,λi cs hi=> ?_,λr row hr=> ?_,h2.ap,λi es hi=> ?_⟩
 ·obtain⟨D,hB,e,hD⟩:=h2.df.cW.2 d hd;exact⟨D,bG D hB,e,hD⟩
 ·rcases h2.df.fX x f hb with h1|h1
  ·exact h.df.fX x f h1
  ·exact .inr (gj bo h1)
 ·rcases hn with hn|hn
  ·exact .inl (bG i hn)
  ·cases hm:g.M i with
   |none=>exact(hn hm).elim
   |some f=>
         rcases h.df.fX i f hm with h1|h1
         ·exact .inr (by rw[h1];simp)
         ·omega
 ·rcases h2.eD x hx with h1|h1
  ·exact h.eD x h1
  ·exact .inr (bG _ h1)
 ·obtain⟨x,vs,t,e1,e2,e3,e4,e5⟩:=(h2.bx i cs hi).ex;exact⟨x,vs,t,e1,e2,e3,bG x e4,e5⟩
 ·obtain⟨x,vs,t,e1,e2,e3,e4,e5⟩:=(h2.fz i cs hi).ex;exact⟨x,vs,t,e1,e2,e3,bG x e4,e5⟩
 ·obtain⟨v,e1,e2,e3⟩:=(h2.rw r row hr).ex;refine⟨v,e1,e2,λhl=> ?_⟩;obtain⟨h3,h4,h5⟩:=e3 hl;exact⟨h3,h4,λgb aW=>⟨bG gb (h5 gb aW).1,(h5 gb aW).2⟩⟩
 ·obtain⟨b,dw⟩:=h2.mp i es hi;exact⟨b,dw.ctx (bG b dw.own)⟩
abbrev It.p (J:It):Nat->Prop:=λx=>x=J.r\/x=J.b
theorem TR.inside {J:It}{k:Nat}(h:TR c J k s a w):∃g,RG c s a w g/\RG (beside c J.p w g) s a w g/\∀s2 a2 w2,R (beside c J.p w g) s2 a2 w2->s2.bx[J.i]? =some .dead->TR c J k s2 a2 w2:=by
 obtain⟨g,hg,hb,qP,ga,b9,uU⟩:=h.rg;obtain⟨c0,ng,hit,DK⟩:=h.it;have pK:=h.mp;have bS:J.r≠J.b:=λe=>by rw[e,pK]at hit;cases hit
 refine⟨g,hg,hg.af5 (λx vs t fz hx=> ?_) (λx ds hx=> ?_) (λj es b hj bT=> ?_),λs2 a2 w2 ⟨g2,fy⟩ hd=> ?_⟩
 ·rintro(rfl|rfl)
  ·rw[hit]at hx;cases hx
  ·rw[pK]at hx;cases hx
 ·rintro(rfl|rfl)
  ·rw[hit]at hx;cases hx
  ·rw[pK]at hx;cases hx
 ·rintro(e|e)
  ·obtain⟨b2,dw⟩:=hg.mp j es hj;obtain⟨ms,cl,g1,_⟩:=dw.ex;have:=dw.β;rw[bT]at this;cases this
   rw[e,hit]at g1;cases g1
  ·exact uU j es b hj bT e
 ·have aU:∀x,J.p x->w.heap[x]? ≠none->w2.heap[x]? =w.heap[x]? :=λx hx hn=>by
   have qF:x < w.heap.size:=by
    rcases fL x w.heap.size with h1|h1
    ·exact h1
    ·exact absurd (Array.getElem?_eq_none h1) hn
   refine fy.below.block x qF (λabL=> ?_);rcases abL with h1|h1
   ·rcases h1 with h1|h1
    ·exact absurd (show w.heap.size<=x from h1) (tW qF)
    ·exact h1.2 hx
   ·rcases hx with rfl|rfl
    ·exact h1 ga
    ·exact h1 qP
  have rU:∀x,x < w.heap.size->g.M x=none->g2.M x=none:=λx qF hx=>by
   cases rZ:g2.M x with
   |none=>rfl
   |some f=>
    rcases fy.df.fX x f rZ with h1|h1
    ·rw[show(beside c J.p w g).M0=g.M from rfl,hx]at h1;cases h1
    ·exact absurd (show w.heap.size<=x from h1) (tW qF)
  have oT:J.r < w.heap.size:=(bJ.1 hit).1;have n4:J.b < w.heap.size:=(bJ.1 pK).1;have kp:ep w g.mg w2 g2.mg:=⟨λx hx=>fy.df.iA x hx,λx hx=>fy.S0 x hx,λi b hb=>fy.df.eV i b hb,λ_ _ hb=>by simp[Gh.mg]at hb,λb f hb=>fy.df.m0 b f hb⟩;refine⟨⟨g2,hg.af4 fy,fy.df.eV _ _ hb,rU _ n4 qP,rU _ oT ga,λq p m hp hq=>⟨(b9 q p m hp hq).1.bb kp,(b9 q p m hp hq).2.bb kp⟩,λj kd b' hj bT e=> ?_⟩,hd,⟨c0,ng,(aU _ (.inl rfl) (by rw[hit];simp)).trans hit,DK⟩,(aU _ (.inr rfl) (by rw[pK];simp)).trans pK,h.sz,h.one,h.i_,h.own,h.lo,h.kk⟩;obtain⟨b2,dw⟩:=fy.mp j kd hj;have:=dw.β;rw[bT]at this;cases this
  rcases dw.own with h1|h1
  ·subst e;exact absurd (show w.heap.size<=J.b from h1) (tW n4)
  ·exact h1.2 (.inr e)
end
section rules
variable {c:Ctx} {J:It} {Q:Exit->St->Nat->Prop} {s:St} {k:Nat}
theorem agv {code:Code}(h:∀(w0:World) (S0:Addr->Prop) (M0:MM) (own:Nat->Prop) (β:List Nat),β.length=s.bx.length->az ⟨c.P,w0,S0,M0,c.l,own,β⟩ code (λe s'=>s'.bx[J.i]? =some .dead/\Q e s' k) s):jv c J code Q s k:=by
 intro a w hr;obtain⟨g,hg,nc,G1⟩:=hr.inside;have hA:=h w g.S g.M _ g.β hg.lβ a w ⟨g,nc⟩;refine wpIn_mono hA ?_;rintro e a' w' ⟨s',cH,hd,hq⟩;exact⟨s',k,G1 s' a' w' cH hd,hq⟩
theorem agu (h:Q .normal s k):jv c J .skip Q s k:=λ_ _ hr=>wpIn_skip ⟨s,k,hr,h⟩
theorem agw {id:Nat}(h:Q (.exit id) s k):jv c J (.exit id) Q s k:=λ_ _ hr=>wpIn_exit ⟨s,k,hr,h⟩
def CI (K:St->Nat->Prop)(Q:Exit->St->Nat->Prop):Exit->St->Nat->Prop
 | .normal,s,k=>K s k
 |e,s,k=>Q e s k
def Ie (id:Nat)(Q:Exit->St->Nat->Prop):Exit->St->Nat->Prop
 | .exit j6,s,k=>if j6=id then Q .normal s k else Q (.exit j6) s k
 |e,s,k=>Q e s k
theorem B5 {x y:Code}(h:jv c J x (CI (jv c J y Q) Q) s k):jv c J (.seq x y) Q s k:=by
 intro a w hr;refine wpIn_seq (wpIn_mono (h a w hr) ?_);rintro e a' w' ⟨s',k',r,q⟩;cases e with
 |normal=>exact q a' w' r
 |exit id=>exact⟨s',k',r,q⟩
 |goto l=>exact⟨s',k',r,q⟩
 |ret=>exact⟨s',k',r,q⟩
 |panic ch=>exact⟨s',k',r,q⟩
 |outgrown=>exact⟨s',k',r,q⟩
theorem SB {id:Nat}{x:Code}(h:jv c J x (Ie id Q) s k):jv c J (.block id x) Q s k:=by
 intro a w hr;refine wpIn_block (wpIn_mono (h a w hr) ?_);rintro e a' w' ⟨s',k',r,q⟩;cases e with
 |normal=>exact⟨s',k',r,q⟩
 |exit j6=>
  simp only[Ie]at q;simp only[Exit.inBlock];split at q
  ·rw[if_pos (by assumption)];exact⟨s',k',r,q⟩
  ·rw[if_neg (by assumption)];exact⟨s',k',r,q⟩
 |goto l=>exact⟨s',k',r,q⟩
 |ret=>exact⟨s',k',r,q⟩
 |panic ch=>exact⟨s',k',r,q⟩
 |outgrown=>exact⟨s',k',r,q⟩
theorem SA {x:Operand}{t e:Code}(h:lg (s.ev x) λv=>(v=true->jv c J t Q s k)/\(v=false->jv c J e Q s k)):jv c J (.cond x t e) Q s k:=by
 intro a w hr;cases hs:s.ev x<;>rw[hs]at h<;>simp only[lg]at h
 obtain⟨g,hg,_⟩:=hr.rg;have hv:=hg.ev x;rw[hs]at hv;exact wpIn_cond_split hv.asBool (λhh=>h.1 hh a w hr) (λhh=>h.2 hh a w hr)
def vU (c:Ctx)(J:It)(body:Code)(Q:Exit->St->Nat->Prop):Nat->St->Nat->Prop
 |0,_,_=>False
 |m + 1,s,k=>jv c J body (CI (vU c J body Q m) Q) s k
theorem NO {body:Code}{m:Nat}(h:jv c J body (CI (vU c J body Q m) Q) s k):vU c J body Q (m + 1) s k:=h
theorem NP {body:Code}:∀(m:Nat) {s:St} {k:Nat},vU c J body Q m s k->∀a w,TR c J k s a w->Code.roundsIn c.F 0 c.P body (λe a' w'=>∃s' k',TR c J k' s' a' w'/\Q e s' k') m a w
 |0,_,_,h,_,_,_=>h.elim
 |m + 1,s,k,h,a,w,hr=>by
  rw[roundsIn_succ];refine wpIn_mono (h a w hr) ?_;rintro e a' w' ⟨s',k',r,q⟩;cases e with
  |normal=>exact NP m q a' w' r
  |exit id=>exact⟨s',k',r,q⟩
  |goto l=>exact⟨s',k',r,q⟩
  |ret=>exact⟨s',k',r,q⟩
  |panic ch=>exact⟨s',k',r,q⟩
  |outgrown=>exact⟨s',k',r,q⟩
theorem agt {body:Code}(m:Nat)(h:vU c J body Q m s k):jv c J (.loop body) Q s k:=λa w hr=>wpIn_loop_rounds m (NP m h a w hr)
theorem TR.step {a:Act}{w:World}{l:List Oper}{ops:Array Oper}{Q':Exit->Act->World->Prop}(hr:TR c J k s a w)(hQ:∀s' a' w',TR c J k s' a' w'->Q .normal s' k->Q' .normal a' w')
  (h:cq c.P ops.toList l s (λs'=>s'.bx[J.i]? =some .dead/\Q .normal s' k)):wpListIn c.F 0 c.P ops Q' l a w:=by
 obtain⟨g,hg,nc,G1⟩:=hr.inside;exact n9 (c:=beside c J.p w g) (K:=λs'=>s'.bx[J.i]? =some .dead/\Q .normal s' k) (λs' a' w' cH ⟨hd,hq⟩=>hQ s' a' w' (G1 s' a' w' cH hd) hq) l s a w ⟨g,nc⟩ h
theorem TR.put {a:Act}{w:World}{d:D}{v:Value}{dst:Option Tmp}(hr:TR c J k s a w)(hd:bp s dst)(hv:∀g,RG c s a w g->(∀(q:Nat) (p:D×D) (m:MapEntry),J.es[q]? =some p->J.ms[q]? =some m->Rel w g.mg m.key p.1/\Rel w g.mg m.val p.2)->Rel w g v d):TR c J k (s.put dst d) (a.put dst v) w:=by
 obtain⟨g,hg,hb,qP,ga,b9,uU⟩:=hr.rg;refine⟨⟨g,hg.put hd (hv g hg b9),hb,qP,ga,b9,λj kd b' hj=>uU j kd b' (by cases dst<;>exact hj)⟩, ?_,hr.it,hr.mp,hr.sz,hr.one,hr.i_,hr.own,hr.lo,hr.kk⟩;have:=hr.dead;cases dst<;>exact this
theorem Sz {id:Nat}{l:List Oper}{it:Operand}{d1:Tmp}{ty:TypeId}{pos:String}{aft:Array Edge}(hit:s.ev it= .val (.pointer (some ⟨J.r,0,none⟩)))(hd:bp s (some d1))
  (h0:k=J.es.length->cq c.P (⟨some d1, .next it false,ty,pos,aft,none⟩::l) l (s.put (some d1) (.aQ [.bool false])) (λs'=>s'.bx[J.i]? =some .dead/\Q .normal s' k))
  (h1:∀p,k=0->J.es=[p]->cq c.P (⟨some d1, .next it false,ty,pos,aft,none⟩::l) l (s.put (some d1) (.aQ [.bool true,p.1,p.2])) (λs'=>s'.bx[J.i]? =some .dead/\Q .normal s' 1)):
  jv c J (.region id (⟨some d1, .next it false,ty,pos,aft,none⟩::l).toArray false) Q s k:=by
 intro a w hr;refine wpIn_region_lit ?_;unfold wpListIn;rw[if_pos (by simp[Region.wanted])];refine gK (c:=c) (λcl h=>by cases h) ?_;obtain⟨g,hg,hb,qP,ga,b9,uU⟩:=hr.rg;obtain⟨c0,ng,tp,DK⟩:=hr.it;have lx:=hg.ev it;rw[hit]at lx;generalize qH:a.eval it=vx at lx;cases lx;have oT:J.r < w.heap.size:=(bJ.1 tp).1;have bS:J.r≠J.b:=λe=>by rw[e,hr.mp]at tp;cases tp
 unfold Oper.wp;rcases run_next_at (P:=c.P) w ty J.r J.b J.cl c0 (J.seen k) J.ms J.cl tp hr.mp hr.i_.2 ng with⟨hz,bg⟩|⟨e,he,w1,qG,bg⟩
 ·have hk:k=J.es.length:=by
   rcases fL k J.es.length with aU|il
   ·exfalso;have h1:=hr.one;have tn:k=0:=ag;subst tn;have:(leftOf J.ms #[]).size=J.ms.size:=by unfold leftOf;rw[show(Array.filter (λe=> !(#[]:Array Nat).contains e.born) J.ms)=J.ms from Array.filter_eq_self.2 (λ_ _=>by simp)]
    rw[show J.seen 0=#[]from rfl,this,hr.sz]at hz;omega
   ·exact Nat.le_antisymm hr.kk il
  have hex:(execOp a.eval ⟨some d1, .next it false,ty,pos,aft,none⟩).run c.P w= .ok (.value (.tuple #[.bool false])) w:=by simp[execOp,qH,bg]
  rw[hex];exact(hr.put (v:= .tuple #[.bool false]) (d:= .aQ [.bool false]) hd (λg _ _=> .aQ _ _ _ rfl (λq d hd=>by
   match q,hd with
   |0,hd=>cases hd;exact .bool _ _))).step (λs' a' w' cH hq=>⟨s',k,cH,hq⟩) (h0 hk)
 ·have tn:k=0:=by
   rcases Nat.eq_zero_or_pos k with h|h
   ·exact h
   ·exfalso;obtain⟨k',rfl⟩:∃k',k=k' + 1:=⟨k - 1,ag⟩;unfold leftOf at he;simp only[It.seen,ag7,Cn,Bool.not_eq_true']at he;have:(Array.map (λx=>x.born) J.ms).contains e.born=true:=by
     rw[Array.contains_iff_mem];exact Array.mem_map.2 ⟨e,by simpa using he.1,rfl⟩
    rw[this]at he;cases he.2
  subst tn;have iq:e∈J.ms.toList:=by
   unfold leftOf at he;simp only[ag7,Cn]at he;exact he.1
  have gu:=hr.one;have bo:=hr.sz;obtain⟨p,hp⟩:∃p,J.es=[p]:=by
   match gF:J.es with
   |[p]=>exact⟨p,rfl⟩
   |[]=>exfalso;rw[gF]at bo;have:=List.length_pos_of_mem iq;rw[zW]at this;simp only[List.length_nil]at bo;omega
   |p::q::r=>rw[gF]at gu;simp at gu
  have wE:J.ms=#[e]:=by
   have gL:J.ms.size=1:=by rw[bo,hp];rfl
   have:J.ms.toList=[e]:=by
    match hm:J.ms.toList with
    |[m]=>rw[hm]at iq;simp at iq;rw[iq]
    |[]=>rw[hm]at iq;cases iq
    |m::n::r=>
             have:J.ms.toList.length=1:=by rw[zW];exact gL
             rw[hm]at this;simp at this
   rw[<-Array.toArray_toList (xs:=J.ms),this]
  have hex:(execOp a.eval ⟨some d1, .next it false,ty,pos,aft,none⟩).run c.P w= .ok (.value (.tuple #[.bool true,e.key,e.val])) (ChangeMaps.setBlock w1 J.r (.mapIter (some J.b) J.cl ((J.seen 0).push e.born) J.cl)):=by simp[execOp,qH,bg]
  rw[hex];obtain⟨w2,wu⟩:∃w2,w2=ChangeMaps.setBlock w1 J.r (.mapIter (some J.b) J.cl ((J.seen 0).push e.born) J.cl):=⟨_,rfl⟩;rw[<-wu];have hh:∀x,x≠J.r->w2.heap[x]? =w.heap[x]? :=λx hx=>by
   rw[wu];rcases qG with rfl|rfl<;>(show(Tt _ _ _)[x]? =_;rw[sB,if_neg (Ne.symm hx)];try rfl)
  have uR:w2.heap[J.r]? =some (.mapIter (some J.b) J.cl ((J.seen 0).push e.born) J.cl):=by
   rw[wu];rcases qG with rfl|rfl<;>(show(Tt _ _ _)[J.r]? =_;rw[sB,if_pos rfl,if_pos (by exact oT)])
  have anM:w2.heap.size=w.heap.size:=by
   rw[wu];rcases qG with rfl|rfl<;>(show(Tt _ _ _).size=_;simp)
  have l_:w2.os=w.os/\w2.tape=w.tape/\w2.output=w.output:=by
   rw[wu];rcases qG with rfl|rfl<;>exact⟨rfl,rfl,rfl⟩
  have fy:RG c s a w2 g:=hg.Xd J.r ⟨_,_,_,_,tp⟩ hr.lo hh ag l_.1 l_.2.1 l_.2.2;have kp:ep w g.mg w2 g.mg:=⟨λx hx=>by
   obtain⟨u,hu⟩:=hg.bt x hx;obtain⟨cs,t,fz,Dr⟩:=si hu;exact nz (hh _ (λe=>by rw[e,tp]at Dr;cases Dr)),λ_ h=>h,λ_ _ h=>h,λ_ _ h=>h,λ_ _ h=>h⟩
  have eR:TR c J 1 s a w2:=⟨⟨g,fy,hb,qP,ga,λq p m hp hq=>⟨(b9 q p m hp hq).1.bb kp,(b9 q p m hp hq).2.bb kp⟩,uU⟩,hr.dead,
   ⟨J.cl,cx _,by rw[uR];simp[It.seen,wE],λ_=>rfl⟩,(hh J.b (Ne.symm bS)).trans hr.mp,hr.sz,hr.one,hr.i_,hr.own,hr.lo,by rw[hp];exact cx _⟩
  refine(eR.put (v:= .tuple #[.bool true,e.key,e.val]) (d:= .aQ [.bool true,p.1,p.2]) hd (λg _ b9=> ?_)).step (λs' a' w' cH hq=>⟨s',1,cH,hq⟩) (h1 p rfl hp);obtain⟨r1,r2⟩:=b9 0 p e (by rw[hp];rfl) (by rw[wE];rfl);refine .aQ _ _ _ rfl (λq d hd=> ?_)
  match q,hd with
  |0,hd=>cases hd;exact .bool _ _
  |1,hd=>cases hd;exact r1.bb (AP _ _)
  |2,hd=>cases hd;exact r2.bb (AP _ _)
theorem agx {id:Nat}{l:List Oper}{it:Operand}{d1:Tmp}{ty:TypeId}{pos:String}{aft:Array Edge}{p:D×D}(hk:k=1)(hp:J.es=[p])(hit:s.ev it= .val (.pointer (some ⟨J.r,0,none⟩)))(hd:bp s (some d1))
  (h1:cq c.P (⟨some d1, .entry it,ty,pos,aft,none⟩::l) l (s.put (some d1) (.aQ [p.1,p.2])) (λs'=>s'.bx[J.i]? =some .dead/\Q .normal s' k)):
  jv c J (.region id (⟨some d1, .entry it,ty,pos,aft,none⟩::l).toArray false) Q s k:=by
 intro a w hr;subst hk;refine wpIn_region_lit ?_;unfold wpListIn;rw[if_pos (by simp[Region.wanted])];refine gK (c:=c) (λcl h=>by cases h) ?_;obtain⟨g,hg,hb,qP,ga,b9,uU⟩:=hr.rg;obtain⟨c0,ng,tp,DK⟩:=hr.it;have Bu:=DK ag;subst Bu;have lx:=hg.ev it;rw[hit]at lx;generalize qH:a.eval it=vx at lx;cases lx;have gL:J.ms.size=1:=by rw[hr.sz,hp];rfl
 obtain⟨e,wE⟩:∃e,J.ms=#[e]:=Array.size_eq_one_iff.1 gL;have hse:J.seen 1=(#[]:Array Nat).push e.born:=by simp[It.seen,wE]
 rw[hse]at tp;have bg:=run_entry_at (P:=c.P) w J.r J.b J.cl #[] J.ms J.cl e tp hr.mp (by rw[wE];simp) (by rw[wE];simp);have hex:(execOp a.eval ⟨some d1, .entry it,ty,pos,aft,none⟩).run c.P w= .ok (.value (.tuple #[e.key,e.val])) w:=by simp[execOp,qH,bg]
 unfold Oper.wp;rw[hex];refine(hr.put (v:= .tuple #[e.key,e.val]) (d:= .aQ [p.1,p.2]) hd (λg _ b9=> ?_)).step (λs' a' w' cH hq=>⟨s',1,cH,hq⟩) h1;obtain⟨r1,r2⟩:=b9 0 p e (by rw[hp];rfl) (by rw[wE];rfl);refine .aQ _ _ _ rfl (λq d hd=> ?_)
 match q,hd with
 |0,hd=>cases hd;exact r1.bb (AP _ _)
 |1,hd=>cases hd;exact r2.bb (AP _ _)
theorem TR.back {a:Act}{w:World}(hr:TR c J k s a w):R c {s with bx:=s.bx.set J.i (.mp J.es)} a w:=by
 obtain⟨g,hg,hb,qP,ga,b9,uU⟩:=hr.rg;have en:J.i < s.bx.length:=(bm.1 hr.dead).1;have hold:∀(j:Nat) (x:Bx),(s.bx.set J.i (.mp J.es))[j]? =some x->(j=J.i/\x= .mp J.es)\/(j≠J.i/\s.bx[j]? =some x):=λj x hj=>by
  by_cases bd:j=J.i
  ·subst bd;rw[je en]at hj;exact .inl ⟨rfl,(jb hj).symm⟩
  ·rw[gz (Ne.symm bd)]at hj;exact .inr ⟨bd,hj⟩
 obtain⟨κ,k1,k2⟩:=hg.ap;have fR:∀(j:Nat) (x:Bx) (b:Nat),j≠J.i->s.bx[j]? =some x->x.live=true->g.β[j]? =some b->b≠J.b:=λj x b bd hj hl bT e=>by
  subst e;cases x with
  |dead=>cases hl
  |mu cs=>
   obtain⟨b2,vs,t,e1,e2,_⟩:=(hg.bx j cs hj).ex;rw[bT]at e1;cases e1
   rw[hr.mp]at e2;cases e2
  |fz cs=>
   obtain⟨b2,vs,t,e1,e2,_⟩:=(hg.fz j cs hj).ex;rw[bT]at e1;cases e1
   rw[hr.mp]at e2;cases e2
  |mp es=>exact uU j es _ hj bT rfl
 refine⟨g,hg.df,hg.sz,hg.below,hg.cY,hg.bt,hg.eD,hg.S0,hg.fU,by simpa using hg.lβ,hg.lρ,hg.sl,λj cs hj=> ?_,λj cs hj=> ?_,hg.rw,⟨λb=>if b=J.b then .inl J.i else κ b,λj x b hj hx bT=> ?_,λr row v gb cH hl hv aW=> ?_⟩,λj es hj=> ?_⟩
 ·rcases hold j _ hj with⟨_,e⟩|⟨_,hj⟩
  ·cases e
  ·exact hg.bx j cs hj
 ·rcases hold j _ hj with⟨_,e⟩|⟨_,hj⟩
  ·cases e
  ·exact hg.fz j cs hj
 ·rcases hold j _ hj with⟨rfl,_⟩|⟨bd,hj⟩
  ·rw[hb]at bT;cases bT
   simp
  ·have:=fR j x b bd hj hx bT;simp only[this,if_false];exact k1 j x b hj hx bT
 ·have yU:gb≠J.b:=λe=>by
   subst e;obtain⟨v',f1,_,f3⟩:=(hg.rw r row cH).ex;rw[hv]at f1;cases f1
   obtain⟨⟨vals,bG⟩,_⟩:=f3 hl;rcases bG.2 with⟨rfl,_⟩|⟨g2,cap,cur,rfl,_,fw,_⟩
   ·simp[jr]at aW
   ·simp only[jr,fe]at aW;rw[aW,hr.mp]at fw;cases fw
  simp only[yU,if_false];exact k2 r row v gb cH hl hv aW
 ·rcases hold j _ hj with⟨rfl,e⟩|⟨bd,hj⟩
  ·cases e;refine⟨J.b,hb,⟨J.ms,J.cl,hr.mp,hr.sz,b9⟩,qP,hr.own,λms cl hh=> ?_⟩;rw[hr.mp]at hh;cases hh
   exact hr.i_
  ·exact hg.mp j es hj
theorem agG {Q':Exit->St->Prop}{id n:Nat}{l:List Oper}{y:Code}{t:TypeId}{x:Operand}{d1:Tmp}{ty:TypeId}{pos:String}{aft:Array Edge}
  (hl:l=l.take n++[⟨some d1, .range t x,ty,pos,aft,none⟩])(ht:(mapOf c.P t).isSome=true)
  (h:∀K1:St->Prop,(∀s1 i es,s1.ev x= .bz i->s1.bx[i]? =some (.mp es)->es.length<=1->bp s1 (some d1)->
    (∀J:It,J.i=i->J.es=es->jv c J y (λe s' _=>Q' e {s' with bx:=s'.bx.set i (.mp es)}) (St.put {s1 with bx:=s1.bx.set i .dead} (some d1) (.val (.pointer (some ⟨J.r,0,none⟩)))) 0)->K1 s1)->cq c.P l (l.take n) s K1):
  az c (.seq (.region id l.toArray false) y) Q' s:=by
 rintro a w A8;obtain⟨⟨kt,et⟩,kY⟩:=Option.isSome_iff_exists.1 ht;refine wpIn_seq (wpIn_region_lit ?_);obtain⟨yo,A2⟩:∃yo:Oper,yo=⟨some d1, .range t x,ty,pos,aft,none⟩:=⟨_,rfl⟩;rw[<-A2]at hl;have qU:=h (λs1=>∃i es,s1.ev x= .bz i/\s1.bx[i]? =some (.mp es)/\es.length<=1/\bp s1 (some d1)/\
  ∀J:It,J.i=i->J.es=es->jv c J y (λe s' _=>Q' e {s' with bx:=s'.bx.set i (.mp es)}) (St.put {s1 with bx:=s1.bx.set i .dead} (some d1) (.val (.pointer (some ⟨J.r,0,none⟩)))) 0) (λs1 i es h1 h2 h3 h4 h5=>⟨i,es,h1,h2,h3,h4,h5⟩)
 rw[hl]at qU;have kZ:(l.take n++[yo]).take n=l.take n:=by rw[<-hl]
 rw[kZ]at qU;rw[hl];generalize l.take n=l1 at *;refine pQ (c:=c) (ops:=(l1++[yo]).toArray) (rest:=[yo]) (λs1 a1 w1 hH ba=> ?_) l1 s a w A8 qU;obtain⟨i,es,hx,wR,gF,hd,hK⟩:=ba;obtain⟨g,hg⟩:=hH;obtain⟨b,dw⟩:=hg.mp i es wR;obtain⟨ms,cl,g1,g2,g3⟩:=dw.ex;have lx:=hg.ev x;rw[hx]at lx;generalize qH:a1.eval x=vx at lx;cases lx with
 |bz _ _ b' bT=>
 have:=dw.β;rw[bT]at this;cases this
 have n4:b < w1.heap.size:=dw.lt;have hu:=yy kY;have bg:(execOp a1.eval yo).run c.P w1= .ok (.value (.pointer (some ⟨w1.heap.size,0,none⟩))) (w1.alloc (.mapIter (some b) cl #[] cl)):=by
  simp[execOp,A2,qH,Instr.range,run_underlying hu,MapKept.run_getObj_map g1,run_newObj_alloc]
 unfold wpListIn;rw[if_pos (by rw[A2];simp[Region.wanted])];refine gK (c:=c) (by rw[A2];intro cl h;cases h) ?_;unfold Oper.wp;rw[bg];have e_:=vh w1 (.mapIter (some b) cl #[] cl);have jD:(w1.alloc (.mapIter (some b) cl #[] cl)).heap[w1.heap.size]? =some (.mapIter (some b) cl #[] cl):=World.alloc_heap_new w1 _;have bM:RG c s1 a1 (w1.alloc (.mapIter (some b) cl #[] cl)) g:=hg.world e_ (λ_ h=>h) (λ_ h=> .inl h) (hg.bt.below e_);have bo:c.w0.heap.size<=w1.heap.size:=hg.below.size;have hmn:g.M w1.heap.size=none:=by
  cases hm:g.M w1.heap.size with
  |none=>rfl
  |some f=>
   obtain⟨es,cl,h1,_⟩:=hg.df.cb _ f hm;have:=(bJ.1 h1).1;omega
 have en:i < s1.bx.length:=(bm.1 wR).1;have kp:ep w1 g.mg (w1.alloc (.mapIter (some b) cl #[] cl)) g.mg:=⟨λx hx=>by
  obtain⟨u,hu⟩:=hg.bt x hx;exact nz (e_.block _ (World.block_lt_of_cell? w1 x hu)),λ_ h=>h,λ_ _ h=>h,λ_ _ h=>h,λ_ _ h=>h⟩
 obtain⟨J,hJ⟩:∃J:It,J=⟨w1.heap.size,b,i,es,ms,cl⟩:=⟨_,rfl⟩;have hold:∀(j:Nat) (x:Bx),(s1.bx.set i .dead)[j]? =some x->(j=i/\x= .dead)\/(j≠i/\s1.bx[j]? =some x):=λj x hj=>by
  by_cases bd:j=i
  ·subst bd;rw[je en]at hj;exact .inl ⟨rfl,(jb hj).symm⟩
  ·rw[gz (Ne.symm bd)]at hj;exact .inr ⟨bd,hj⟩
 obtain⟨κ,k1,k2⟩:=bM.ap;have cK:RG c {s1 with bx:=s1.bx.set i .dead} a1 (w1.alloc (.mapIter (some b) cl #[] cl)) g:=by
  refine⟨bM.df,bM.sz,bM.below,bM.cY,bM.bt,bM.eD,bM.S0,bM.fU,by simpa using bM.lβ,bM.lρ,bM.sl,λj cs hj=> ?_,λj cs hj=> ?_,bM.rw,⟨κ,λj x b hj hx hb=> ?_,k2⟩,λj es hj=> ?_⟩
  ·rcases hold j _ hj with⟨_,e⟩|⟨_,hj⟩
   ·cases e
   ·exact bM.bx j cs hj
  ·rcases hold j _ hj with⟨_,e⟩|⟨_,hj⟩
   ·cases e
   ·exact bM.fz j cs hj
  ·rcases hold j _ hj with⟨_,rfl⟩|⟨_,hj⟩
   ·cases hx
   ·exact k1 j x b hj hx hb
  ·rcases hold j _ hj with⟨_,e⟩|⟨_,hj⟩
   ·cases e
   ·exact bM.mp j es hj
 have hTR:TR c J 0 {s1 with bx:=s1.bx.set i .dead} a1 (w1.alloc (.mapIter (some b) cl #[] cl)):=by
  rw[hJ];refine⟨⟨g,cK,dw.β,dw.nm,hmn,λq p m hp hq=>⟨(g3 q p m hp hq).1.bb kp,(g3 q p m hp hq).2.bb kp⟩,λj kd b' hj oZ e=> ?_⟩,je en,⟨cl,cx _,jD,λ_=>rfl⟩,(e_.block b n4).trans g1,g2,gF,dw.i_ ms cl g1,dw.own,bo,Nat.zero_le _⟩;rcases hold j _ hj with⟨_,e⟩|⟨bd,hj⟩
  ·cases e
  ·obtain⟨κ,k1,_⟩:=hg.ap;have e1:=k1 j _ b' hj rfl oZ;have e2:=k1 i _ b wR rfl dw.β;have e:b'=b:=e;subst e;rw[e1]at e2;injection e2 with e2;exact bd e2
 have ij:=hTR.put (dst:=some d1) (d:= .val (.pointer (some ⟨J.r,0,none⟩))) (v:= .pointer (some ⟨J.r,0,none⟩)) (by exact hd) (λg _ _=> .val _ _);have hA:=hK J (by rw[hJ]) (by rw[hJ]) _ _ ij;have oQ:yo.dst=some d1:=by rw[A2]
 have hjr:J.r=w1.heap.size:=by rw[hJ]
 rw[Oper.upon_value,oQ];unfold wpListIn;show y.wpIn _ _ _ _ _ _;rw[<-hjr];refine wpIn_mono hA ?_;rintro e a' w' ⟨s',k',cH,hq⟩;have oZ:=cH.back;have e1:J.i=i:=by rw[hJ]
 have e2:J.es=es:=by rw[hJ]
 rw[e1,e2]at oZ;exact⟨_,oZ,hq⟩
end rules
def fP (c:Ctx)(body:Code)(Q:Exit->St->Prop):Nat->St->Prop
 |0,_=>False
 |m + 1,s=>az c body (cF (fP c body Q m) Q) s
theorem lp {c:Ctx}{body:Code}{Q:Exit->St->Prop}{m:Nat}{s:St}(h:az c body (cF (fP c body Q m) Q) s):fP c body Q (m + 1) s:=h
theorem NQ {c:Ctx}{body:Code}{Q:Exit->St->Prop}:∀(m:Nat) {s:St},fP c body Q m s->∀a w,R c s a w->Code.roundsIn c.F 0 c.P body (λe a' w'=>∃s',R c s' a' w'/\Q e s') m a w
 |0,_,h,_,_,_=>h.elim
 |m + 1,s,h,a,w,hr=>by
  rw[roundsIn_succ];refine wpIn_mono (h a w hr) ?_;rintro e a' w' ⟨s',r,q⟩;cases e with
  |normal=>exact NQ m q a' w' r
  |exit id=>exact⟨s',r,q⟩
  |goto l=>exact⟨s',r,q⟩
  |ret=>exact⟨s',r,q⟩
  |panic ch=>exact⟨s',r,q⟩
  |outgrown=>exact⟨s',r,q⟩
theorem lJ {c:Ctx}{body:Code}{Q:Exit->St->Prop}{s:St}(m:Nat)(h:fP c body Q m s):az c (.loop body) Q s:=λa w hr=>wpIn_loop_rounds m (NQ m h a w hr)
mutual
def D.cP (σ:Nat->Option Nat):D->D
 | .undef=> .undef
 | .int k n=> .int k n
 | .bool b=> .bool b
 | .str s=> .str s
 | .list xs=> .list xs
 | .ro cs=> .ro cs
 | .own r=> .own r
 | .val v=> .val v
 | .eN f=> .eN f
 | .skp=> .skp
 | .any=> .any
 | .agg cs=> .agg (fW σ cs)
 | .aQ cs=> .aQ (fW σ cs)
 | .aD f cs=> .aD f (fW σ cs)
 | .dq f cs=> .dq f (fW σ cs)
 | .box i off=>match σ i with|some j=> .box j off|none=> .undef
 | .a_ i off n c=>match σ i with|some j=> .a_ j off n c|none=> .undef
 | .bz i=>match σ i with|some j=> .bz j|none=> .undef
def fW (σ:Nat->Option Nat):List D->List D
 |[]=>[]
 |d::ds=>d.cP σ::fW σ ds
end
theorem Au (σ:Nat->Option Nat):∀ds:List D,fW σ ds=ds.map (D.cP σ)
 |[]=>rfl
 |d::ds=>by simp[fW,Au σ ds]
theorem ux (σ:Nat->Option Nat)(ds:List D):(fW σ ds).length=ds.length:=by rw[Au,jU]
theorem vV {σ:Nat->Option Nat}{ds:List D}{q:Nat}{d:D}(h:(fW σ ds)[q]? =some d):∃x,ds[q]? =some x/\d=x.cP σ:=by
 rw[Au,dO,cS]at h;obtain⟨x,hx,rfl⟩:=h;exact⟨x,hx,rfl⟩
def gH (σ:Nat->Option Nat):Bx->Bx
 | .dead=> .dead
 | .mu cs=> .mu (fW σ cs)
 | .fz cs=> .fz cs
 | .mp es=> .mp (es.map λe=>(e.1.cP σ,e.2.cP σ))
theorem NU (σ:Nat->Option Nat)(x:Bx):(gH σ x).live=x.live:=by cases x<;>rfl
theorem FG {σ:Nat->Option Nat}{x:Bx}{cs:List D}(h:gH σ x= .mu cs):∃iF,x= .mu iF/\cs=fW σ iF:=by
 cases x<;>simp only[gH]at h<;>cases h
 exact⟨_,rfl,rfl⟩
theorem FI {σ:Nat->Option Nat}{x:Bx}{cs:List D}(h:gH σ x= .fz cs):x= .fz cs:=by
 cases x<;>simp only[gH]at h<;>cases h
 rfl
theorem FH {σ:Nat->Option Nat}{x:Bx}{es:List (D×D)}(h:gH σ x= .mp es):∃nn,x= .mp nn/\es=nn.map λe=>(e.1.cP σ,e.2.cP σ):=by
 cases x<;>simp only[gH]at h<;>cases h
 exact⟨_,rfl,rfl⟩
theorem Rel.cP {w:World}{g:Gh}{v:Value}{d:D}{σ:Nat->Option Nat}(h:Rel w g v d):∀{g':Gh},g'.S=g.S->g'.ρ=g.ρ->g'.M=g.M->(∀(i j b:Nat),σ i=some j->g.β[i]? =some b->g'.β[j]? =some b)->Rel w g' v (d.cP σ):=by
 induction h with
 |undef g v=>intros;exact .undef _ _
 |int g k n=>intros;exact .int _ _ _
 |bool g b=>intros;exact .bool _ _
 |str g s=>intros;exact .str _ _
 |val g v=>intros;exact .val _ _
 |list g A n c xs sz u hn bo fA hm hr ih=>
  intro g' h1 h2 h3 h4;refine .list _ A n c xs sz u hn bo fA (λq hq=> ?_) (λq d hd=> ?_)
  ·rw[h1];exact hm q hq
  ·have:g'.er=g.er:=by simp only[Gh.er,h1,h3]
   rw[this];exact hr q d hd
 |agg g vs cs hl gu hr ih=>
  intro g' h1 h2 h3 h4;refine .agg _ vs _ (by rw[hl,ux]) (λq hq=>gu q (by rw[ux]at hq;exact hq)) (λq d hd=> ?_);obtain⟨x,hx,rfl⟩:=vV hd;exact ih q x hx h1 h2 h3 h4
 |aQ g vs ds hl hr ih=>
  intro g' h1 h2 h3 h4;refine .aQ _ vs _ (by rw[hl,ux]) (λq d hd=> ?_);obtain⟨x,hx,rfl⟩:=vV hd;exact ih q x hx h1 h2 h3 h4
 |box g i off b hb=>
  intro g' h1 h2 h3 h4;simp only[D.cP];cases hs:σ i with
  |none=>exact .undef _ _
  |some j=>exact .box _ j off b (h4 i j b hs hb)
 |ro g ad cs u hm hr ih=>
  intro g' h1 h2 h3 h4;refine .ro _ ad cs u (λq hq=> ?_) (λq d hd=> ?_)
  ·rw[h1];exact hm q hq
  ·have:g'.er=g.er:=by simp only[Gh.er,h1,h3]
   rw[this];exact hr q d hd
 |eN g b f h=>intro g' h1 h2 h3 h4;exact .eN _ b f (by rw[h3];exact h)
 |skp g=>intros;exact .skp _
 |any g v h1=>intros;exact .any _ v h1
 |bz g i b hb=>
  intro g' h1 h2 h3 h4;simp only[D.cP];cases hs:σ i with
  |none=>exact .undef _ _
  |some j=>exact .bz _ j b (h4 i j b hs hb)
 |dq g f vs cs hl hr ih=>
  intro g' h1 h2 h3 h4;refine .dq _ f vs _ (by rw[hl,ux]) (λq d hd=> ?_);obtain⟨x,hx,rfl⟩:=vV hd;exact ih q x hx h1 h2 h3 h4
 |a_ g i off n c b hb=>
  intro g' h1 h2 h3 h4;simp only[D.cP];cases hs:σ i with
  |none=>exact .undef _ _
  |some j=>exact .a_ _ j off n c b (h4 i j b hs hb)
 |own g r' v h=>intro g' h1 h2 h3 h4;exact .own _ r' v (by rw[h2];exact h)
 |aD g f vs cs hl hr ih=>
  intro g' h1 h2 h3 h4;refine .aD _ f vs _ (by rw[hl,ux]) (λq d hd=> ?_);obtain⟨x,hx,rfl⟩:=vV hd;exact ih q x hx h1 h2 h3 h4
def pos:List Nat->Nat->Nat->Option Nat
 |[],_,_=>none
 |k::l,n,i=>bif k == i then some n else pos l (n + 1) i
theorem FY:∀{l:List Nat} {n i j:Nat},pos l n i=some j->n<=j/\l[j - n]? =some i
 |[],_,_,_,h=>by cases h
 |k::l,n,i,j,h=>by
  unfold pos at h;cases hk:k == i with
  |true=>
   rw[hk]at h;simp only[cond_true,fe]at h;subst h;exact⟨cx _,by simpa using hk⟩
  |false=>
   rw[hk]at h;simp only[cond_false]at h;obtain⟨h1,h2⟩:=FY h;refine⟨ag, ?_⟩;rw[show j - n=(j - (n + 1)) + 1 by omega,xI];exact h2
theorem FZ:∀{l:List Nat} {n i j:Nat},l.Nodup->l[j]? =some i->pos l n i=some (n + j)
 |[],_,_,_,_,h=>by simp at h
 |k::l,n,i,0,_,h=>by
  simp only[List.getElem?_cons_zero,fe]at h;subst h;simp[pos]
 |k::l,n,i,j + 1,hn,h=>by
  rw[xI]at h;have hm:i∈l:=fM h;have bS:(k == i)=false:=by
   rw[beq_eq_false_iff_ne];rintro rfl;exact(tY.1 hn).1 hm
  unfold pos;rw[bS,cond_false,FZ (tY.1 hn).2 h]
  congr 1;omega
def jY (ix:List Nat)(B:List Bx):List Bx:=ix.map λi=>match B[i]? with|some x=>gH (pos ix 0) x|none=> .dead
theorem vR {ix:List Nat}{B:List Bx}{j:Nat}{y:Bx}(h:(jY ix B)[j]? =some y)(hl:y.live=true):∃i x,ix[j]? =some i/\B[i]? =some x/\y=gH (pos ix 0) x:=by
 unfold jY at h;rw[dO,cS]at h;obtain⟨i,hi,rfl⟩:=h;cases hx:B[i]? with
 |none=>rw[hx]at hl;cases hl
 |some x=>exact⟨i,x,hi,hx,rfl⟩
section
variable {c:Ctx} {s:St} {a:Act} {w:World} {g:Gh}
def jg (ix:List Nat)(g:Gh):Gh:=⟨g.S,ix.map λi=>g.β.getD i 0,g.ρ,g.M⟩
theorem Ak {ix:List Nat}{g:Gh}(hn:ix.Nodup)(i j b:Nat)(h:pos ix 0 i=some j)(hb:g.β[i]? =some b):(jg ix g).β[j]? =some b:=by
 have:=(FY h).2;simp only[Nat.sub_zero]at this;show(ix.map λi=>g.β.getD i 0)[j]? =some b;rw[dO,this];simp[hb]
theorem sN {ix:List Nat}{g:Gh}{j i b:Nat}(h:ix[j]? =some i)(hb:g.β[i]? =some b):(jg ix g).β[j]? =some b:=by
 show(ix.map λi=>g.β.getD i 0)[j]? =some b;rw[dO,h];simp[hb]
theorem Sj (iX:∃κ,Jc s g κ)(abM:g.β.length=s.bx.length)(ix:List Nat)(hn:ix.Nodup){n:Nat}{sl:Nat->D}:∃κ,Jc ⟨n,sl,jY ix s.bx,s.rw⟩ (jg ix g) κ:=by
 obtain⟨κ,k1,k2⟩:=iX;refine⟨λb=>match κ b with| .inl i=> .inl ((pos ix 0 i).getD 0)| .inr r=> .inr r,λj y b hj hl hb=> ?_,λr row v gb hr hl hv aW=> ?_⟩
 ·obtain⟨i,x,hi,hx,rfl⟩:=vR hj hl;rw[NU]at hl;have hβ:g.β[i]? =some b:=by
   have en:i < g.β.length:=by rw[abM];exact(bm.1 hx).1
   have:(jg ix g).β[j]? =some g.β[i]:=sN hi (cX en);rw[this]at hb;rw[cX en];exact hb
  have hk:=k1 i x b hx hl hβ;simp only[hk,FZ hn hi,Option.getD_some,jd]
 ·have hk:=k2 r row v gb hr hl hv aW;simp only[hk]
theorem RG.select (h:RG c s a w g)(ix:List Nat)(hn:ix.Nodup)(h0:∀i,i < c.β0.length->ix[i]? =some i):
  RG c ⟨s.n,λm=>(s.sl m).cP (pos ix 0),jY ix s.bx,s.rw⟩ a w (jg ix g):=by
 have lZ:∀{v:Value} {d:D},Rel w g v d->Rel w (jg ix g) v (d.cP (pos ix 0)):=λhr=>hr.cP rfl rfl rfl (λi j b=>Ak hn i j b);have uS:∀{v:Value} {d:D},Rel w g.mg v d->Rel w (jg ix g).mg v (d.cP (pos ix 0)):=λhr=>hr.cP rfl rfl rfl (λi j b=>Ak hn i j b);refine⟨h.df.gh rfl (λi b hc hb=> ?_),h.sz,h.below,h.cY,h.bt,h.eD,h.S0,h.fU,by simp[jg,jY],h.lρ,λm=>lZ (h.sl m),λj cs hj=> ?_,λj cs hj=> ?_,λr row hr=> ?_, ?_,λj es hj=> ?_⟩
 ·exact sN (h0 i (bm.1 hc).1) hb
 ·obtain⟨i,x,hi,hx,e⟩:=vR hj rfl;obtain⟨iF,rfl,rfl⟩:=FG e.symm;obtain⟨b,vs,t,e1,e2,e3,e4,e5,e6⟩:=(h.bx i iF hx).ex;refine⟨b,vs,t,sN hi e1,e2,⟨by rw[ux];exact e3.1,λq d hd=> ?_⟩,e4,e5,(λhh=>by cases hh)⟩;obtain⟨y,hy,rfl⟩:=vV hd;exact⟨lZ (e3.2 q y hy).1,(e3.2 q y hy).2⟩
 ·obtain⟨i,x,hi,hx,e⟩:=vR hj rfl;obtain rfl:=FI e.symm;obtain⟨b,vs,t,e1,e2,e3,e4,e5,e6⟩:=(h.fz i cs hx).ex;exact⟨b,vs,t,sN hi e1,e2,e3,e4,e5,e6⟩
 ·obtain⟨v,e1,e2,e3⟩:=(h.rw r row hr).ex;exact⟨v,e1,lZ e2,e3⟩
 ·exact Sj h.ap h.lβ ix hn
 ·obtain⟨i,x,hi,hx,e⟩:=vR hj rfl;obtain⟨nn,rfl,rfl⟩:=FH e.symm;obtain⟨b,dw⟩:=h.mp i nn hx;obtain⟨ms,cl,g1,g2,g3⟩:=dw.ex;refine⟨b,sN hi dw.β,⟨ms,cl,g1,by rw[jU];exact g2,λq p m hp hq=> ?_⟩,dw.nm,dw.own,dw.i_⟩;rw[dO,cS]at hp;obtain⟨p0,jO,rfl⟩:=hp;exact⟨uS (g3 q p0 m jO hq).1,uS (g3 q p0 m jO hq).2⟩
end
def uw (σ:Nat->Option Nat)(sl:Nat->D):Nat->D:=λm=>(sl m).cP σ
theorem aO.select {c:Ctx}{n:Nat}{sl:Nat->D}{bx:List Bx}{aL:List Row}(ix:List Nat)(hn:ix.Nodup)(h0:∀i,i < c.β0.length->ix[i]? =some i):
  aO c ⟨n,sl,bx,aL⟩ ⟨n,uw (pos ix 0) sl,jY ix bx,aL⟩:=λ_ _ ⟨g,hg⟩=>⟨_,hg.select ix hn h0⟩
theorem Dm {ix:List Nat}{k m:Nat}(hk:m=k)(h:(List.range k).all (λi=>ix[i]? == some i)=true):∀i,i < m->ix[i]? =some i:=λi hi=>by
 subst hk;have:=(List.all_eq_true.1 h) i (List.mem_range.2 hi);simpa using this
def oF (ix:List Nat)(n:Nat)(j:Nat):Nat:=match ix[j]? with|some i=>i|none=>n + (j - ix.length)
def up (ix:List Nat)(n:Nat):Nat->Option Nat:=λj=>some (oF ix n j)
def n_ (nb:Nat):Bx->Bx
 | .mu cs=> .mu (cs.map (iZ nb))
 |x=>x
theorem aep (nb:Nat)(x:Bx):(n_ nb x).live=x.live:=by cases x<;>rfl
def qY (ix:List Nat)(n:Nat)(aF:List Bx)(i:Nat)(x:Bx):Bx:=match pos ix 0 i with
 |some j=>match aF[j]? with|some y=>gH (up ix n) y|none=> .dead
 |none=>n_ n x
def nq (ix:List Nat)(n:Nat)(aF:List Bx):Nat->List Bx->List Bx
 |_,[]=>[]
 |i,x::B=>qY ix n aF i x::nq ix n aF (i + 1) B
def pR (ix:List Nat)(B aF:List Bx):List Bx:=nq ix B.length aF 0 B++(aF.drop ix.length).map (gH (up ix B.length))
theorem BN (ix:List Nat)(n:Nat)(aF:List Bx):∀(B:List Bx) (i:Nat),(nq ix n aF i B).length=B.length
 |[],_=>rfl
 |x::B,i=>by simp[nq,BN ix n aF B (i + 1)]
theorem HV (ix:List Nat)(n:Nat)(aF:List Bx):∀(B:List Bx) (i j:Nat),(nq ix n aF i B)[j]? =(B[j]?).map (qY ix n aF (i + j))
 |[],_,_=>by simp[nq]
 |x::B,i,0=>by simp[nq]
 |x::B,i,j + 1=>by
  simp only[nq,xI,HV ix n aF B (i + 1) j];rw[show i + 1 + j=i + (j + 1) by omega]
theorem adz {ix:List Nat}{B aF:List Bx}{k:Nat}{y:Bx}(hlen:ix.length<=aF.length)(Bn:∀i∈ix,i < B.length)(h:(pR ix B aF)[k]? =some y)(hl:y.live=true):
  (pos ix 0 k=none/\k < B.length/\∃x,B[k]? =some x/\y=n_ B.length x)\/(∃j z,aF[j]? =some z/\y=gH (up ix B.length) z/\k=oF ix B.length j/\(ix[j]? =some k\/(ix.length<=j/\k=B.length + (j - ix.length)))):=by
 unfold pR at h;by_cases hk:k < B.length
 ·rw[cZ (by rw[BN];exact hk),HV,cS]at h;obtain⟨x,hx,rfl⟩:=h;rw[jd]at hl⊢;unfold qY at hl⊢;cases hp:pos ix 0 k with
  |none=>
   rw[hp]at hl;exact .inl ⟨rfl,hk,x,hx,rfl⟩
  |some j=>
   rw[hp]at hl;simp only at hl⊢;cases hz:aF[j]? with
   |none=>rw[hz]at hl;cases hl
   |some z=>
    have:=(FY hp).2;rw[Nat.sub_zero]at this;exact .inr ⟨j,z,hz,rfl,by unfold oF;rw[this], .inl this⟩
 ·rw[gk (by rw[BN];omega),BN,dO,cS]at h;obtain⟨z,hz,rfl⟩:=h;rw[tZ]at hz;have e:k=B.length + (ix.length + (k - B.length) - ix.length):=ag;refine .inr ⟨_,z,hz,rfl, ?_, .inr ⟨ag,e⟩⟩;unfold oF;rw[List.getElem?_eq_none ag];exact e
theorem Names.X1 {w:World}{g:Gh}{v:Value}{d:D}(h:Rel w g v d){nb:Nat}(hN:Names nb 0 d):Rel w ⟨g.S,g.β,[],g.M⟩ v d:=by
 have:=h.cut hN;refine this.bb ⟨λ_ _=>rfl,λ_ h=>h,λi b hb=> ?_,λi b hb=>by simp at hb,λ_ _ h=>h⟩;rw[List.getElem?_take]at hb;split at hb
 ·exact hb
 ·cases hb
section
variable {P:Program} {f:FuncId} {ds:List D} {bx:List Bx} {rw:List Row} {K:D->List Bx->List Row->Prop}
theorem aT.frame (h:aT P f ds bx rw K)(ix:List Nat){cu:List D}{B:List Bx}(hn:ix.Nodup)(Bn:∀i∈ix,i < B.length)(kc:jY ix B=bx)(tx:cu.map (D.cP (pos ix 0))=ds):
  aT P f cu B rw (λd' B' aL=>∃d aF,K d aF aL/\ix.length<=aF.length/\d'=d.cP (up ix B.length)/\B'=pR ix B aF):=by
 refine⟨h.1,λc st a W g args hP hg hB pI hl b9=> ?_⟩;subst hB;subst pI
 obtain⟨p,hp⟩:∃p:Nat->Prop,p=λb=>∃(i:Nat) (x:Bx),pos ix 0 i=none/\st.bx[i]? =some x/\x.live=true/\g.β[i]? =some b:=⟨_,rfl⟩;obtain⟨κ,k1,k2⟩:=hg.ap;have wI:=hg.D9 (a':={a with defers:=[]}) (n:=st.n) (sl:=λ_=> .undef) rfl hg.sz (λm=> .undef _ _);obtain⟨c1,By⟩:∃c1:Ctx,c1=⟨c.P,W,g.S,g.M,none,λb=>W.heap.size<=b\/(c.own b/\eb W b/\¬p b),(jg ix g).β⟩:=⟨_,rfl⟩;have GU:∀(j i b:Nat),ix[j]? =some i->g.β[i]? =some b->∀x:Bx,st.bx[i]? =some x->x.live=true->¬p b:=λj i b hj hb x hx hlx gq=>by
  rw[hp]at gq;obtain⟨i',x',h1,h2,h3,h4⟩:=gq;have e1:=k1 i x b hx hlx hb;have e2:=k1 i' x' b h2 h3 h4;rw[e1]at e2;injection e2 with e2;subst e2;rw[FZ hn hj]at h1;cases h1
 have bM:RG c1 ⟨st.n,λ_=> .undef,bx,st.rw⟩ {a with defers:=[]} W (jg ix g):=by
  have hs0:=(hg.D9 (a':={a with defers:=[]}) (n:=st.n) (sl:=λ_=> .undef) rfl hg.sz (λm=> .undef _ _));have lZ:∀{v:Value} {d:D},Rel W g v d->Rel W (jg ix g) v (d.cP (pos ix 0)):=λhr=>hr.cP rfl rfl rfl (λi j b=>Ak hn i j b);have uS:∀{v:Value} {d:D},Rel W g.mg v d->Rel W (jg ix g).mg v (d.cP (pos ix 0)):=λhr=>hr.cP rfl rfl rfl (λi j b=>Ak hn i j b);subst By;rw[<-kc];refine⟨⟨⟨vt,λd hd=>by cases hd⟩,hg.df.cb,λ_ _ h=>h,λ_ _ h=> .inl h,λ_ _ h=>h,λ_ _=>rfl,hg.df.fj.own hg.below hg.df.cb (λb hb=>hb.elim .inl λh1=> .inr (.inl h1.1))⟩,hg.sz, .of (Below.refl _ _),λ_ h=> .inl h,hg.bt,λ_ h=> .inl h,λ_ h=>h,hg.bt,by simp[jg,jY],hg.lρ,λm=> .undef _ _,λj cs hj=> ?_,λj cs hj=> ?_,λr row hr=> ?_, ?_,λj es hj=> ?_⟩
  ·obtain⟨i,x,hi,hx,e⟩:=vR hj rfl;obtain⟨iF,rfl,rfl⟩:=FG e.symm;obtain⟨b,vs,t,e1,e2,e3,e4,e5,e6⟩:=(hg.bx i iF hx).ex;refine⟨b,vs,t,sN hi e1,e2,⟨by rw[ux];exact e3.1,λq d hd=> ?_⟩, .inr ⟨e4, .inl ⟨_,_,_,e2⟩,GU j i b hi e1 _ hx rfl⟩,e5,(λhh=>by cases hh)⟩;obtain⟨y,hy,rfl⟩:=vV hd;exact⟨lZ (e3.2 q y hy).1,(e3.2 q y hy).2⟩
  ·obtain⟨i,x,hi,hx,e⟩:=vR hj rfl;obtain rfl:=FI e.symm;obtain⟨b,vs,t,e1,e2,e3,e4,e5,e6⟩:=(hg.fz i cs hx).ex;exact⟨b,vs,t,sN hi e1,e2,e3, .inr ⟨e4, .inl ⟨_,_,_,e2⟩,GU j i b hi e1 _ hx rfl⟩,e5,e6⟩
  ·obtain⟨v,e1,e2,e3⟩:=(hg.rw r row hr).ex;refine⟨v,e1,lZ e2,λhl=> ?_⟩;obtain⟨h1,h2,h3⟩:=e3 hl;refine⟨h1,h2,λgb aW=>⟨.inr ⟨(h3 gb aW).1, ?_,λgq=> ?_⟩,(h3 gb aW).2⟩⟩
   ·obtain⟨vals,bG⟩:=h1;rcases bG.2 with⟨rfl,_⟩|⟨g2,cap,cur,rfl,_,fw,_⟩
    ·simp[jr]at aW
    ·simp[jr]at aW;subst aW;exact .inl ⟨_,_,_,fw⟩
   ·rw[hp]at gq;obtain⟨i',x',gu,HF,h3',h4'⟩:=gq;have e4:=k1 i' x' gb HF h3' h4';rw[k2 r row v gb hr hl e1 aW]at e4;cases e4
  ·exact Sj hg.ap hg.lβ ix hn
  ·obtain⟨i,x,hi,hx,e⟩:=vR hj rfl;obtain⟨nn,rfl,rfl⟩:=FH e.symm;obtain⟨b,dw⟩:=hg.mp i nn hx;obtain⟨ms,cl,g1,g2,g3⟩:=dw.ex;refine⟨b,sN hi dw.β,⟨ms,cl,g1,by rw[jU];exact g2,λq p m hp hq=> ?_⟩,dw.nm, .inr ⟨dw.own,dw.Bg,GU j i b hi dw.β _ hx rfl⟩,dw.i_⟩;rw[dO,cS]at hp;obtain⟨p0,jO,rfl⟩:=hp;exact⟨uS (g3 q p0 m jO hq).1,uS (g3 q p0 m jO hq).2⟩
 have abx:∀q x,ds[q]? =some x->Rel W (jg ix g) (args.getD q Go.undef) x:=λq x hx=>by
  rw[<-tx,dO,cS]at hx;obtain⟨y,hy,rfl⟩:=hx;exact(b9 q y hy).cP rfl rfl rfl (λi j b=>Ak hn i j b)
 have bE:=h.2 c1 _ _ W (jg ix g) args (by rw[By];exact hP) bM rfl rfl (by rw[hl,<-tx,jU]) abx;refine bE.mono ?_;rintro e W' ⟨v,d,s2,a2,g2,rfl,h2,hv,hk⟩;have hW:W.heap.size<=W'.heap.size:=h2.below.size;have yX:∀(i b:Nat),(jg ix g).β[i]? =some b->g2.β[i]? =some b:=λi b hb=>h2.df.eV i b hb;have hlen:ix.length<=s2.bx.length:=by
  rw[<-h2.lβ];rcases fL g2.β.length ix.length with h3|h3
  ·have hx:(jg ix g).β[g2.β.length]? =some ((jg ix g).β[g2.β.length]'(by simp[jg];omega)):=cX _
   have:=yX _ _ hx;simp at this
  ·exact h3
 have bG:∀b,(inner c1 W (jg ix g)).own b->W.heap.size<=b\/(c.own b/\eb W b/\¬p b):=λb hb=>by
  rcases hb with hb|⟨hb,_⟩
  ·exact .inl hb
  ·rw[By]at hb;exact hb
 have tc:∀b,(inner c1 W (jg ix g)).own b->(inner c W g).own b:=λb hb=>(bG b hb).elim .inl λh=> .inr ⟨h.1,h.2.1⟩;obtain⟨g3,dW⟩:∃g3:Gh,g3=⟨g2.S,g.β++g2.β.drop ix.length,g2.ρ,g2.M⟩:=⟨_,rfl⟩;have rQ:∀(i b:Nat),g.β[i]? =some b->g3.β[i]? =some b:=λi b hb=>by
  rw[dW];show(g.β++_)[i]? =_;rw[cZ (bm.1 hb).1];exact hb
 have yF:∀(j b:Nat),g2.β[j]? =some b->g3.β[oF ix st.bx.length j]? =some b:=λj b hb=>by
  unfold oF;cases hj:ix[j]? with
  |some i=>
   simp only;have en:i < g.β.length:=by rw[hg.lβ];exact Bn i (fM hj)
   have h1:=yX j _ (sN hj (cX en));rw[hb]at h1;rw[rQ i _ (cX en),h1]
  |none=>
   simp only;have eu:ix.length<=j:=by
    rcases fL j ix.length with h1|h1
    ·rw[cX h1]at hj;cases hj
    ·exact h1
   rw[dW];show(g.β++_)[_]? =_;rw[gk (by rw[hg.lβ];omega),hg.lβ,tZ];rw[show ix.length + (st.bx.length + (j - ix.length) - st.bx.length)=j by omega];exact hb
 have lZ:∀{v:Value} {d:D},Rel W' g2 v d->Rel W' g3 v (d.cP (up ix st.bx.length)):=λhr=>hr.cP (by rw[dW]) (by rw[dW]) (by rw[dW]) (λi j b hi hb=>by
  simp only[up,fe]at hi;subst hi;exact yF i b hb)
 have uS:∀{v:Value} {d:D},Rel W' g2.mg v d->Rel W' g3.mg v (d.cP (up ix st.bx.length)):=λhr=>hr.cP (by rw[dW];rfl) (by rfl) (by rw[dW];rfl) (λi j b hi hb=>by
  simp only[up,fe]at hi;subst hi;exact yF i b hb)
 have kpR:ep W ⟨g.S,g.β,[],g.M⟩ W' g3:=⟨λx hx=>h2.df.iA x hx,λx hx=>by rw[dW];exact h2.S0 x hx,rQ,λi b hb=>by simp at hb,λb f hb=>by rw[dW];exact h2.df.m0 b f hb⟩;have kpE:ep W g.er W' g3.er:=⟨λx hx=>h2.df.iA x hx,λx hx=>by rw[dW];exact h2.S0 x hx,λi b hb=>by simp[Gh.er]at hb,λi b hb=>by simp[Gh.er]at hb,λb f hb=>by rw[dW];exact h2.df.m0 b f hb⟩;have O':ep W g.mg W' g3.mg:=⟨λx hx=>h2.df.iA x hx,λx hx=>by rw[dW];exact h2.S0 x hx,rQ,λi b hb=>by simp[Gh.mg]at hb,λb f hb=>by rw[dW];exact h2.df.m0 b f hb⟩;have GP:∀b o,p b->W.heap[b]? =some o->(eb W b)->W'.heap[b]? =some o/\∀x,g2.S x->g.S x\/x.block≠b:=λb o gq ho hh=>by
  have n4:b < W.heap.size:=(bJ.1 ho).1;have fR:¬(inner c1 W (jg ix g)).own b:=λhb=>(bG b hb).elim (λh=>by omega) (λh=>h.2.2 gq);have hM:g.M b=none:=by
   cases hm:g.M b with
   |none=>rfl
   |some f=>
    exfalso;rw[hp]at gq;obtain⟨i,x,h1,hx,h3,h4⟩:=gq;cases x with
    |dead=>cases h3
    |mu cs=>
     obtain⟨b',vs,t,e1,e2,_⟩:=(hg.bx i cs hx).ex;rw[h4]at e1;cases e1
     rw[hg.df.cb.uD e2]at hm;cases hm
    |fz cs=>
     obtain⟨b',vs,t,e1,e2,_⟩:=(hg.fz i cs hx).ex;rw[h4]at e1;cases e1
     rw[hg.df.cb.uD e2]at hm;cases hm
    |mp es=>
     obtain⟨b',dw⟩:=hg.mp i es hx;have:=dw.β;rw[h4]at this;cases this
     rw[dw.nm]at hm;cases hm
  refine⟨(h2.below.block b n4 (λhm=> ?_)).trans ho,λx hx=> ?_⟩
  ·rcases hm with hm|hm
   ·exact fR hm
   ·exact hm hM
  ·rcases h2.eD x hx with h1|h1
   ·exact .inl h1
   ·exact .inr (λe=>fR (e▸h1))
 have Dx:∀(i:Nat) (x:Bx) (b:Nat),pos ix 0 i=none->st.bx[i]? =some x->x.live=true->g.β[i]? =some b->p b:=λi x b h1 h2 h3 h4=>by rw[hp];exact⟨i,x,h1,h2,h3,h4⟩
 refine⟨v,d.cP (up ix st.bx.length),⟨s2.n,λ_=> .undef,pR ix st.bx s2.bx,s2.rw⟩,{a2 with defers:=[]},g3,rfl, ?_,lZ hv,d,s2.bx,hk,hlen,rfl,rfl⟩;have DN:=λ{k:Nat} {y:Bx}=>adz (k:=k) (y:=y) hlen Bn;refine⟨⟨⟨vt,λd hd=>by cases hd⟩, ?_,λb f hb=> ?_,λb f hb=> ?_,λi b hb=>rQ i b hb,λx hx=>h2.df.iA x hx,wI.df.fj⟩,h2.sz,
  ⟨h2.below.os,h2.below.tape,h2.below.output,h2.below.size,λk hk hn=>h2.below.block k hk (λhm=>hn ?_)⟩,λb hb=> .inl hb, ?_,λx hx=> ?_,λx hx=> ?_,hg.bt, ?_, ?_,λm=> .undef _ _,λk cs hk=> ?_,λk cs hk=> ?_,λr row hr=> ?_, ?_,λk es hk=> ?_⟩
 ·rw[dW];exact h2.df.cb
 ·rw[dW];exact h2.df.m0 b f hb
 ·rw[dW]at hb;rcases h2.df.fX b f hb with h3|h3
  ·exact .inl h3
  ·exact .inr h3
 ·rcases hm with hm|hm
  ·exact .inl (tc k hm)
  ·exact .inr hm
 ·rw[dW];exact h2.bt
 ·rw[dW]at hx;rcases h2.eD x hx with h3|h3
  ·exact .inl h3
  ·exact .inr (tc _ h3)
 ·rw[dW];exact h2.S0 x hx
 ·rw[dW];show(g.β++g2.β.drop ix.length).length=(pR ix st.bx s2.bx).length;simp only[pR,List.length_append,BN,jU,List.length_drop,h2.lβ,hg.lβ]
 ·rw[dW];exact h2.lρ
 ·rcases DN hk rfl with⟨wz,nZ,x,hx,e⟩|⟨j,z,hz,e,jE,_⟩
  ·cases x with
   |mu iF=>
    simp only[n_,Bx.mu.injEq]at e;subst e;obtain⟨b,vs,t,e1,e2,e3,e4,e5,e6⟩:=(hg.bx k iF hx).ex;obtain⟨s1,s3⟩:=GP b _ (Dx k _ b wz hx rfl e1) e2 (.inl ⟨_,_,_,e2⟩);refine⟨b,vs,t,rQ k b e1,s1,⟨by rw[jU];exact e3.1,λq d hd=> ?_⟩, .inr ⟨e4, .inl ⟨_,_,_,e2⟩⟩,λ_ x hx=> ?_,(λhh=>by cases hh)⟩
    ·rw[dO,cS]at hd;obtain⟨y,hy,rfl⟩:=hd;exact⟨(Names.X1 (Rk (e3.2 q y hy).1) (Rl _ _)).bb kpR,(e3.2 q y hy).2⟩
    ·rw[dW]at hx;exact(s3 x hx).elim (e5 rfl x) id
   |_=>simp only[n_]at e;cases e
  ·obtain⟨iF,rfl,rfl⟩:=FG e.symm;obtain⟨b,vs,t,e1,e2,e3,e4,e5,e6⟩:=(h2.bx j iF hz).ex;refine⟨b,vs,t,by rw[jE];exact yF j b e1,e2,⟨by rw[ux];exact e3.1,λq d hd=> ?_⟩,tc b e4,by rw[dW];exact e5,(λhh=>by cases hh)⟩;obtain⟨y,hy,rfl⟩:=vV hd;exact⟨lZ (e3.2 q y hy).1,(e3.2 q y hy).2⟩
 ·rcases DN hk rfl with⟨wz,nZ,x,hx,e⟩|⟨j,z,hz,e,jE,_⟩
  ·cases x with
   |fz iF=>
    simp only[n_,Bx.fz.injEq]at e;subst e;obtain⟨b,vs,t,e1,e2,e3,e4,e5,e6⟩:=(hg.fz k cs hx).ex;obtain⟨s1,s3⟩:=GP b _ (Dx k _ b wz hx rfl e1) e2 (.inl ⟨_,_,_,e2⟩);refine⟨b,vs,t,rQ k b e1,s1,e3.bb kpE, .inr ⟨e4, .inl ⟨_,_,_,e2⟩⟩,(λhh=>by cases hh),λ_ q hq=> ?_⟩;rw[dW];exact h2.S0 _ (e6 rfl q hq)
   |_=>simp only[n_]at e;cases e
  ·obtain rfl:=FI e.symm;obtain⟨b,vs,t,e1,e2,e3,e4,e5,e6⟩:=(h2.fz j cs hz).ex;refine⟨b,vs,t,by rw[jE];exact yF j b e1,e2, ?_,tc b e4,(λhh=>by cases hh),by rw[dW];exact e6⟩;have:g3.er=g2.er:=by rw[dW];rfl
   show fF W' g3.er vs cs;rw[this];exact e3
 ·obtain⟨v',e1,e2,e3⟩:=(h2.rw r row hr).ex;refine⟨v',by rw[dW];exact e1, ?_,λhl=> ?_⟩
  ·exact lZ e2
  ·obtain⟨h4,h5,h6⟩:=e3 hl;exact⟨h4,h5,λgb aW=>⟨tc gb (h6 gb aW).1,by rw[dW];exact(h6 gb aW).2⟩⟩
 ·obtain⟨κ2,l1,l2⟩:=h2.ap
  classical
  refine⟨λb=>if p b then κ b else match κ2 b with| .inl j=> .inl (oF ix st.bx.length j)| .inr r=> .inr r,λk y b hk hl hb=> ?_,λr row v' gb hr hl oR aW=> ?_⟩
  ·rcases DN hk hl with⟨wz,nZ,x,hx,rfl⟩|⟨j,z,hz,rfl,jE,_⟩
   ·rw[aep]at hl;have P':k < g.β.length:=by rw[hg.lβ];exact nZ
    have hO:g.β[k]? =some b:=by
     have:=rQ k _ (cX P');rw[this]at hb;rw[cX P'];exact hb
    simp only[Dx k x b wz hx hl hO,if_true];exact k1 k x b hx hl hO
   ·rw[NU]at hl;have Qc:j < g2.β.length:=by rw[h2.lβ];exact(bm.1 hz).1
    have hO:g2.β[j]? =some b:=by
     have:=yF j _ (cX Qc);rw[<-jE,hb]at this;rw[cX Qc];exact this.symm
    have G4:¬p b:=by
     have ho:=(h2.om hz hl hO).2;rcases bG b ho with h3|h3
     ·intro gq;rw[hp]at gq;obtain⟨i,x,q1,q2,q3,q4⟩:=gq;have:=(hg.om q2 q3 q4).1;omega
     ·exact h3.2.2
    simp only[G4,if_false,l1 j z b hz hl hO,jE]
  ·have j8:g2.ρ[r]? =some v':=by rw[dW]at oR;exact oR
   have G4:¬p gb:=by
    have ho:=(h2.oG hr hl j8 aW).2;rcases bG gb ho with h3|h3
    ·intro gq;rw[hp]at gq;obtain⟨i,x,q1,q2,q3,q4⟩:=gq;have:=(hg.om q2 q3 q4).1;omega
    ·exact h3.2.2
   simp only[G4,if_false,l2 r row v' gb hr hl j8 aW]
 ·rcases DN hk rfl with⟨wz,nZ,x,hx,e⟩|⟨j,z,hz,e,jE,_⟩
  ·cases x with
   |mp nn=>
    simp only[n_,Bx.mp.injEq]at e;subst e;obtain⟨b,dw⟩:=hg.mp k es hx;obtain⟨ms,cl,q1,q2,q3⟩:=dw.ex;obtain⟨s1,s3⟩:=GP b _ (Dx k _ b wz hx rfl dw.β) q1 dw.Bg;have hM2:g3.M b=none:=by
     rw[dW];cases hm:g2.M b with
     |none=>rfl
     |some f=>
      rcases h2.df.fX b f hm with h3|h3
      ·rw[show(inner c1 W (jg ix g)).M0=g.M from rfl,dw.nm]at h3;cases h3
      ·exact absurd (show W.heap.size<=b from h3) (tW dw.lt)
    refine⟨b,rQ k b dw.β,⟨ms,cl,s1,q2,λq p m hp hq=>⟨(q3 q p m hp hq).1.bb O',(q3 q p m hp hq).2.bb O'⟩⟩,hM2, .inr ⟨dw.own,dw.Bg⟩,λjB jq hh=> ?_⟩;rw[s1]at hh;cases hh
    exact dw.i_ ms cl q1
   |_=>simp only[n_]at e;cases e
  ·obtain⟨nn,rfl,rfl⟩:=FH e.symm;obtain⟨b,dw⟩:=h2.mp j nn hz;obtain⟨ms,cl,q1,q2,q3⟩:=dw.ex;refine⟨b,by rw[jE];exact yF j b dw.β,⟨ms,cl,q1,by rw[jU];exact q2,λq p m hp hq=> ?_⟩,by rw[dW];exact dw.nm,tc b dw.own,dw.i_⟩;rw[dO,cS]at hp;obtain⟨p0,jO,rfl⟩:=hp;exact⟨uS (q3 q p0 m jO hq).1,uS (q3 q p0 m jO hq).2⟩
end
attribute[go_sem] D.cP fW gH pos jY oF up n_ qY nq pR
end Go.Ab
