import Derived.Test.YtopobgihpdaggaaGreatDoorZ01
set_option linter.unusedVariables false
set_option linter.unusedSimpArgs false
open Array renaming getElem?_eq_some_iff->bJ
open Go renaming undef->bH
open Go.Instr renaming fill->Cu
open List renaming append_assoc->rh,ext_getElem->IZ,getElem?_append_left->cZ,getElem?_append_right->gk,getElem?_eq_getElem->cX,getElem?_eq_some_iff->bm,getElem?_map->dO,getElem?_take->ib,map_cons->jI,mem_cons_of_mem->fE,mem_cons_self->ey,range->dB,replicate->bP
open Nat renaming add_mul->pk,le_refl->cx,le_trans->gj,lt_or_ge->fL,zero_add->jd
open Option renaming isSome_iff_exists->tV,map_eq_some_iff->cS
open Option.some renaming injEq->fe
open Go.Result renaming andThen_ok->mE
open Go.Sem renaming run_bind->kN
open Go.World renaming cell?_of_block->nz,putObj_heap_other->mB
section
namespace Go.Ab
open Go.RowKit
def D.one:D->Bool
 | .undef=>false
 | .skp=>false
 | .agg _=>false
 | .aQ _=>false
 | .val v=>v.oneCell'
 |_=>true
section
variable {c:Ctx} {s:St} {a:Act} {w:World} {g:Gh}
theorem Grow.size {w w':World}{S S':Addr->Prop}{M M':MM}(h:Grow w S M w' S' M'):w.heap.size<=w'.heap.size:=h.below.size
theorem qg.cells {w w':World}{M:MM}(hb:qg M w.heap.size w w')(hM:iN w M){b:Nat}{cs:Array Value}{t:TypeId}{fz:Nat×Nat}(h:w.heap[b]? =some (.cells cs t fz)):
  w'.heap[b]? =some (.cells cs t fz):=(hb.at b (bJ.1 h).1 (hM.uD h)).trans h
theorem qg.cell {w w':World}{M:MM}(hb:qg M w.heap.size w w')(hM:iN w M){x:Addr}{u:Value}(h:w.cell? x=some u):w'.cell? x=w.cell? x:=by
 obtain⟨cs,t,fz,hx⟩:=si h;exact nz ((hb.cells hM hx).trans hx.symm)
theorem qg.row {w w':World}{M:MM}(hb:qg M w.heap.size w w')(hM:iN w M){base:Nat}{e:TypeId}{sz:Nat}{v:Value}{n:Nat}{xs:List Value}(h:w.ownsRow base e sz v n xs):w'.ownsRow base e sz v n xs:=by
 refine⟨h.1, ?_⟩;rcases h.2 with hn|⟨g,cap,cur,rfl,hg,fw,rest⟩
 ·exact .inl hn
 ·exact .inr ⟨g,cap,cur,rfl,hg,hb.cells hM fw,rest⟩
theorem Grow.bt {w w':World}{S S':Addr->Prop}{M M':MM}(h:Grow w S M w' S' M')(hM:iN w M)(hS:Good w S):∀x,S x->w'.cell? x=w.cell? x:=λx hx=>by
 obtain⟨u,hu⟩:=hS x hx;exact h.below.cell hM hu
theorem RG.keeps {w':World}{S':Addr->Prop}{M':MM}(h:RG c s a w g)(hb:qg g.M w.heap.size w w')(h1:∀x,g.S x->S' x)(hm:∀b f,g.M b=some f->M' b=some f):ep w g w' ⟨S',g.β,g.ρ,M'⟩:=
 ⟨λx hx=>by obtain⟨u,hu⟩:=h.bt x hx;exact hb.cell h.df.cb hu,h1,λ_ _ h=>h,λ_ _ h=>h,hm⟩
theorem RG.grow {w':World}{S':Addr->Prop}{M':MM}(h:RG c s a w g)(hg:Grow w g.S g.M w' S' M')(h3:Good w' S'):RG c s a w' ⟨S',g.β,g.ρ,M'⟩:=by
 have hb:=hg.below;have h1:=hg.s1;have h2:=hg.s2;have k:=h.keeps hb h1 hg.m1;have hM:=h.df.cb;have bo:c.w0.heap.size<=w.heap.size:=h.below.size;refine⟨⟨?_,hg.cb,λb f hf=>hg.m1 b f (h.df.m0 b f hf),λb f hf=> ?_,h.df.eV,λx hx=>(hg.bt hM h.bt x (h.S0 x hx)).trans (h.df.iA x hx),h.df.fj⟩,h.sz,h.below.trans hb bo (λi hi hn=>by
  cases hm:g.M i with
  |none=>exact(hn hm).elim
  |some f=>
        rcases h.df.fX i f hm with h1|h1
        ·exact .inr (by rw[h1];simp)
        ·omega),h.cY,h3,λx hx=> ?_,λx hx=>h1 x (h.S0 x hx),h.fU,h.lβ,h.lρ,λn=>(h.sl n).bb k, ?_, ?_, ?_,h.ap,λi es hi=> ?_⟩
 rotate_right
 ·obtain⟨b,hm⟩:=h.mp i es hi;refine⟨b, ?_⟩;refine hm.bb k (hb.at b hm.lt hm.nm) ?_;cases rZ:M' b with
  |none=>exact rZ
  |some f=>
   rcases hg.m2 b f rZ with h5|h5
   ·rw[hm.nm]at h5;cases h5
   ·exact absurd hm.lt (Nat.not_lt_of_le h5)
 ·refine⟨h.df.cW.1,λd hd=> ?_⟩;obtain⟨D,hB,e,hD⟩:=h.df.cW.2 d hd;exact⟨D,hB,e,(hb.at D (bJ.1 hD).1 (hM.uC hD)).trans hD⟩
 ·rcases hg.m2 b f hf with hf|hf
  ·exact h.df.fX b f hf
  ·exact .inr (gj bo hf)
 ·rcases h2 x hx with hx|hx
  ·exact h.eD x hx
  ·exact .inr (h.cY _ (gj bo hx))
 ·intro i cs hi;obtain⟨b,vs,t,e1,e2,e3,e4,e5,e6⟩:=(h.bx i cs hi).ex;have aU:b < w.heap.size:=(bJ.1 e2).1;refine⟨b,vs,t,e1,hb.cells hM e2,e3.bb k,e4,λ_ x hx=> ?_,λh=>by cases h⟩;rcases h2 x hx with hx|hx
  ·exact e5 rfl x hx
  ·omega
 ·intro i cs hi;obtain⟨b,vs,t,e1,e2,e3,e4,e5,e6⟩:=(h.fz i cs hi).ex;exact⟨b,vs,t,e1,hb.cells hM e2,e3.bb k.er,e4,(λh=>by cases h),λ_ q hq=>h1 _ (e6 rfl q hq)⟩
 ·intro r row hr;obtain⟨v,e1,e2,e3⟩:=(h.rw r row hr).ex;refine⟨v,e1,e2.bb k,λhl=> ?_⟩;obtain⟨⟨vals,bG⟩,bE,hS⟩:=e3 hl;refine⟨⟨vals,qg.row hb hM bG⟩,bE,λgb aW=>⟨(hS gb aW).1,λx hx ig=> ?_⟩⟩;rcases h2 x hx with hx|hx
  ·exact(hS gb aW).2 x hx ig
  ·have:=(bG.lt gb aW).2;omega
theorem RG.same {a':Act}{w':World}(h:RG c s a w g)(hc:∀(b:Nat) (cs:Array Value) (t:TypeId) (fz:Nat×Nat),w.heap[b]? =some (.cells cs t fz)->w'.heap[b]? =some (.cells cs t fz))
  (hm:∀(b:Nat) (es:Array MapEntry) (cl:Nat),w.heap[b]? =some (.map es cl)->w'.heap[b]? =some (.map es cl))(hb:mK c.may c.w0.heap.size c.w0 w')(ht:a'.tmps=a.tmps)(hd:zS c.own w' a'.defers):
  RG c s a' w' g:=by
 have fI:∀x,g.S x->w'.cell? x=w.cell? x:=λx hx=>by
  obtain⟨u,hu⟩:=h.bt x hx;obtain⟨cs,t,fz,hx⟩:=si hu;exact nz ((hc _ _ _ _ hx).trans hx.symm)
 have k:ep w g w' g:=⟨fI,λ_ h=>h,λ_ _ h=>h,λ_ _ h=>h,λ_ _ h=>h⟩;refine⟨⟨hd,λb f hf=> ?_,h.df.m0,h.df.fX,h.df.eV,λx hx=>(fI x (h.S0 x hx)).trans (h.df.iA x hx),h.df.fj⟩,by rw[ht];exact h.sz,hb,h.cY,λx hx=> ?_,h.eD,h.S0,h.fU,h.lβ,h.lρ,λn=>by rw[ht];exact(h.sl n).bb k, ?_, ?_, ?_,h.ap,λi es hi=>by
  obtain⟨b,ga⟩:=h.mp i es hi;refine⟨b, ?_⟩;obtain⟨ms,cl,h1,_⟩:=ga.ex;exact ga.bb k ((hm _ _ _ h1).trans h1.symm) ga.nm⟩
 ·obtain⟨es,cl,h1,h2⟩:=h.df.cb b f hf;exact⟨es,cl,hm _ _ _ h1,h2⟩
 ·obtain⟨u,hu⟩:=h.bt x hx;exact⟨u,(fI x hx).trans hu⟩
 ·intro i cs hi;obtain⟨b,vs,t,e1,e2,e3,e4,e5,e6⟩:=(h.bx i cs hi).ex;exact⟨b,vs,t,e1,hc _ _ _ _ e2,e3.bb k,e4,e5,e6⟩
 ·intro i cs hi;obtain⟨b,vs,t,e1,e2,e3,e4,e5,e6⟩:=(h.fz i cs hi).ex;exact⟨b,vs,t,e1,hc _ _ _ _ e2,e3.bb k.er,e4,e5,e6⟩
 ·intro r row hr;obtain⟨v,e1,e2,e3⟩:=(h.rw r row hr).ex;refine⟨v,e1,e2.bb k,λhl=> ?_⟩;obtain⟨⟨vals,bG⟩,bE,hS⟩:=e3 hl;refine⟨⟨vals,bG.1, ?_⟩,bE,hS⟩;rcases bG.2 with hn|⟨g,cap,cur,rfl,hg,fw,rest⟩
  ·exact .inl hn
  ·exact .inr ⟨g,cap,cur,rfl,hg,hc _ _ _ _ fw,rest⟩
theorem RG.sJ {a':Act}{D:Nat}{o o':Obj}(h:RG c s a w g)(hD:w.heap[D]? =some o)(ho:o.isCells=false)(hm:∀es cl,o≠ .map es cl)(hB:c.own D)(ht:a'.tmps=a.tmps)
  (hd:zS c.own (w.putObj D o') a'.defers):RG c s a' (w.putObj D o') g:=by
 refine h.same (λb cs t fz hb=> ?_) (λb es cl hb=> ?_) ?_ ht hd
 ·rw[mB (λe=>by subst e;rw[hb]at hD;cases hD;cases ho)];exact hb
 ·rw[mB (λe=>by subst e;rw[hb]at hD;cases hD;exact hm _ _ rfl)];exact hb
 ·have hg:=grownBy_putObj' w D o';exact⟨hg.os.trans h.below.os,hg.tape.trans h.below.tape,hg.output.trans h.below.output,gj h.below.size hg.size,λk hk hn=>(hg.block k (Nat.lt_of_lt_of_le hk h.below.size) (λe=>hn (.inl (by cases e;exact hB)))).trans (h.below.block k hk hn)⟩
theorem RG.world {w':World}{S':Addr->Prop}(h:RG c s a w g)(hb:Below w.heap.size w w')(h1:∀x,g.S x->S' x)(h2:∀x,S' x->g.S x\/w.heap.size<=x.block)
  (h3:Good w' S'):RG c s a w' ⟨S',g.β,g.ρ,g.M⟩:=
 h.grow ⟨.of hb,h1,h2,λ_ _ h=>h,λ_ _ h=> .inl h,λb f hf=>by
  obtain⟨es,cl,h1,h2⟩:=h.df.cb b f hf;exact⟨es,cl,(hb.block b (bJ.1 h1).1).trans h1,h2⟩⟩ h3
theorem Good.below {w w':World}{S:Addr->Prop}(h:Good w S)(hb:Below w.heap.size w w'):Good w' S:=λx hx=>by
 obtain⟨u,hu⟩:=h x hx;exact⟨u,(hb.cell (h.lt hx)).trans hu⟩
theorem RG.om (h:RG c s a w g){i:Nat}{x:Bx}{b:Nat}(hi:s.bx[i]? =some x)(hl:x.live=true)(hb:g.β[i]? =some b):b < w.heap.size/\c.own b:=by
 cases x with
 |dead=>cases hl
 |mu cs=>
  obtain⟨b',vs,t,e1,e2,_,e4,_⟩:=(h.bx i cs hi).ex;rw[e1]at hb;cases hb
  exact⟨(bJ.1 e2).1,e4⟩
 |fz cs=>
  obtain⟨b',vs,t,e1,e2,_,e4,_⟩:=(h.fz i cs hi).ex;rw[e1]at hb;cases hb
  exact⟨(bJ.1 e2).1,e4⟩
 |mp es=>
  obtain⟨b',hm⟩:=h.mp i es hi;rw[hm.β]at hb;cases hb
  exact⟨hm.lt,hm.own⟩
theorem RG.oG (h:RG c s a w g){r:Nat}{row:Row}{v:Value}{gb:Nat}(hr:s.rw[r]? =some row)(hl:row.live=true)(hv:g.ρ[r]? =some v)(hb:v.ownBlock=some gb):gb < w.heap.size/\c.own gb:=by
 obtain⟨v',e1,e2,e3⟩:=(h.rw r row hr).ex;rw[e1]at hv;cases hv
 obtain⟨⟨vals,bG⟩,_,ho⟩:=e3 hl;have:=bG.lt gb hb;exact⟨this.2,(ho gb hb).1⟩
theorem vh (w:World)(o:Obj):Below w.heap.size w (w.alloc o):=(Below.refl _ _).alloc (cx _) o
theorem RG.Sv {vs:Array Value}{t:TypeId}{cs:List D}(fl:Bool)(h:RG c s a w g)(hc:fF w g vs cs):
  RG c {s with bx:=s.bx++[.mu cs]} a (w.alloc (.cells vs t (nk vs.size fl))) ⟨g.S,g.β++[w.heap.size],g.ρ,g.M⟩:=by
 have hb:=vh w (.cells vs t (nk vs.size fl));have hw:=h.world hb (λ_ h=>h) (λ_ h=> .inl h) (h.bt.below hb);have k:ep (w.alloc (.cells vs t (nk vs.size fl))) ⟨g.S,g.β,g.ρ,g.M⟩ (w.alloc (.cells vs t (nk vs.size fl))) ⟨g.S,g.β++[w.heap.size],g.ρ,g.M⟩:=
  ⟨λ_ _=>rfl,λ_ h=>h,λi b hi=>by rw[cZ (bm.1 hi).1];exact hi,λ_ _ h=>h,λ_ _ h=>h⟩
 have hold:∀(i:Nat) (x:Bx),(s.bx++[Bx.mu cs])[i]? =some x->s.bx[i]? =some x/\i < s.bx.length\/x= .mu cs/\i=s.bx.length:=λi x hi=>by
  rcases fL i s.bx.length with aU|il
  ·rw[cZ aU]at hi;exact .inl ⟨hi,aU⟩
  ·rw[gk il]at hi;have:i - s.bx.length=0:=by have:=(bm.1 hi).1;simp at this;omega
   rw[this]at hi;simp at hi;exact .inr ⟨hi.symm,ag⟩
 have hβ:∀i,i < s.bx.length->∀b,(g.β++[w.heap.size])[i]? =some b->g.β[i]? =some b:=λi hi b hb=>by
  rw[cZ (by rw[h.lβ];exact hi)]at hb;exact hb
 have A1:(g.β++[w.heap.size])[s.bx.length]? =some w.heap.size:=by rw[<-h.lβ];simp
 refine⟨hw.df.gh rfl (λi b _ hi=>by show(g.β++[w.heap.size])[i]? =some b;rw[cZ (bm.1 hi).1];exact hi),hw.sz,hw.below,hw.cY,hw.bt,hw.eD,hw.S0,hw.fU,by simp[h.lβ],hw.lρ,λn=>(hw.sl n).bb k, ?_, ?_, ?_, ?_,λi es hi=> ?_⟩
 rotate_right
 ·rcases hold i _ hi with⟨hi,hl⟩|⟨e,_⟩
  ·obtain⟨b,hm⟩:=hw.mp i es hi;refine⟨b, ?_⟩;exact hm.bb k rfl hm.nm
  ·cases e
 ·intro i ds hi;rcases hold i _ hi with⟨hi,hl⟩|⟨e,rfl⟩
  ·obtain⟨b,iJ,t',e1,e2,e3,e4,e5,e6⟩:=(hw.bx i ds hi).ex;exact⟨b,iJ,t',k.β _ _ e1,e2,e3.bb k,e4,e5,e6⟩
  ·cases e;refine⟨w.heap.size,vs,(t,fl),A1,heap_alloc_new w _,(hc.bb (h.keeps (.of hb) (λ_ h=>h) (λ_ _ h=>h))).bb k,h.cY _ h.below.size,λ_ x hx=> ?_,λh=>by cases h⟩;have:=h.bt.lt hx;omega
 ·intro i ds hi;rcases hold i _ hi with⟨hi,hl⟩|⟨e,rfl⟩
  ·obtain⟨b,iJ,t',e1,e2,e3,e4,e5,e6⟩:=(hw.fz i ds hi).ex;exact⟨b,iJ,t',k.β _ _ e1,e2,e3,e4,e5,e6⟩
  ·cases e
 ·intro r row hr;obtain⟨v,e1,e2,e3⟩:=(hw.rw r row hr).ex;exact⟨v,e1,e2.bb k,e3⟩
 ·obtain⟨κ,k1,k2⟩:=h.ap;refine⟨λb=>if b=w.heap.size then .inl s.bx.length else κ b,λi x b hi hx hb=> ?_,λr row v gb hr hl hv aW=> ?_⟩
  ·rcases hold i _ hi with⟨hi,hl⟩|⟨rfl,rfl⟩
   ·have bT:=hβ i hl b hb;have:=(h.om hi hx bT).1;simp only;rw[if_neg ag];exact k1 i x b hi hx bT
   ·rw[A1]at hb;cases hb
    simp
  ·have:=(h.oG hr hl hv aW).1;simp only;rw[if_neg ag];exact k2 r row v gb hr hl hv aW
theorem RG.alloc {vs:Array Value}{t:TypeId}{cs:List D}(h:RG c s a w g)(hc:fF w g vs cs):
  RG c {s with bx:=s.bx++[.mu cs]} a (w.alloc (.cells vs t)) ⟨g.S,g.β++[w.heap.size],g.ρ,g.M⟩:=h.Sv (t:=t) false hc
def bp (s:St)(dst:Option Tmp):Prop:=match dst with|some n=>n < s.n|none=>True
def St.put (s:St)(dst:Option Tmp)(d:D):St:=match dst with|some n=>{s with sl:=Ab.put s.sl n d}|none=>s
theorem RG.put {v:Value}{d:D}{dst:Option Tmp}(h:RG c s a w g)(hd:bp s dst)(hr:Rel w g v d):RG c (s.put dst d) (a.put dst v) w g:=by
 cases dst with
 |none=>exact h
 |some n=>
  have hn:n < a.tmps.size:=by rw[h.sz];exact hd
  refine⟨h.df.put (some n) v,by simp[Act.put,St.put,h.sz],h.below,h.cY,h.bt,h.eD,h.S0,h.fU,h.lβ,h.lρ,λm=> ?_,h.bx,h.fz,h.rw,h.ap,h.mp⟩;simp only[Act.put,St.put,Ab.put];by_cases hm:m=n
  ·subst hm;simp[hn,hr]
  ·rw[if_neg hm];have:=h.sl m;simpa[Array.getElem?_setIfInBounds,Ne.symm hm]using this
theorem RG.Zm (h:RG c s a w g){r:Nat}{v:Value}(hv:g.ρ[r]? =some v):∃A n q,v= .slice A n q:=by
 have hl:r < s.rw.length:=by rw[<-h.lρ];exact(bm.1 hv).1
 obtain⟨v',e1,e2,_⟩:=(h.rw r _ (cX hl)).ex;rw[e1]at hv;cases hv
 obtain⟨A,c,_,_,rfl,_⟩:=e2.qq;exact⟨_,_,_,rfl⟩
theorem Rel.Zn {v:Value}{d:D}(hρ:∀(r:Nat) (v:Value),g.ρ[r]? =some v->v.oneCell'=true)(hr:Rel w g v d)(h1:d.one=true):v.oneCell'=true:=by
 cases hr<;>first|rfl|assumption|(simp[D.one]at h1;done)|(simpa[D.one]using h1)|skip
 rename_i r hv;exact hρ r _ hv
theorem Rel.BU {v:Value}{d:D}(hρ:∀(r:Nat) (v:Value),g.ρ[r]? =some v->v.oneCell'=true)(hr:Rel w g v d)(h1:d.cells.all D.one=true):fF w g v.cells d.cells:=by
 cases d with
 |agg cs=>
  obtain⟨vs,rfl,hl,hr⟩:=hr.q8;exact⟨by simpa[Value.cells,D.cells]using hl,λq d hd=>by simpa[Value.cells]using hr q d hd⟩
 |_=>
  have gu:=hr.Zn hρ (by simpa[D.cells]using h1);have hv:v.cells=#[v]:=by cases v<;>simp_all[Value.cells,Value.oneCell']
  rw[hv];refine⟨rfl,λq d hd=> ?_⟩;have hq:q=0:=by have:=(bm.1 hd).1;simp[D.cells]at this;exact this
  subst hq;simp[D.cells]at hd;subst hd;exact⟨by simpa using hr,by simpa using gu⟩
theorem RG.hρ (h:RG c s a w g):∀(r:Nat) (v:Value),g.ρ[r]? =some v->v.oneCell'=true:=λr v hv=>by
 obtain⟨A,n,q,rfl⟩:=h.Zm hv;rfl
theorem adu (g:Gh):∀(r:Nat) (v:Value),g.er.ρ[r]? =some v->v.oneCell'=true:=λr v hv=>by simp[Gh.er]at hv
end
end Go.Ab
end
section
namespace Go.Ab
open Go.RowKit
def ax (P:Program)(f:FuncId)(ds:List D)(d:D):Prop:=
 (∀(args:Array Value) (w:World),(callFunc f args).run P w= .ok (.enter f args) w)/\
 ∀(S:Addr->Prop) (M:MM) (w:World) (args:List Value),jG w->Good w S->iN w M->args.length=ds.length->(∀q x,ds[q]? =some x->Rel w ⟨S,[],[],M⟩ (args.getD q bH) x)->
  Calls P f args.toArray w λe w'=>∃v S' M',e= .returned v/\Grow w S M w' S' M'/\Good w' S'/\Rel w' ⟨S',[],[],M'⟩ v d
def nO (bx:List Bx)(rw:List Row):D->Option D
 | .own r=>match rw[r]? with|some row=>some (.list row.xs)|none=>none
 | .box i off=>match bx[i]? with|some (.fz cs)=>some (.ro (cs.drop off))|_=>none
 | .a_ i off n c=>match bx[i]? with|some (.fz cs)=>if off + n<=cs.length/\cs.all D.one=true/\n<=c then some (.list ((cs.drop off).take n))else none|_=>none
 | .agg _=>none
 | .aQ _=>none
 | .aD _ _=>none
 | .dq _ _=>none
 | .bz _=>some .any
 |d=>some d
def mQ (bx:List Bx)(rw:List Row):List D->Option (List D)
 |[]=>some []
 |d::ds=>match nO bx rw d with|some d'=>(mQ bx rw ds).map (d'::·)|none=>none
def oI (bx:List Bx)(rw:List Row):D->Option D
 | .agg cs=>(mQ bx rw cs).map .agg
 |d=>nO bx rw d
def nP (bx:List Bx)(rw:List Row):List D->Option (List D)
 |[]=>some []
 |d::ds=>match oI bx rw d with|some d'=>(nP bx rw ds).map (d'::·)|none=>none
def mS (bx:List Bx)(rw:List Row):D->Option D
 | .dq f cs=>(nP bx rw cs).map (.dq f)
 | .aD f cs=>(mQ bx rw cs).map (.aD f)
 |d=>nO bx rw d
def iU (bx:List Bx)(rw:List Row):List D->Option (List D)
 |[]=>some []
 |d::ds=>match mS bx rw d with|some d'=>(iU bx rw ds).map (d'::·)|none=>none
def mR (bx:List Bx)(rw:List Row):D->Option D
 | .agg cs=>(iU bx rw cs).map .agg
 | .aD f cs=>(iU bx rw cs).map (.aD f)
 | .val (.slice none 0 0)=>some (.list [])
 |d=>mS bx rw d
def gJ (bx:List Bx)(rw:List Row):List D->Option (List D)
 |[]=>some []
 |d::ds=>match mR bx rw d with|some d'=>(gJ bx rw ds).map (d'::·)|none=>none
section
variable {c:Ctx} {s:St} {a:Act} {w:World} {g:Gh}
theorem Rel.erase {v:Value}{d:D}(h:Rel w g v d)(hd:match d with| .box _ _| .own _| .agg _| .aQ _| .aD _ _| .a_ _ _ _ _| .dq _ _| .bz _=>False|_=>True):Rel w g.er v d:=by
 cases h with
 |undef g v=>exact .undef _ _
 |int g k n=>exact .int _ _ _
 |bool g b=>exact .bool _ _
 |str g s=>exact .str _ _
 |val g v=>exact .val _ _
 |eN g b f h=>exact .eN _ b f h
 |skp g=>exact .skp _
 |any g v h1=>exact .any _ v h1
 |list g A n c xs sz u hn bo fA hm hr=>exact .list _ A n c xs sz u hn bo fA hm hr
 |ro g a cs u hm hr=>exact .ro _ a cs u hm hr
 |_=>exact hd.elim
theorem Rel.nil (w:World)(g:Gh):Rel w g (.slice none 0 0) (.list []):=
 .list _ none 0 0 [] 0 (λ_=>bH) rfl ay (cx _) (λq hq=>by simp[flat]at hq) (λq d hd=>by simp[flat]at hd)
theorem C1 {v:Value}{d d':D}(h:RG c s a w g)(hr:Rel w g v d)(hp:nO s.bx s.rw d=some d'):Rel w g.er v d':=by
 unfold nO at hp;split at hp
 ·rename_i r;split at hp
  ·rename_i row qK;simp only[fe]at hp;subst hp;cases hr with
   |own _ _ _ h'=>
    obtain⟨v',e1,e2,_⟩:=(h.rw r row qK).ex;rw[e1]at h';cases h'
    exact e2.erase trivial
  ·cases hp
 ·rename_i i off;split at hp
  ·rename_i cs aE;simp only[fe]at hp;subst hp;cases hr with
   |box _ _ _ b hb=>
    obtain⟨b',vs,t,e1,e2,e3,e4,_,e6⟩:=(h.fz i cs aE).ex;rw[e1]at hb;cases hb
    obtain⟨h1,h2⟩:=q7 e2 e3 off;refine .ro _ _ _ (λq=>vs.getD (off + q) bH) (λq hq=> ?_) (λq d hd=>h2 q d hd);have ec:off + q < cs.length:=by simp at hq;omega
    exact⟨(h1 q hq).1,by rw[lH];exact e6 rfl _ ec,(h1 q hq).2⟩
  ·cases hp
 ·rename_i i off n cp;split at hp
  ·rename_i cs aE;split at hp
   ·rename_i hc;simp only[fe]at hp;subst hp;cases hr with
    |a_ _ _ _ _ _ b hb=>
     obtain⟨b',vs,t,e1,e2,e3,e4,_,e6⟩:=(h.fz i cs aE).ex;rw[e1]at hb;cases hb
     obtain⟨h1,h2⟩:=q7 e2 e3 off;have oX:∀d∈cs,d.cells=[d]:=λd hd=>by
      have:=List.all_eq_true.1 hc.2.1 d hd;cases d<;>first|rfl|(simp[D.one]at this)
     have gV:∀l:List D,(∀d∈l,d.cells=[d])->flat l=l:=λl hl=>by
      induction l with
      |nil=>rfl
      |cons d l ih=>show d.cells++flat l=_;rw[hl d (ey ..),ih (λx hx=>hl x (fE _ hx))];rfl
     have yM:∀d∈(cs.drop off).take n,d∈cs:=λd hd=>List.mem_of_mem_drop (List.mem_of_mem_take hd);have hf:=gV ((cs.drop off).take n) (λd hd=>oX d (yM d hd));have hlen:((cs.drop off).take n).length=n:=by simp;omega
     refine .list _ _ _ _ _ 1 (λq=>vs.getD (off + q) bH) hlen.symm (λd hd=>by rw[oX d (yM d hd)];rfl) hc.2.2 (λq hq=> ?_) (λq d hd=> ?_)
     ·rw[hf,hlen]at hq;have ec:off + q < cs.length:=ag;exact⟨_,rfl,(h1 q (by simp;omega)).1,by rw[lH];exact e6 rfl _ ec,(h1 q (by simp;omega)).2⟩
     ·rw[hf]at hd;refine h2 q d ?_;rw[ib]at hd;split at hd
      ·exact hd
      ·cases hd
   ·cases hp
  ·cases hp
 ·cases hp
 ·cases hp
 ·cases hp
 ·cases hp
 ·simp only[fe]at hp;subst hp;cases hr with
  |bz _ _ b hb=>exact .any _ _ rfl
 ·simp only[fe]at hp;subst hp;refine hr.erase ?_;split<;>first|trivial|(exact(‹∀(i off n c:Nat),D.a_ _ _ _ _=D.a_ i off n c->False› _ _ _ _ rfl).elim)|(simp_all;done)
theorem FV {bx:List Bx}{aL:List Row}:∀{ds cu:List D},mQ bx aL ds=some cu->cu.length=ds.length/\∀(q:Nat) (d':D),cu[q]? =some d'->∃d,ds[q]? =some d/\nO bx aL d=some d'
 |[],cu,h=>by simp[mQ]at h;subst h;simp
 |d::ds,cu,h=>by
  simp only[mQ]at h;split at h
  ·rename_i d1 h1;simp only[cS]at h;obtain⟨l,hl,rfl⟩:=h;obtain⟨e1,e2⟩:=FV hl;refine⟨by simp[e1],λq d' hq=> ?_⟩;cases q with
   |zero=>simp at hq;subst hq;exact⟨d,rfl,h1⟩
   |succ q=>exact e2 q d' (by simpa using hq)
  ·cases h
theorem YJ {v:Value}{d d':D}(h:RG c s a w g)(hr:Rel w g v d)(hp:oI s.bx s.rw d=some d'):Rel w g.er v d':=by
 unfold oI at hp;split at hp
 ·rename_i cs;simp only[cS]at hp;obtain⟨l,hl,rfl⟩:=hp;obtain⟨e1,e2⟩:=FV hl;obtain⟨vs,rfl,kH,cH⟩:=hr.q8;refine .agg _ _ _ (by simp[kH,e1]) (λq hq=> ?_) (λq x hx=> ?_)
  ·obtain⟨y,hy,_⟩:=e2 q _ (cX hq);simpa using(cH q y hy).2
  ·obtain⟨y,hy,hp⟩:=e2 q x hx;exact C1 h (by simpa using(cH q y hy).1) hp
 ·exact C1 h hr hp
theorem Oc {bx:List Bx}{aL:List Row}:∀{ds cu:List D},nP bx aL ds=some cu->cu.length=ds.length/\∀(q:Nat) (d':D),cu[q]? =some d'->∃d,ds[q]? =some d/\oI bx aL d=some d'
 |[],cu,h=>by simp[nP]at h;subst h;simp
 |d::ds,cu,h=>by
  simp only[nP]at h;split at h
  ·rename_i d1 h1;simp only[cS]at h;obtain⟨l,hl,rfl⟩:=h;obtain⟨e1,e2⟩:=Oc hl;refine⟨by simp[e1],λq d' hq=> ?_⟩;cases q with
   |zero=>simp at hq;subst hq;exact⟨d,rfl,h1⟩
   |succ q=>exact e2 q d' (by simpa using hq)
  ·cases h
theorem Az {v:Value}{d d':D}(h:RG c s a w g)(hr:Rel w g v d)(hp:mS s.bx s.rw d=some d'):Rel w g.er v d':=by
 unfold mS at hp;split at hp
 ·simp only[cS]at hp;obtain⟨l,hl,rfl⟩:=hp;obtain⟨e1,e2⟩:=Oc hl;cases hr with
  |dq _ f vs cs kH cH=>
   refine .dq _ _ vs l (by rw[kH,e1]) (λq x hx=> ?_);obtain⟨y,hy,hp⟩:=e2 q x hx;exact YJ h (cH q y hy) hp
 ·simp only[cS]at hp;obtain⟨l,hl,rfl⟩:=hp;obtain⟨e1,e2⟩:=FV hl;cases hr with
  |aD _ f vs cs kH cH=>
   refine .aD _ _ vs l (by rw[kH,e1]) (λq x hx=> ?_);obtain⟨y,hy,hp⟩:=e2 q x hx;exact C1 h (cH q y hy) hp
 ·exact C1 h hr hp
theorem Ax {bx:List Bx}{aL:List Row}:∀{ds cu:List D},iU bx aL ds=some cu->cu.length=ds.length/\∀(q:Nat) (d':D),cu[q]? =some d'->∃d,ds[q]? =some d/\mS bx aL d=some d'
 |[],cu,h=>by simp[iU]at h;subst h;simp
 |d::ds,cu,h=>by
  simp only[iU]at h;split at h
  ·rename_i d1 h1;simp only[cS]at h;obtain⟨l,hl,rfl⟩:=h;obtain⟨e1,e2⟩:=Ax hl;refine⟨by simp[e1],λq d' hq=> ?_⟩;cases q with
   |zero=>simp at hq;subst hq;exact⟨d,rfl,h1⟩
   |succ q=>exact e2 q d' (by simpa using hq)
  ·cases h
theorem rC {v:Value}{d d':D}(h:RG c s a w g)(hr:Rel w g v d)(hp:mR s.bx s.rw d=some d'):Rel w g.er v d':=by
 unfold mR at hp;split at hp
 ·simp only[cS]at hp;obtain⟨l,hl,rfl⟩:=hp;obtain⟨e1,e2⟩:=Ax hl;obtain⟨vs,rfl,kH,cH⟩:=hr.q8;refine .agg _ _ _ (by simp[kH,e1]) (λq hq=> ?_) (λq x hx=> ?_)
  ·obtain⟨y,hy,_⟩:=e2 q _ (cX hq);simpa using(cH q y hy).2
  ·obtain⟨y,hy,hp⟩:=e2 q x hx;exact Az h (by simpa using(cH q y hy).1) hp
 ·simp only[cS]at hp;obtain⟨l,hl,rfl⟩:=hp;obtain⟨e1,e2⟩:=Ax hl;cases hr with
  |aD _ f vs cs kH cH=>
   refine .aD _ _ vs l (by rw[kH,e1]) (λq x hx=> ?_);obtain⟨y,hy,hp⟩:=e2 q x hx;exact Az h (cH q y hy) hp
 ·simp only[fe]at hp;subst hp;cases hr;exact .nil _ _
 ·exact Az h hr hp
theorem vY {bx:List Bx}{aL:List Row}:∀{ds cu:List D},gJ bx aL ds=some cu->cu.length=ds.length/\∀(q:Nat) (d':D),cu[q]? =some d'->∃d,ds[q]? =some d/\mR bx aL d=some d'
 |[],cu,h=>by simp[gJ]at h;subst h;simp
 |d::ds,cu,h=>by
  simp only[gJ]at h;split at h
  ·rename_i d1 h1;simp only[cS]at h;obtain⟨l,hl,rfl⟩:=h;obtain⟨e1,e2⟩:=vY hl;refine⟨by simp[e1],λq d' hq=> ?_⟩;cases q with
   |zero=>simp at hq;subst hq;exact⟨d,rfl,h1⟩
   |succ q=>exact e2 q d' (by simpa using hq)
  ·cases h
def dI (P:Program)(f:FuncId)(ds:List D)(k:D->Prop):Prop:=∃d,ax P f ds d/\k d
theorem HR (w:World)(S:Addr->Prop)(β:List Nat)(ρ:List Value)(M:MM):ep w ⟨S,[],[],M⟩ w ⟨S,β,ρ,M⟩:=
 ⟨λ_ _=>rfl,λ_ h=>h,λi b h=>by simp at h,λi b h=>by simp at h,λ_ _ h=>h⟩
def lN (d:D)(k:FuncId->List D->List D->Prop):Prop:=match d with| .aD f cs=>k f [] cs| .dq f fs=>k f fs []|_=>False
theorem Fm {v:Value}{d:D}{k:FuncId->List D->List D->Prop}(hr:Rel w g v d)(hk:lN d k):∃f fs cs vf vc,k f fs cs/\v= .func (.func f) vf vc/\vf.size=fs.length/\vc.size=cs.length/\
  (∀q d,fs[q]? =some d->Rel w g (vf.getD q bH) d)/\∀q d,cs[q]? =some d->Rel w g (vc.getD q bH) d:=by
 cases hr<;>first|exact hk.elim|skip
 ·rename_i f vs cs hl hr;exact⟨f,[],cs,#[],vs,hk,rfl,rfl,hl,λq d hd=>by simp at hd,hr⟩
 ·rename_i f vs cs hl hr;exact⟨f,cs,[],vs,#[],hk,rfl,hl,rfl,hr,λq d hd=>by simp at hd⟩
theorem Xn {o:Oper}{fx:Operand}{xs:Array Operand}{at_:Array TypeId}{K:St->Prop}{Q:Exit->Act->World->Prop}
  (ho:o.op= .call {callee:= .value fx,args:=xs,argTypes:=at_})(h:RG c s a w g)(hd:bp s o.dst)
  (hk:lN (s.ev fx) λf fs cs=>∃ds,gJ s.bx s.rw (fs++xs.toList.map s.ev++cs)=some ds/\dI c.P f ds λd=>K (s.put o.dst d)):o.wp c.P a w (λa' w'=>∃s',R c s' a' w'/\K s') Q:=by
 obtain⟨f,fs,cs,⟨vf⟩,⟨vs⟩,⟨ds,hp,d,⟨qW,aE⟩,hk⟩,hv,DF,hl,GW,hr⟩:=Fm (h.ev fx) hk;obtain⟨e1,e2⟩:=vY hp;have bg:(execOp a.eval o).run c.P w= .ok (.enter f (vf++xs.toList.map a.eval++vs).toArray) w:=by
  simp[execOp,ho,resolve,hv,Deferred.ofValue,invoke];rw[qW];simp
 have hlen:(vf++xs.toList.map a.eval++vs).length=ds.length:=by
  rw[e1];simp at hl DF⊢;omega
 have DE:vf.length=fs.length:=by simpa using DF
 have bE:=aE g.S g.M w (vf++xs.toList.map a.eval++vs) (h.df.fj.at h.below) h.bt h.df.cb hlen (λq x hx=>by
  obtain⟨y,hy,ta⟩:=e2 q x hx;refine rC h ?_ ta;rw[List.getD_eq_getElem?_getD];rw[rh]at hy⊢;rcases fL q fs.length with hq|hq
  ·rw[cZ hq]at hy;rw[cZ ag];have:=GW q y hy;simpa using this
  rw[gk hq]at hy;rw[gk ag,DE];rcases fL (q - fs.length) (xs.toList.map s.ev).length with hq|hq
  ·rw[cZ hq]at hy;simp only[dO,cS]at hy;obtain⟨z,hz,rfl⟩:=hy;rw[cZ (by simpa using hq)];simp only[dO,hz,Option.map_some,Option.getD_some];exact h.ev z
  ·rw[gk hq]at hy;have:=hr _ y hy;rw[gk (by simpa using hq)];simpa using this)
 unfold Oper.wp;rw[bg];refine bE.mono ?_;rintro e w' ⟨v,S',M',rfl,hg,h3,b9⟩;exact⟨s.put o.dst d,⟨_,(h.grow hg h3).put hd (b9.bb (HR _ _ _ _ _))⟩,hk⟩
theorem FD {o:Oper}{K:St->Prop}{Q:Exit->Act->World->Prop}(h:RG c s a w g)(hd:bp s o.dst)(hy:Yields c.P o a w g λd=>K (s.put o.dst d)):
  o.wp c.P a w (λa' w'=>∃s',R c s' a' w'/\K s') Q:=by
 obtain⟨v,d,bg,hr,hk⟩:=hy;unfold Oper.wp;rw[bg];exact⟨s.put o.dst d,⟨_,h.put hd hr⟩,hk⟩
end
end Go.Ab
end
section
namespace Go.Ab
open Go.RowKit
section
variable {c:Ctx} {s:St} {a:Act} {w:World} {g:Gh}
theorem QO:∀(l:List Value) (k off:Nat) (arr:Array Value),
  ((l.zipIdx k).foldl (λcs (p:Value×Nat)=>cs.setIfInBounds (off + p.2) p.1) arr).size=arr.size/\
  ∀m,m < arr.size->((l.zipIdx k).foldl (λcs (p:Value×Nat)=>cs.setIfInBounds (off + p.2) p.1) arr).getD m bH=
   if off + k<=m/\m < off + k + l.length then l.getD (m - (off + k)) bH else arr.getD m bH
 |[],k,off,arr=>by simp;intro m hm h1 h2;omega
 |v::l,k,off,arr=>by
  have ih:=QO l (k + 1) off (arr.setIfInBounds (off + k) v);simp only[List.zipIdx_cons,List.foldl_cons];refine⟨by rw[ih.1];simp,λm hm=> ?_⟩;rw[ih.2 m (by simpa using hm)];by_cases h1:off + (k + 1)<=m/\m < off + (k + 1) + l.length
  ·rw[if_pos h1,if_pos (by simp;omega)];rw[show m - (off + k)=(m - (off + (k + 1))) + 1 by omega];simp
  ·rw[if_neg h1];by_cases h2:m=off + k
   ·subst h2;rw[if_pos ay];simp[hm]
   ·rw[if_neg (by simp;omega)];simp[hm,Ne.symm h2]
theorem RV {vs us:Array Value}{cs ds:List D}{arr:Array Value}{off:Nat}(h:fF w g vs cs)(hu:fF w g us ds)(hle:off + ds.length<=cs.length)
  (hs:arr.size=vs.size)(hg:∀m,m < vs.size->arr.getD m bH=if off<=m/\m < off + us.size then us.getD (m - off) bH else vs.getD m bH):
  fF w g arr (cs.take off++ds++cs.drop (off + ds.length)):=by
 have hul:=hu.1;have kX:=h.1;refine⟨by simp;omega,λq d hd=> ?_⟩;have hq:q < cs.length:=by have:=(bm.1 hd).1;simp at this;omega
 rw[hg q ag];by_cases h1:off<=q/\q < off + us.size
 ·rw[if_pos h1];rw[rh,gk (by simp;omega),cZ (by simp;omega)]at hd;have e:q - (cs.take off).length=q - off:=by simp;omega
  rw[e]at hd;exact hu.2 _ d hd
 ·rw[if_neg h1];refine h.2 q d ?_;rcases fL q off with h2|h2
  ·rw[rh,cZ (by simp;omega),ib,if_pos h2]at hd;exact hd
  ·have h3:off + ds.length<=q:=ag;rw[gk (by simp;omega),List.getElem?_drop]at hd;have e:off + ds.length + (q - (cs.take off++ds).length)=q:=by simp;omega
   rw[e]at hd;exact hd
theorem acT (v:Value)(off:Nat)(cells:Array Value):
  (v.cells.zipIdx.foldl (λcs (p:Value×Nat)=>cs.setIfInBounds (off + p.2) p.1) cells)=(v.cells.toList.zipIdx 0).foldl (λcs (p:Value×Nat)=>cs.setIfInBounds (off + p.2) p.1) cells:=by
 rw[<-Array.foldl_toList,Array.toList_zipIdx]
def qX (place:Nat->Option (Nat×Nat))(cs:List D):List (Nat×D)->Option (List D)
 |[]=>some cs
 |(i,d)::rest=>match place i with
  |some (off,sz)=>if d.cells.length=sz/\off + d.cells.length<=cs.length/\d.cells.all D.one=true
    then qX place (cs.take off++d.cells++cs.drop (off + d.cells.length)) rest else none
  |none=>none
theorem HO (place:Nat->Option (Nat×Nat)):∀(l:List (Nat×Value×D)) (cells:Array Value) (cs dp:List D),fF w g cells cs->
  (∀t∈l,t.2.2.cells.all D.one=true->fF w g t.2.1.cells t.2.2.cells)->
  qX place cs (l.map λt=>(t.1,t.2.2))=some dp->∃tL,Cu place cells (l.map λt=>(t.1,t.2.1))=some tL/\fF w g tL dp
 |[],cells,cs,dp,hc,_,hf=>by simp[qX]at hf;subst hf;exact⟨cells,by simp[Cu],hc⟩
 |(i,v,d)::l,cells,cs,dp,hc,hl,hf=>by
  simp only[jI,qX]at hf;split at hf
  ·rename_i off sz hp;split at hf
   ·rename_i ab_;obtain⟨h1,h2,h3⟩:=ab_;have hx:fF w g v.cells d.cells:=hl (i,v,d) (ey ..) h3;have bo:v.cells.size=d.cells.length:=hx.1;obtain⟨f1,f2⟩:=QO v.cells.toList 0 off cells;have Bw:fF w g (v.cells.zipIdx.foldl (λcs (p:Value×Nat)=>cs.setIfInBounds (off + p.2) p.1) cells) (cs.take off++d.cells++cs.drop (off + d.cells.length)):=by
     rw[acT];refine RV hc hx h2 f1 (λm hm=> ?_);rw[f2 m hm];simp
    obtain⟨tL,e1,e2⟩:=HO place l _ _ _ Bw (λt ht=>hl t (fE _ ht)) hf;refine⟨tL, ?_,e2⟩;have aE:cells.size=cs.length:=hc.1;simp only[jI,Cu,hp];rw[if_neg (by simp;omega)];exact e1
   ·cases hf
  ·cases hf
def eP (P:Program)(t:TypeId):Option (Nat->Option (Nat×Nat)):=match P.underlying t with
 |some (.struct fs)=>if fs.all (λf=>(P.info? f.type).isSome)then some λi=>(fs.toList.map λf=>(f.offset,aJ P f.type))[i]? else none
 |some (.array _ e)=>if aJ P e=0 then none else some λi=>some (i * aJ P e,aJ P e)
 |_=>none
theorem NG {α β:Type}(P:Program)(w:World)(f:α->Sem β)(f':α->β):∀(l:List α),(∀x∈l,(f x).run P w= .ok (f' x) w)->(l.mapM f).run P w= .ok (l.map f') w
 |[],_=>by simp
 |x::l,h=>by
  have h1:=h x (ey ..);have h2:=NG P w f f' l (λy hy=>h y (fE _ hy));simp[h1,h2]
theorem vF {P:Program}{t:TypeId}{zs:List D}(h:bX P t=some zs)(w:World)(g:Gh):∃z,(zeroValue t).run P w= .ok z w/\fF w g z.cells zs/\∃i,P.info? t=some i/\i.size=zs.length:=by
 unfold bX at h;split at h
 ·rename_i i hi;split at h
  ·rename_i z hz;split at h
   ·rename_i hc;simp only[Bool.and_eq_true,beq_iff_eq]at hc;simp only[fe]at h;subst h;refine⟨z,by simp[zeroValue,typeInfo,hi,hz],⟨by simp,λq d hd=> ?_⟩,i,hi,by simp[hc.2]⟩;simp only[dO,Array.getElem?_toList,cS]at hd;obtain⟨v,hv,rfl⟩:=hd;have hl:=(bJ.1 hv).1;have he:=(bJ.1 hv).2;have e:z.cells.getD q bH=v:=by simp[hl,he]
    rw[e];exact⟨CX _ _ _,Array.all_eq_true.1 hc.1 q hl|>λh=>by rw[he]at h;exact h⟩
   ·cases h
  ·cases h
 ·cases h
theorem TO {t:TypeId}{ps:Array (Nat×Operand)}{o:Oper}{k:D->Prop}(h:RG c s a w g)(ho:o.op= .build t ps)
  (hk:bn (bX c.P t) λzs=>bn (eP c.P t) λplace=>bn (qX place zs (ps.toList.map λp=>(p.1,s.ev p.2))) λcs=>k (.agg cs)):Yields c.P o a w g k:=by
 obtain⟨zs,hz,hk⟩:=cE hk;obtain⟨place,hp,hk⟩:=cE hk;obtain⟨cs,hf,hk⟩:=cE hk;obtain⟨z,fQ,iV,_⟩:=vF hz w g;obtain⟨tL,e1,e2⟩:=HO place (ps.toList.map λp=>(p.1,a.eval p.2,s.ev p.2)) z.cells zs cs iV (λt ht h1=>by
  simp only[List.mem_map]at ht;obtain⟨p,_,rfl⟩:=ht;exact(h.ev p.2).BU h.hρ h1) (by rw[List.map_map];exact hf)
 rw[List.map_map]at e1;simp only[Function.comp_def]at e1;refine⟨.agg tL, .agg cs, ?_, .agg _ _ _ e2.1 (λq hq=>(e2.2 q _ (cX hq)).2) (λq d hd=>(e2.2 q d hd).1),hk⟩;have dV:(ps.map λp=>(p.1,a.eval p.2)).toList=ps.toList.map λp=>(p.1,a.eval p.2):=by simp
 unfold eP at hp;split at hp
 ·rename_i fs hu;split at hp
  ·rename_i bu;simp only[fe]at hp;subst hp;have hm:(fs.mapM λf=>do pure (f.offset,<-sizeOf f.type):Sem (Array (Nat×Nat))).run c.P w= .ok (fs.map λf=>(f.offset,aJ c.P f.type)) w:=by
    rw[Array.mapM_eq_mapM_toList];have:=NG c.P w (λf:Field=>(do pure (f.offset,<-sizeOf f.type):Sem (Nat×Nat))) (λf=>(f.offset,aJ c.P f.type)) fs.toList (λf hf=>by
     have hi:(c.P.info? f.type).isSome=true:=by
      have:=Array.all_eq_true'.1 bu f (Array.mem_toList_iff.1 hf);simpa using this
     obtain⟨i,hi⟩:=tV.1 hi;simp[sizeOf,typeInfo,hi,aJ,Program.cellsOf])
    simp at this⊢;rw[this];simp;rw[<-Array.toList_map,Array.toArray_toList]
   have e1':Cu (λx=>(fs.map λf=>(f.offset,aJ c.P f.type))[x]?) z.cells (ps.toList.map λp=>(p.1,a.eval p.2))=some tL:=by
    rw[<-e1];congr 1;funext i;simp
   simp only[execOp,ho,Instr.build,kN,fQ,mE,run_underlying hu,hm,dV];rw[e1'];simp
  ·cases hp
 ·rename_i n e hu;split at hp
  ·cases hp
  ·rename_i mU;simp only[fe]at hp;subst hp;simp only[execOp,ho,Instr.build,kN,fQ,mE,run_underlying hu,run_sizeOf mU,dV];rw[e1];simp
 ·cases hp
theorem QZ (sz:Nat):∀(ds done:List D),(∀d∈ds,d.cells.length=sz/\d.cells.all D.one=true)->(∀d∈done,d.cells.length=sz)->
  qX (λi=>some (i * sz,sz)) (flat done++bP (ds.length * sz) D.undef) ((List.range' done.length ds.length).zip ds)=some (flat (done++ds))
 |[],done,_,_=>by simp[qX,flat]
 |d::ds,done,h,hd=>by
  obtain⟨h1,h2⟩:=h d (ey ..);have gV:=o8 sz done hd;have ih:=QZ sz ds (done++[d]) (λx hx=>h x (fE _ hx)) (λx hx=>by
   rcases List.mem_append.1 hx with hx|hx
   ·exact hd x hx
   ·rw[List.mem_singleton.1 hx];exact h1)
  simp only[List.length_cons,List.range'_succ,List.zip_cons_cons,qX];rw[if_pos ⟨h1,by simp only[List.length_append,List.length_replicate,gV,h1,pk];omega,h2⟩];have e:List.take (done.length * sz) (flat done++bP ((ds.length + 1) * sz) D.undef)++d.cells++List.drop (done.length * sz + d.cells.length) (flat done++bP ((ds.length + 1) * sz) D.undef)=
    flat (done++[d])++bP (ds.length * sz) D.undef:=by
   rw[<-gV,List.take_left,h1,List.drop_append,List.drop_eq_nil_of_le ag,List.drop_replicate];have:(ds.length + 1) * sz - ((flat done).length + sz - (flat done).length)=ds.length * sz:=by rw[pk];omega
   rw[this];simp[flat]
  rw[e];have hl:(done++[d]).length=done.length + 1:=by simp
  rw[hl]at ih;rw[ih];simp
theorem RG.ZC {cells:Array Value}{e:TypeId}{ds:List D}{sz:Nat}(h:RG c s a w g)(hc:fF w g.er cells (flat ds))(bo:∀d∈ds,d.cells.length=sz):
  ∃S',RG c s a (w.alloc (.cells cells e)) ⟨S',g.β,g.ρ,g.M⟩/\(∀x,g.S x->S' x)/\Rel (w.alloc (.cells cells e)) ⟨S',g.β,g.ρ,g.M⟩ (.slice (some ⟨w.heap.size,0,none⟩) ds.length ds.length) (.list ds):=by
 have hb:=vh w (.cells cells e);refine⟨λx=>g.S x\/∃q,q < (flat ds).length/\x=⟨w.heap.size,q,none⟩, ?_,λx hx=> .inl hx, ?_⟩
 ·refine h.world hb (λx hx=> .inl hx) (λx hx=> ?_) (λx hx=> ?_)
  ·rcases hx with hx|⟨q,_,rfl⟩
   ·exact .inl hx
   ·exact .inr (cx _)
  ·rcases hx with hx|⟨q,hq,rfl⟩
   ·exact h.bt.below hb x hx
   ·refine⟨cells.getD q bH, ?_⟩;rw[cell_of_row _ _ q cells e (0,0) (heap_alloc_new w _)];have:q < cells.size:=by rw[hc.1];exact hq
    simp[this]
 ·refine .list _ _ _ _ ds sz (λq=>cells.getD q bH) rfl bo (cx _) (λq hq=>⟨⟨w.heap.size,0,none⟩,rfl, ?_, ?_, ?_⟩) (λq d hd=> ?_)
  ·rw[lH,jd,cell_of_row _ _ q cells e (0,0) (heap_alloc_new w _)];have:q < cells.size:=by rw[hc.1];exact hq
   simp[this]
  ·rw[lH,jd];exact .inr ⟨q,hq,rfl⟩
  ·exact(hc.2 q _ (cX hq)).2
  ·exact((hc.2 q d hd).1.bb (h.keeps (.of hb) (λ_ h=>h) (λ_ _ h=>h)).er).bb ⟨λ_ _=>rfl,λx hx=> .inl hx,λ_ _ h=>h,λ_ _ h=>h,λ_ _ h=>h⟩
theorem Xo {t:TypeId}{n:Nat}{ps:Array (Nat×Operand)}{o:Oper}{K:St->Prop}{Q:Exit->Act->World->Prop}(h:RG c s a w g)(ho:o.op= .buildSlice t n ps)(hd:bp s o.dst)
  (hk:bn (elemOf c.P t) λe=>aJ c.P e≠0/\n * aJ c.P e<=16777216/\(bX c.P e).isSome=true/\ps.toList.map (·.1)=dB n/\
   bn (gJ s.bx s.rw (ps.toList.map λp=>s.ev p.2)) λds=>(∀d∈ds,d.cells.length=aJ c.P e/\d.cells.all D.one=true)/\K (s.put o.dst (.list ds))):
  o.wp c.P a w (λa' w'=>∃s',R c s' a' w'/\K s') Q:=by
 obtain⟨e,he,hz,hle,hzo,lz,hk⟩:=cE hk;obtain⟨ds,hp,tx,hk⟩:=cE hk;obtain⟨zs,gD⟩:=tV.1 hzo;obtain⟨z,fQ,iV,i,hi,qR⟩:=vF gD w g;obtain⟨e1,e2⟩:=vY hp;have hn:ps.toList.length=n:=by have:=congrArg List.length lz;simpa using this
 have yR:ds.length=n:=by rw[e1];simpa using hn
 have Dq:zs.length=aJ c.P e:=by simp[aJ,Program.cellsOf,hi,qR]
 have abj:z.cells.size=aJ c.P e:=by rw[iV.1,Dq]
 let l:List (Nat×Value×D):=(dB n).zip ((ps.toList.map λp=>a.eval p.2).zip ds)
 have kZ:(l.map λt=>(t.1,t.2.1))=ps.toList.map λp=>(p.1,a.eval p.2):=by
  apply IZ
  ·simp[l,hn,yR]
  ·intro q h1 h2;simp[l];have h3:q < ps.toList.length:=by simpa using h2
   have:=congrArg (λl=>l[q]?) lz;simp only[dO]at this;rw[cX h3,List.getElem?_range (by rw[<-hn];exact h3)]at this;simp at this;exact this.symm
 have fH:(l.map λt=>(t.1,t.2.2))=(List.range' 0 ds.length).zip ds:=by
  apply IZ
  ·simp[l,hn,yR]
  ·intro q h1 h2;simp[l]
 have abS:fF w g.er ((Array.range (n * aJ c.P e)).map (z.cells[· % z.cells.size]!)) (bP (ds.length * aJ c.P e) D.undef):=by
  refine⟨by simp[yR],λq d hd=> ?_⟩;have hq:q < n * aJ c.P e:=by have:=(bm.1 hd).1;simpa[yR]using this
  have ed:d= .undef:=by have:=(bm.1 hd).2;simpa using this.symm
  subst ed;have hm:q % z.cells.size < z.cells.size:=Nat.mod_lt _ (by rw[abj];omega);refine⟨.undef _ _, ?_⟩;have ga:q % z.cells.size < zs.length:=by rw[<-iV.1];exact hm
  have:=(iV.2 (q % z.cells.size) _ (cX ga)).2;simp[hq,hm];simpa[hm]using this
 have abY:=QZ (aJ c.P e) ds [] (λd hd=>tx d hd) ay;obtain⟨tL,f1,f2⟩:=HO (w:=w) (g:=g.er) (λi=>some (i * aJ c.P e,aJ c.P e)) l _ _ (flat ds) abS (λt ht h1=>by
  obtain⟨q,hq,rfl⟩:=List.getElem_of_mem ht;have yH:q < ps.toList.length:=by simp[l]at hq;simp;omega
  have A9:q < ds.length:=by rw[yR,<-hn];exact yH
  have hdq:ds[q]? =some (l[q]).2.2:=by simp[l,A9]
  obtain⟨y,hy,ta⟩:=e2 q _ hdq;simp only[dO,cS]at hy;obtain⟨p,jP,rfl⟩:=hy;have hv:(l[q]).2.1=a.eval p.2:=by
   have:=(bm.1 jP).2;simp only[l,List.getElem_zip,List.getElem_map];rw[this]
  rw[hv];exact(rC h (h.ev p.2) ta).BU (adu g) h1) (by rw[fH];simpa[flat]using abY)
 obtain⟨S',r1,r2,r3⟩:=h.ZC (e:=e) f2 (λd hd=>(tx d hd).1);have bg:(execOp a.eval o).run c.P w= .ok (.value (.slice (some ⟨w.heap.size,0,none⟩) n n)) (w.alloc (.cells tL e)):=by
  have dV:(ps.map λp=>(p.1,a.eval p.2)).toList=ps.toList.map λp=>(p.1,a.eval p.2):=by simp
  rw[kZ]at f1;simp only[execOp,ho,Instr.buildSlice,kN,run_underlying (k7 he),mE,run_sizeOf hz,dV];rw[if_neg (by simp;omega)];by_cases h0:n * aJ c.P e=0
  ·rw[if_pos h0];have G7:n=0:=by rcases Nat.mul_eq_zero.1 h0 with h|h;exact h;exact absurd h hz
   subst G7;have abB:ps.toList=[]:=List.eq_nil_of_length_eq_zero hn;simp[abB,Cu]at f1⊢;subst f1;have r0:Array.range 0=#[]:=rfl;simp[newRow,r0]
  ·rw[if_neg h0];simp only[kN,fQ,mE,Sem.run_pure];rw[f1];simp[newRow]
 unfold Oper.wp;rw[bg];rw[yR]at r3;exact⟨s.put o.dst (.list ds),⟨_,r1.put hd r3⟩,hk⟩
end
end Go.Ab
end
