import Derived.Test.YtopobgihpdaggaaGreatDoorZ04
import Derived.ChangeKeysEq
import Derived.Scope
set_option linter.unusedVariables false
set_option linter.unusedSimpArgs false
open Array renaming getElem?_eq_some_iff->bJ,replicate->kq
open Go.RowKit.Below renaming refl->oD
open Go.Fence renaming wide->eO
open Go renaming undef->bH
open Go.Instr renaming checkKey->su,findAsking->I5,findNow->vB,sameNow->E4
open List renaming drop_eq_getElem_cons->zO,drop_eq_nil_of_le->I0,getElem?_eq_some_iff->bm,mem_cons->eX,mem_cons_of_mem->fE,mem_cons_self->ey,nodup_nil->vt
open Nat renaming le_refl->cx,le_trans->gj,lt_of_lt_of_le->xB,zero_le->cv
open Go.Region renaming wanted->d_
open Go.Value renaming func->zB,int->gX,ownBlock->jr
open Go.World renaming alloc_heap_new->zA,cell?_of_block->nz,putObj_heap_other->mB,putObj_heap_same->IE
section
namespace Go.Ab
open Go.RowKit
structure I6 (T:Nat->Prop)(S:Addr->Prop)(M:MM)(W:World)(T':Nat->Prop)(S':Addr->Prop)(M':MM)(W':World):Prop where
 below:mK (λk=>T k\/M k≠none) W.heap.size W W'
 t1:∀b,T' b->T b\/W.heap.size<=b
 t2:∀b,T' b->b < W'.heap.size/\M' b=none
 s1:∀x,S x->S' x
 s2:∀x,S' x->S x\/T x.block\/W.heap.size<=x.block
 cell:∀x,S x->W'.cell? x=W.cell? x
 m1:∀b f,M b=some f->M' b=some f
 m2:∀b f,M' b=some f->M b=some f\/W.heap.size<=b
 cb:iN W' M'
 bt:Good W' S'
structure xX (T:Nat->Prop)(S:Addr->Prop)(M:MM)(W:World)(S':Addr->Prop)(M':MM)(W':World):Prop where
 os:W'.os=W.os
 tape:W'.tape=W.tape
 output:W'.output=W.output
 size:W.heap.size<=W'.heap.size
 t:∀b,T b->W'.heap[b]? =W.heap[b]?
 cell:∀x,S x->W'.cell? x=W.cell? x
 s1:∀x,S x->S' x
 s3:∀x,S' x->T x.block->S x
 tb:jG W->jG W'
 m1:∀b f,M b=some f->M' b=some f
 m3:∀b,T b->M' b=none
 cb:iN W' M'
 bt:Good W' S'
abbrev Inv:=(Nat->Prop)->(Addr->Prop)->MM->World->Prop
def Abides (J:Inv):Prop:=∀T S M W T' S' M' W',J T S M W->I6 T S M W T' S' M' W'->J T' S' M' W'
def Iter (P:Program)(gf:FuncId)(cs:List D)(xs:List (List D)):Prop:=
 (∀(args:Array Value) (w:World),(callFunc gf args).run P w= .ok (.enter gf args) w)/\
 ∀(S:Addr->Prop) (M:MM) (w:World) (lb:List Value),jG w->Good w S->iN w M->lb.length=cs.length->(∀q x,cs[q]? =some x->Rel w ⟨S,[],[],M⟩ (lb.getD q bH) x)->
  ∀(l:Nat) (J Jx:Nat->Inv),(∀k,Abides (J k))->(∀k,Abides (Jx k))->
   (∀k T S M W (args:List Value) x,xs[k]? =some x->J k T S M W->args.length=x.length->(∀q d,x[q]? =some d->Rel W ⟨S,[],[],M⟩ (args.getD q bH) d)->
    YieldAt eO 0 P l args.toArray W λe W'=>∃S' M',xX T S M W S' M' W'/\((e= .returned (.bool true)/\J (k + 1) T S' M' W')\/(e= .returned (.bool false)/\Jx (k + 1) T S' M' W')))->
   J 0 (λ_=>False) S M w->
   Calls P gf (zB (.yield l) #[] #[]::lb).toArray w λe w'=>(∃v,e= .returned v)/\∃T S' M',J xs.length T S' M' w'\/∃k,Jx k T S' M' w'
section
variable {c:Ctx} {s:St} {a:Act} {w:World} {g:Gh}
structure xW (T:Nat->Prop)(s:St)(a:Act)(w:World)(g:Gh):Prop where
 bx:∀(i:Nat) (x:Bx) (b:Nat),s.bx[i]? =some x->x.live=true->g.β[i]? =some b->¬T b
 rw:∀(r:Nat) (row:Row) (v:Value) (gb:Nat),s.rw[r]? =some row->row.live=true->g.ρ[r]? =some v->v.ownBlock=some gb->¬T gb
 df:∀d∈a.defers,∀D,d.target= .collected D->¬T D
 lt:∀b,T b->b < w.heap.size/\g.M b=none/\c.w0.heap.size<=b
theorem RG.PB {T T':Nat->Prop}{S':Addr->Prop}{M':MM}{w':World}(h:RG c s a w g)(hf:xW (c:=c) T s a w g)(hg:I6 T g.S g.M w T' S' M' w'):
  RG c s a w' ⟨S',g.β,g.ρ,M'⟩/\xW (c:=c) T' s a w' ⟨S',g.β,g.ρ,M'⟩:=by
 have bo:c.w0.heap.size<=w.heap.size:=h.below.size;have hM:=h.df.cb;have jF:∀b,b < w.heap.size->¬T b->g.M b=none->w'.heap[b]? =w.heap[b]? :=λb hb ht hm=>hg.below.block b hb (λh=>h.elim ht (λh=>h hm));have aE:∀(b:Nat) (cs:Array Value) (t:TypeId) (fz:Nat×Nat),¬T b->w.heap[b]? =some (.cells cs t fz)->w'.heap[b]? =some (.cells cs t fz):=λb cs t fz ht hb=>
  (jF b (bJ.1 hb).1 ht (hM.uD hb)).trans hb
 have fI:∀x,g.S x->w'.cell? x=w.cell? x:=hg.cell;have k:ep w g w' ⟨S',g.β,g.ρ,M'⟩:=⟨fI,hg.s1,λ_ _ h=>h,λ_ _ h=>h,hg.m1⟩;have uX:∀x,S' x->∀b,b < w.heap.size->¬T b->x.block=b->g.S x:=λx hx b hb ht e=>by
  rcases hg.s2 x hx with h|h|h
  ·exact h
  ·exact absurd (e▸h) ht
  ·omega
 refine⟨⟨⟨⟨h.df.cW.1,λd hd=> ?_⟩,hg.cb,λb f hb=>hg.m1 b f (h.df.m0 b f hb),λb f hb=> ?_,h.df.eV,λx hx=>(fI x (h.S0 x hx)).trans (h.df.iA x hx),h.df.fj⟩,h.sz,
  h.below.trans hg.below bo (λi hi hn=> ?_),h.cY,hg.bt,λx hx=> ?_,λx hx=>hg.s1 x (h.S0 x hx),h.fU,h.lβ,h.lρ,λn=>(h.sl n).bb k, ?_, ?_, ?_,h.ap,λi es hi=>by
   obtain⟨b,hm⟩:=h.mp i es hi;refine⟨b, ?_⟩;refine hm.bb k (jF b hm.lt (hf.bx i _ b hi rfl hm.β) hm.nm) ?_;cases rZ:M' b with
   |none=>exact rZ
   |some f=>
    rcases hg.m2 b f rZ with h5|h5
    ·rw[hm.nm]at h5;cases h5
    ·exact absurd hm.lt (Nat.not_lt_of_le h5)⟩, ?_⟩
 ·obtain⟨D,hB,rfl,hD⟩:=h.df.cW.2 d hd;exact⟨D,hB,rfl,(jF D (bJ.1 hD).1 (hf.df _ hd D rfl) (hM.uC hD)).trans hD⟩
 ·rcases hg.m2 b f hb with hb|hb
  ·exact h.df.fX b f hb
  ·exact .inr (gj bo hb)
 ·rcases hn with hn|hn
  ·exact .inl (h.cY i (hf.lt i hn).2.2)
  ·cases hm:g.M i with
   |none=>exact(hn hm).elim
   |some f=>
         rcases h.df.fX i f hm with h1|h1
         ·exact .inr (by rw[h1];simp)
         ·omega
 ·rcases hg.s2 x hx with hx|hx|hx
  ·exact h.eD x hx
  ·exact .inr (h.cY _ (hf.lt _ hx).2.2)
  ·exact .inr (h.cY _ (gj bo hx))
 ·intro i cs hi;obtain⟨b,vs,t,e1,e2,e3,e4,e5,e6⟩:=(h.bx i cs hi).ex;have aU:b < w.heap.size:=(bJ.1 e2).1;have ht:=hf.bx i _ b hi rfl e1;exact⟨b,vs,t,e1,aE _ _ _ _ ht e2,e3.bb k,e4,λ_ x hx e=>e5 rfl x (uX x hx b aU ht e) e,λh=>by cases h⟩
 ·intro i cs hi;obtain⟨b,vs,t,e1,e2,e3,e4,e5,e6⟩:=(h.fz i cs hi).ex;have ht:=hf.bx i _ b hi rfl e1;exact⟨b,vs,t,e1,aE _ _ _ _ ht e2,e3.bb k.er,e4,(λh=>by cases h),λ_ q hq=>hg.s1 _ (e6 rfl q hq)⟩
 ·intro r row hr;obtain⟨v,e1,e2,e3⟩:=(h.rw r row hr).ex;refine⟨v,e1,e2.bb k,λhl=> ?_⟩;obtain⟨⟨vals,bG⟩,bE,hS⟩:=e3 hl;refine⟨⟨vals,bG.1, ?_⟩,bE,λgb aW=>⟨(hS gb aW).1,λx hx ig=> ?_⟩⟩
  ·rcases bG.2 with hn|⟨g2,cap,cur,rfl,fy,fw,rest⟩
   ·exact .inl hn
   ·exact .inr ⟨g2,cap,cur,rfl,fy,aE _ _ _ _ (hf.rw r row _ g2 hr hl e1 rfl) fw,rest⟩
  ·exact(hS gb aW).2 x (uX x hx gb (bG.lt gb aW).2 (hf.rw r row v gb hr hl e1 aW) ig) ig
 ·refine⟨λi x b hi hx hb ht=> ?_,λr row v gb hr hl hv aW ht=> ?_,λd hd D hD ht=> ?_,λb hb=>⟨(hg.t2 b hb).1,(hg.t2 b hb).2, ?_⟩⟩
  ·rcases hg.t1 b ht with h1|h1
   ·exact hf.bx i x b hi hx hb h1
   ·have:=(h.om hi hx hb).1;omega
  ·rcases hg.t1 gb ht with h1|h1
   ·exact hf.rw r row v gb hr hl hv aW h1
   ·have:=(h.oG hr hl hv aW).1;omega
  ·rcases hg.t1 D ht with h1|h1
   ·exact hf.df d hd D hD h1
   ·obtain⟨D',_,rfl,lG⟩:=h.df.cW.2 d hd;cases hD;have:=(bJ.1 lG).1;omega
  ·rcases hg.t1 b hb with h1|h1
   ·exact(hf.lt b h1).2.2
   ·omega
end
end Go.Ab
end
section
namespace Go.Ab
open Go.RowKit
structure mI (p:Nat->Prop)(W:World)(g:Gh)(W':World)(g':Gh):Prop where
 below:mK (λk=>p k\/g.M k≠none) W.heap.size W W'
 kp:∀x,g.S x->W'.cell? x=W.cell? x
 s1:∀x,g.S x->g'.S x
 s2:∀x,g'.S x->g.S x\/p x.block
 m1:∀b f,g.M b=some f->g'.M b=some f
 m2:∀b f,g'.M b=some f->g.M b=some f\/W.heap.size<=b
theorem mI.trans {p:Nat->Prop}{A B C:World}{g1 g2 g3:Gh}(h:mI p A g1 B g2)(k:mI p B g2 C g3)(hp:∀b,A.heap.size<=b->p b):mI p A g1 C g3 where
 below:=h.below.trans k.below h.below.size (λi hi hn=>hn.elim .inl (λhn=>by
  cases hm:g2.M i with
  |none=>exact(hn hm).elim
  |some f=>
        rcases h.m2 i f hm with h1|h1
        ·exact .inr (by rw[h1];simp)
        ·exact .inl (hp i h1)))
 kp x hx:=(k.kp x (h.s1 x hx)).trans (h.kp x hx)
 s1 x hx:=k.s1 x (h.s1 x hx)
 s2 x hx:=by
  rcases k.s2 x hx with h1|h1
  ·exact h.s2 x h1
  ·exact .inr h1
 m1 b f hb:=k.m1 b f (h.m1 b f hb)
 m2 b f hb:=by
  rcases k.m2 b f hb with h1|h1
  ·exact h.m2 b f h1
  ·exact .inr (gj h.below.size h1)
section
variable {c c2:Ctx} {s s2 st:St} {a a2:Act} {w W W2:World} {g g2:Gh}
theorem RG.later (h:RG c2 s2 a2 W2 g2)(hw:c2.w0=W)(hS:c2.S0=g.S)(hM:c2.M0=g.M){p:Nat->Prop}(hp:∀b,c2.own b->p b):mI p W g W2 g2:=by
 subst hw;refine⟨⟨h.below.os,h.below.tape,h.below.output,h.below.size,λk hk hn=>h.below.block k hk (λhm=>hn (hm.elim (λh=> .inl (hp k h)) (λh=> .inr (by rw[<-hM];exact h))))⟩,
  λx hx=>h.df.iA x (hS▸hx),λx hx=>h.S0 x (hS▸hx),λx hx=> ?_,λb f hb=>h.df.m0 b f (hM▸hb),λb f hb=> ?_⟩
 ·rcases h.eD x hx with h1|h1
  ·exact .inl (hS▸h1)
  ·exact .inr (hp _ h1)
 ·rcases h.df.fX b f hb with h1|h1
  ·exact .inl (hM▸h1)
  ·exact .inr h1
theorem RG.back (h:RG c st a W g)(h2:RG c2 s2 a2 W2 g2){p:Nat->Prop}(hl:mI p W g W2 g2)(hp:∀b,p b->c.own b)(jN:∀b,c2.own b->c.own b)(eV:∀(i b:Nat),g.β[i]? =some b->g2.β[i]? =some b)
  (fY:∀m,Names st.bx.length 0 (st.sl m))(hD:∀d∈a.defers,∀D,d.target= .collected D->¬p D):RG c ⟨st.n,st.sl,s2.bx,s2.rw⟩ a W2 g2:=by
 have bo:c.w0.heap.size<=W.heap.size:=h.below.size;have k:ep W ⟨g.S,g.β.take st.bx.length,g.ρ.take 0,g.M⟩ W2 g2:=⟨hl.kp,hl.s1,λi b hi=>eV i b (by
  rw[List.getElem?_take]at hi;split at hi
  ·exact hi
  ·cases hi),λi b hi=>by simp at hi,hl.m1⟩
 refine⟨⟨⟨h.df.cW.1,λd hd=> ?_⟩,h2.df.cb,λb f hb=>hl.m1 b f (h.df.m0 b f hb),λb f hb=> ?_,λi b hb=>eV i b (h.df.eV i b hb),λx hx=>(hl.kp x (h.S0 x hx)).trans (h.df.iA x hx),h.df.fj⟩,h.sz,
  h.below.trans hl.below bo (λi hi hn=> ?_),h.cY,h2.bt,λx hx=> ?_,λx hx=>hl.s1 x (h.S0 x hx),h.fU,h2.lβ,h2.lρ,λn=>((h.sl n).cut (fY n)).bb k,λi cs hi=> ?_,λi cs hi=> ?_,λr row hr=> ?_,h2.ap,λi es hi=>(h2.mp i es hi).imp λb hm=>hm.ctx (jN b hm.own)⟩
 ·obtain⟨D,hB,rfl,ed⟩:=h.df.cW.2 d hd;refine⟨D,hB,rfl,(hl.below.block D (bJ.1 ed).1 (λhn=>hn.elim (hD _ hd D rfl) (λhn=>hn (h.df.cb.uC ed)))).trans ed⟩
 ·rcases hl.m2 b f hb with hb|hb
  ·exact h.df.fX b f hb
  ·exact .inr (gj bo hb)
 ·rcases hn with hn|hn
  ·exact .inl (hp i hn)
  ·cases hm:g.M i with
   |none=>exact(hn hm).elim
   |some f=>
         rcases h.df.fX i f hm with h1|h1
         ·exact .inr (by rw[h1];simp)
         ·omega
 ·rcases hl.s2 x hx with hx|hx
  ·exact h.eD x hx
  ·exact .inr (hp _ hx)
 ·obtain⟨b,vs,t,e1,e2,e3,e4,e5⟩:=(h2.bx i cs hi).ex;exact⟨b,vs,t,e1,e2,e3,jN b e4,e5⟩
 ·obtain⟨b,vs,t,e1,e2,e3,e4,e5⟩:=(h2.fz i cs hi).ex;exact⟨b,vs,t,e1,e2,e3,jN b e4,e5⟩
 ·obtain⟨v,e1,e2,e3⟩:=(h2.rw r row hr).ex;refine⟨v,e1,e2,λhl=> ?_⟩;obtain⟨h1,h2,h3⟩:=e3 hl;exact⟨h1,h2,λgb aW=>⟨jN gb (h3 gb aW).1,(h3 gb aW).2⟩⟩
def pD:List Tmp->List D->(Nat->D)->(Nat->D)
 |p::ps,d::ds,sl=>pD ps ds (put sl p d)
 |_,_,sl=>sl
theorem FL:∀(ps:List Tmp) (ds:List D) (vs:List Value) (sl:Nat->D) (tmps:Array Value),vs.length=ds.length->(∀q d,ds[q]? =some d->Rel w g (vs.getD q bH) d)->(∀p∈ps,p < tmps.size)->
  (∀m,Rel w g (tmps.getD m bH) (sl m))->((ps.zip vs).foldl (λt (p,v)=>t.setIfInBounds p v) tmps).size=tmps.size/\
   ∀m,Rel w g (((ps.zip vs).foldl (λt (p,v)=>t.setIfInBounds p v) tmps).getD m bH) (pD ps ds sl m)
 |[],ds,vs,sl,tmps,_,_,_,h=>by simpa[pD]using h
 |p::ps,[],vs,sl,tmps,hl,_,_,h=>by
  have:vs=[]:=List.length_eq_zero_iff.1 hl;subst this;simpa[pD]using h
 |p::ps,d::ds,[],sl,tmps,hl,_,_,h=>by simp at hl
 |p::ps,d::ds,v::vs,sl,tmps,hl,hr,hp,h=>by
  have ih:=FL ps ds vs (put sl p d) (tmps.setIfInBounds p v) (by simpa using hl) (λq d hd=>by have:=hr (q + 1) d (by simpa using hd);simpa using this)
   (λq hq=>by simpa using hp q (fE _ hq)) (λm=>by
    simp only[put];by_cases hm:m=p
    ·subst hm;rw[if_pos rfl];have h0:=hr 0 d rfl;have aU:=hp m (ey ..);simpa[aU]using h0
    ·rw[if_neg hm];have:=h m;simpa[Array.getElem?_setIfInBounds,Ne.symm hm]using this)
  simp only[List.zip_cons_cons,List.foldl_cons,pD];refine⟨ih.1.trans ay,ih.2⟩
theorem RG.enter {T:Nat->Prop}(h:RG c st a W g)(hf:xW (c:=c) T st a W g)(l:Option Nat){a':Act}{sl:Nat->D}(hd:a'.defers=[])(hs:a'.tmps.size=a.tmps.size)(fY:∀m,Rel W g (a'.tmps.getD m bH) (sl m)):
  RG ⟨c.P,W,g.S,g.M,l,λb=>W.heap.size<=b\/(c.own b/\¬T b/\eb W b),g.β⟩ ⟨st.n,sl,st.bx,st.rw⟩ a' W g:=by
 refine⟨⟨⟨by rw[hd];exact vt,λd h=>by rw[hd]at h;cases h⟩,h.df.cb,λ_ _ h=>h,λ_ _ h=> .inl h,λ_ _ h=>h,λ_ _=>rfl,h.df.fj.own h.below h.df.cb (λb hb=>hb.elim .inl (λhb=> .inr (.inl hb.1)))⟩,hs.trans h.sz, .of (oD _ _),λ_ h=> .inl h,h.bt,λ_ h=> .inl h,λ_ h=>h,h.bt,h.lβ,h.lρ,fY,λi cs hi=> ?_,λi cs hi=> ?_,λr row hr=> ?_,h.ap,λi es hi=>(h.mp i es hi).imp λb hm=>hm.ctx (.inr ⟨hm.own,hf.bx i _ b hi rfl hm.β,hm.Bg⟩)⟩
 ·obtain⟨b,vs,t,e1,e2,e3,e4,e5⟩:=(h.bx i cs hi).ex;exact⟨b,vs,t,e1,e2,e3, .inr ⟨e4,hf.bx i _ b hi rfl e1, .inl ⟨_,_,_,e2⟩⟩,e5⟩
 ·obtain⟨b,vs,t,e1,e2,e3,e4,e5⟩:=(h.fz i cs hi).ex;exact⟨b,vs,t,e1,e2,e3, .inr ⟨e4,hf.bx i _ b hi rfl e1, .inl ⟨_,_,_,e2⟩⟩,e5⟩
 ·obtain⟨v,e1,e2,e3⟩:=(h.rw r row hr).ex;refine⟨v,e1,e2,λhl=> ?_⟩;obtain⟨h1,h2,h3⟩:=e3 hl;refine⟨h1,h2,λgb aW=>⟨.inr ⟨(h3 gb aW).1,hf.rw r row v gb hr hl e1 aW, ?_⟩,(h3 gb aW).2⟩⟩;obtain⟨vals,bG⟩:=h1;rcases bG.2 with⟨rfl,_⟩|⟨g2,cap,cur,rfl,_,fw,_⟩
  ·simp[jr]at aW
  ·simp[jr]at aW;subst aW;exact .inl ⟨_,_,_,fw⟩
end
end Go.Ab
end
section
namespace Go.Ab
open Go.RowKit
section
variable {c c2:Ctx} {s s2 st:St} {a a2:Act} {w W W2:World} {g g2:Gh}
theorem RG.NY {w':World}(h:RG c s a w g)(hc:∀(b:Nat) (cs:Array Value) (t:TypeId) (fz:Nat×Nat),w.heap[b]? =some (.cells cs t fz)->w'.heap[b]? =some (.cells cs t fz))
  (hm:∀(b:Nat) (es:Array MapEntry) (cl:Nat),w.heap[b]? =some (.map es cl)->w'.heap[b]? =some (.map es cl))(hd:zS c.own w' a.defers)(ho:∀b,w'.heap.size<=b->c.own b):
  RG ⟨c.P,w',g.S,g.M,c.l,c.own,c.β0⟩ s a w' g:=by
 have fI:∀x,g.S x->w'.cell? x=w.cell? x:=λx hx=>by
  obtain⟨u,hu⟩:=h.bt x hx;obtain⟨cs,t,fz,hx⟩:=si hu;exact nz ((hc _ _ _ _ hx).trans hx.symm)
 have k:ep w g w' g:=⟨fI,λ_ h=>h,λ_ _ h=>h,λ_ _ h=>h,λ_ _ h=>h⟩;have wJ:Good w' g.S:=λx hx=>by
  obtain⟨u,hu⟩:=h.bt x hx;exact⟨u,(fI x hx).trans hu⟩
 refine⟨⟨hd,λb f hf=> ?_,λ_ _ h=>h,λ_ _ h=> .inl h,h.df.eV,λ_ _=>rfl,⟨λb vs hv=>by obtain⟨t,fz,e⟩:=h.df.fj.at h.below b vs hv;exact⟨t,fz,hc _ _ _ _ e⟩,λb vs hv hm=>hm.elim (λhm=>h.df.fj.no b vs hv (.inl hm)) (λhm=>hm ((h.df.fj.at h.below).rH h.df.cb b vs hv))⟩⟩,h.sz, .of (oD _ _),ho,wJ,λ_ h=> .inl h,λ_ h=>h,wJ,h.lβ,h.lρ,λn=>(h.sl n).bb k, ?_, ?_, ?_,h.ap,λi es hi=>by
  obtain⟨b,ga⟩:=h.mp i es hi;refine⟨b, ?_⟩;obtain⟨ms,cl,h1,_⟩:=ga.ex;have h3:=ga.bb k ((hm _ _ _ h1).trans h1.symm) ga.nm;exact⟨h3.β,h3.ex,h3.nm,h3.own,h3.i_⟩⟩
 ·obtain⟨es,cl,h1,h2⟩:=h.df.cb b f hf;exact⟨es,cl,hm _ _ _ h1,h2⟩
 ·intro i cs hi;obtain⟨b,vs,t,e1,e2,e3,e4,e5,e6⟩:=(h.bx i cs hi).ex;exact⟨b,vs,t,e1,hc _ _ _ _ e2,e3.bb k,e4,e5,e6⟩
 ·intro i cs hi;obtain⟨b,vs,t,e1,e2,e3,e4,e5,e6⟩:=(h.fz i cs hi).ex;exact⟨b,vs,t,e1,hc _ _ _ _ e2,e3.bb k.er,e4,e5,e6⟩
 ·intro r row hr;obtain⟨v,e1,e2,e3⟩:=(h.rw r row hr).ex;refine⟨v,e1,e2.bb k,λhl=> ?_⟩;obtain⟨⟨vals,bG⟩,bE,hS⟩:=e3 hl;refine⟨⟨vals,bG.1, ?_⟩,bE,hS⟩;rcases bG.2 with hn|⟨g,cap,cur,rfl,hg,fw,rest⟩
  ·exact .inl hn
  ·exact .inr ⟨g,cap,cur,rfl,hg,hc _ _ _ _ fw,rest⟩
theorem FK {w:World}{L:Nat}{r:Loop}{o:Obj}(hL:w.heap[L]? =some (.loop r)):∀(b:Nat) (cs:Array Value) (t:TypeId) (fz:Nat×Nat),w.heap[b]? =some (.cells cs t fz)->(w.putObj L o).heap[b]? =some (.cells cs t fz):=λb cs t fz hb=>by
 rw[mB (λe=>by subst e;rw[hb]at hL;cases hL)];exact hb
theorem N6 {w:World}{L:Nat}{r:Loop}{o:Obj}(hL:w.heap[L]? =some (.loop r)):∀(b:Nat) (es:Array MapEntry) (cl:Nat),w.heap[b]? =some (.map es cl)->(w.putObj L o).heap[b]? =some (.map es cl):=λb es cl hb=>by
 rw[mB (λe=>by subst e;rw[hb]at hL;cases hL)];exact hb
theorem Df {p:Nat->Prop}{L:Nat}{r:Loop}(hS:Good w g.S)(hL:w.heap[L]? =some (.loop r))(hp:p L)(o:Obj):mI p w g (w.putObj L o) g:=by
 have hg:=grownBy_putObj' w L o;refine⟨⟨hg.os,hg.tape,hg.output,hg.size,λk hk hn=>hg.block k hk (λe=>hn (.inl (by cases e;exact hp)))⟩,λx hx=> ?_,λ_ h=>h,λ_ h=> .inl h,λ_ _ h=>h,λ_ _ h=> .inl h⟩;obtain⟨u,hu⟩:=hS x hx;obtain⟨cs,t,fz,hc⟩:=si hu;exact nz ((FK hL _ _ _ _ hc).trans hc.symm)
theorem iN.yv {w:World}{M:MM}(h:iN w M){b:Nat}{r:Loop}(hb:w.heap[b]? =some (.loop r)):M b=none:=by
 cases hm:M b with
 |none=>rfl
 |some f=>
  obtain⟨es,cl,h1,_⟩:=h b f hm;rw[hb]at h1;cases h1
def JJ (c:Ctx)(a:Act)(L D:Nat)(st:St)(r:Loop):Inv:=λT S M W=>∃g:Gh,g.S=S/\g.M=M/\RG c st a W g/\xW (c:=c) T st a W g/\W.heap[L]? =some (.loop r)/\W.heap[D]? =some (.deferred (some []))/\∀b,T b->b≠L/\b≠D
theorem Tc {L D:Nat}{r:Loop}:Abides (JJ c a L D st r):=by
 rintro T S M W T' S' M' W' ⟨g,rfl,rfl,hg,hf,hL,hD,hT⟩ hi;obtain⟨h1,h2⟩:=hg.PB hf hi;have hl:=(bJ.1 hL).1;have hd:=(bJ.1 hD).1;refine⟨_,rfl,rfl,h1,h2, ?_, ?_,λb hb=> ?_⟩
 ·exact(hi.below.block L hl (λh=>h.elim (λh=>(hT L h).1 rfl) (λh=>h (hg.df.cb.yv hL)))).trans hL
 ·exact(hi.below.block D hd (λh=>h.elim (λh=>(hT D h).2 rfl) (λh=>h (hg.df.cb.uC hD)))).trans hD
 ·rcases hi.t1 b hb with h|h
  ·exact hT b h
  ·exact⟨ag,ag⟩
theorem XK {T:Nat->Prop}{L D nb:Nat}{r r2 rB:Loop}{W3:World}{g3:Gh}{s3:St}{a3:Act}{aF:List Bx}{aL:List Row}(h:RG c st a W g)(hf:xW (c:=c) T st a W g)(hL:W.heap[L]? =some (.loop r))(hD:W.heap[D]? =some (.deferred (some [])))
  (hT:∀b,T b->b≠L/\b≠D)(BF:c.w0.heap.size<=L)(kB:st.bx.length=nb)
  (h3:RG c2 s3 a3 W3 g3)(hβ:c2.β0=g.β)(bG:∀b,c2.own b->W.heap.size<=b\/(c.own b/\¬T b/\eb W b))
  (hl:mI (λb=>W.heap.size<=b\/b=L\/(c.own b/\¬T b/\eb W b)) W g W3 g3)(mj:W3.heap[L]? =some (.loop rB))
  (fY:∀m,Names st.bx.length 0 (st.sl m))(hle:Le s3 ⟨st.n,eC,aF,aL⟩)(hlen:aF.length=nb)(eT:(⟨st.n,eC,aF,aL⟩:St).named):
  ∃S' M',xX T g.S g.M W S' M' (W3.putObj L (.loop r2))/\JJ c a L D ⟨st.n,st.sl,aF,aL⟩ r2 T S' M' (W3.putObj L (.loop r2)):=by
 have bo:c.w0.heap.size<=W.heap.size:=h.below.size;have qQ:=(bJ.1 hL).1;have jn:=(bJ.1 hD).1;have Bw:c2.β0.length<=aF.length:=by rw[hβ,h.lβ,kB,hlen];exact cx _
 have h4:=h3.le hle eT Bw;generalize wK:(⟨g3.S,g3.β.take (⟨st.n,eC,aF,aL⟩:St).bx.length,g3.ρ.take (⟨st.n,eC,aF,aL⟩:St).rw.length,g3.M⟩:Gh)=g4 at h4;have eS:g4.S=g3.S:=by rw[<-wK]
 have eM:g4.M=g3.M:=by rw[<-wK]
 have wH:mI (λb=>W.heap.size<=b\/b=L\/(c.own b/\¬T b/\eb W b)) W g W3 g4:=
  ⟨hl.below,hl.kp,eS▸hl.s1,eS▸hl.s2,eM▸hl.m1,eM▸hl.m2⟩
 have yX:∀(i b:Nat),g.β[i]? =some b->g4.β[i]? =some b:=λi b hb=>h4.df.eV i b (hβ▸hb);have yV:=h.back h4 wH (λb hb=>by
   rcases hb with hb|rfl|hb
   ·exact h.cY b (gj bo hb)
   ·exact h.cY _ BF
   ·exact hb.1) (λb hb=>by
   rcases bG b hb with hb|hb
   ·exact h.cY b (gj bo hb)
   ·exact hb.1) yX fY (λd hd D' lG hp=>by
   obtain⟨D2,_,rfl,eU⟩:=h.df.cW.2 d hd;cases lG;rcases hp with hp|rfl|⟨_,_,hp⟩
   ·have:=(bJ.1 eU).1;omega
   ·rw[hL]at eU;cases eU
   ·exact eb.not eU rfl ay hp)
 have Hk:zS c.own (W3.putObj L (.loop r2)) a.defers:=⟨h.df.cW.1,λd hd=>by
  obtain⟨D2,hB,rfl,eU⟩:=yV.df.cW.2 d hd;exact⟨D2,hB,rfl,(mB (λe=>by subst e;rw[mj]at eU;cases eU)).trans eU⟩⟩
 have h5:RG c ⟨st.n,st.sl,aF,aL⟩ a (W3.putObj L (.loop r2)) g4:=yV.sJ mj rfl ay (h.cY _ BF) rfl Hk;have im:=wH.trans (Df (g:=g4) h4.bt mj (.inr (.inl rfl)) (.loop r2)) (λb hb=> .inl hb);have BC:∀b,T b->¬(W.heap.size<=b\/b=L\/(c.own b/\¬T b/\eb W b)):=λb hb hp=>by
  rcases hp with hp|hp|hp
  ·have:=(hf.lt b hb).1;omega
  ·exact(hT b hb).1 hp
  ·exact hp.2.1 hb
 have GO:∀x,g4.S x->T x.block->g.S x:=λx hx ht=>(im.s2 x hx).elim id (λh1=>(BC _ ht h1).elim);have yZ:∀b,c2.own b->¬T b:=λb hb ht=>by
  rcases bG b hb with h1|h1
  ·have:=(hf.lt b ht).1;omega
  ·exact h1.2.1 ht
 have BD:∀b,T b->g4.M b=none:=λb hb=>by
  cases hm:g4.M b with
  |none=>rfl
  |some f=>
        rcases im.m2 b f hm with h1|h1
        ·rw[(hf.lt b hb).2.1]at h1;cases h1
        ·have:=(hf.lt b hb).1;omega
 refine⟨g4.S,g4.M,⟨im.below.os,im.below.tape,im.below.output,im.below.size,λb hb=>im.below.block b (hf.lt b hb).1 (λh=>h.elim (BC b hb) (λh=>h (hf.lt b hb).2.1)),im.kp,im.s1,GO,(λ_=>h5.df.fj.at h5.below),im.m1,BD,h5.df.cb,h5.bt⟩,
  g4,rfl,rfl,h5,⟨λi x b hi hx hb=>yZ b (h4.om (x:=x) hi hx hb).2,λr row v gb hr hl hv aW=>yZ gb (h4.oG hr hl hv aW).2,hf.df,λb hb=>⟨xB (hf.lt b hb).1 im.below.size,BD b hb,(hf.lt b hb).2.2⟩⟩,
  IE (bJ.1 mj).1, ?_,hT⟩
 refine(im.below.block D jn (λhn=>hn.elim (λhp=> ?_) (λhn=>hn (h.df.cb.uC hD)))).trans hD;rcases hp with hp|rfl|⟨_,_,hp⟩
 ·omega
 ·rw[hL]at hD;cases hD
 ·exact eb.not hD rfl ay hp
end
end Go.Ab
end
section
namespace Go.Ab
open Go.RowKit
def vb:Exit->Option Code
 | .ret=>some .ret
 | .exit id=>some (.exit id)
 | .goto t=>some (.goto t)
 |_=>none
def CW (n nb:Nat)(fv:Nat->D)(aF:List Bx)(aL:List Row)(Q:Exit->St->Prop):Exit->St->Prop
 | .normal,s'=>Le s' ⟨n,eC,aF,aL⟩
 |e,s'=>(vb e).isSome=true/\∃iu iQ,iu.length=nb/\(⟨n,eC,iu,iQ⟩:St).named/\Le s' ⟨n,eC,iu,iQ⟩/\Q e ⟨n,fv,iu,iQ⟩
theorem Names.OU {nb nr:Nat}{d:D}(h:Names nb 0 d):Names nb nr d:=by
 generalize hz:0=z at h;induction h with
 |undef=>exact .undef
 |int k n=>exact .int _ _
 |bool b=>exact .bool _
 |str s=>exact .str _
 |val v=>exact .val _
 |list xs=>exact .list _
 |agg cs h ih=>exact .agg _ ih
 |aQ cs h ih=>exact .aQ _ ih
 |box i off h=>exact .box _ _ h
 |ro cs=>exact .ro _
 |own r h=>omega
 |aD f cs h ih=>exact .aD _ _ ih
 |eN f=>exact .eN _
 |a_ i off n c h=>exact .a_ _ _ _ _ h
 |dq f cs h ih=>exact .dq _ _ ih
 |skp=>exact .skp
 |any=>exact .any
 |bz i h=>exact .bz _ h
section
variable {P:Program} {w0:World} {S0:Addr->Prop} {M0:MM} {own:Nat->Prop} {β0:List Nat}
theorem adh {c:Ctx}{e:Exit}{cd:Code}{Q:Exit->Act->World->Prop}{a:Act}{w:World}(he:vb e=some cd)(h:Q e a w):cd.wpIn c.F 0 c.P Q a w:=by
 cases e<;>simp only[vb,Option.some.injEq,reduceCtorEq]at he<;>subst he
 ·exact wpIn_exit h
 ·exact wpIn_goto h
 ·exact wpIn_ret h
theorem SE {gx:Operand}{ps:Array Tmp}{assign body:Code}{Q:Exit->St->Prop}{s:St}{gf:FuncId}{cs dp:List D}{xs:List (List D)}
  (hg:s.ev gx= .aD gf cs)(hp:gJ s.bx s.rw cs=some dp)(hI:Iter P gf dp xs)(gU:∀x∈xs,x.length=ps.size)(lz:∀p∈ps.toList,p < s.n)
  (fv:Nat->D)(bx:Nat->List Bx)(rw:Nat->List Row)(nb:Nat)(hle:Le s ⟨s.n,fv,bx 0,rw 0⟩)(fY:∀m,Names nb 0 (fv m))
  (kB:∀k,k<=xs.length->(bx k).length=nb)(eT:∀k,k<=xs.length->(⟨s.n,eC,bx k,rw k⟩:St).named)(hβ:β0.length<=nb)
  (round:∀(k:Nat) (x:List D),xs[k]? =some x->∀(w1:World) (S1:Addr->Prop) (M1:MM) (l:Nat) (o1:Nat->Prop) (b1:List Nat),b1.length=nb->
   az ⟨P,w1,S1,M1,some l,o1,b1⟩ assign (cF (λs'=>∀(w2:World) (S2:Addr->Prop) (M2:MM) (o2:Nat->Prop),az ⟨P,w2,S2,M2,some l,o2,b1⟩ body (CW s.n nb fv (bx (k + 1)) (rw (k + 1)) Q) s') (λ_ _=>False))
    ⟨s.n,pD ps.toList x fv,bx k,rw k⟩)
  (done:Q .normal ⟨s.n,fv,bx xs.length,rw xs.length⟩):az ⟨P,w0,S0,M0,none,own,β0⟩ (.rangeFunc gx ps assign body) Q s:=by
 obtain⟨c,hc⟩:∃c:Ctx,c=⟨P,w0,S0,M0,none,own,β0⟩:=⟨_,rfl⟩;rw[<-hc];have u_:c.P=P:=by rw[hc]
 have r7:c.F=eO:=by rw[hc];rfl
 intro a w hr;obtain⟨g,gM⟩:=hr;have hv:=gM.ev gx;rw[hg]at hv;generalize A4:a.eval gx=vx at hv;have G6:(⟨s.n,fv,bx 0,rw 0⟩:St).named:=⟨λm=>by
  have h1:=fY m;have mi:=kB 0 (cv _);simp only[mi];exact h1.OU,(eT 0 (cv _)).2⟩
 have GD:c.β0.length<=(⟨s.n,fv,bx 0,rw 0⟩:St).bx.length:=by rw[hc];simpa[kB 0 (cv _)]using hβ
 have h0:=gM.le hle G6 GD;cases hv with
 |aD _ _ vs _ kX A3=>
 obtain⟨vs⟩:=vs;obtain⟨e1,e2⟩:=vY hp;have DG:vs.length=dp.length:=by rw[e1];simpa using kX
 have G9:∀q x,dp[q]? =some x->Rel w ⟨g.S,[],[],g.M⟩ (vs.getD q bH) x:=λq x hx=>by
  obtain⟨y,hy,ta⟩:=e2 q x hx;exact rC gM (by simpa using A3 q y hy) ta
 refine wpIn_rangeFunc ?_;intro fn tv;have wy:c.F.round=none:=by rw[r7];rfl
 rw[wy];obtain⟨rec,j9⟩:∃rec:LoopState->Option Code->Loop,rec=λst pe=>{state:=st,pending:=pe,fn,tmps:=a.tmps,params:=ps,assign,body,defers:=w.heap.size}:=⟨_,rfl⟩;obtain⟨W1,tC⟩:∃W1,(w.alloc (.deferred (some []))).alloc (.loop (rec .ready none))=W1:=⟨_,rfl⟩;have y9:W1.heap[w.heap.size + 1]? =some (.loop (rec .ready none)):=by
  rw[<-tC];have:=zA (w.alloc (.deferred (some []))) (.loop (rec .ready none));rwa [World.size_alloc]at this
 have aK:W1.heap[w.heap.size]? =some (.deferred (some [])):=by
  rw[<-tC];exact(Below.heap_alloc _ _ _ ay).trans (zA w _)
 have hO:Below w.heap.size w W1:=by rw[<-tC];exact(((oD _ w).alloc (cx _) _).alloc ay _)
 have bo:c.w0.heap.size<=w.heap.size:=gM.below.size;have h1:=h0.world hO (λ_ h=>h) (λ_ h=> .inl h) (h0.bt.below hO);have tD:iN W1 g.M:=h1.df.cb;have HA:Good W1 g.S:=h1.bt;refine⟨w.heap.size + 1,[{target:= .collected w.heap.size,args:=#[]}],W1,{target:= .fn (.func gf) vs.toArray,args:=#[.func (.yield (w.heap.size + 1)) #[] #[]]},W1,gf,
  (zB (.yield (w.heap.size + 1)) #[] #[]::vs).toArray,W1, ?_, ?_, ?_, ?_,λh=>(by rw[r7]at h;cases h), ?_⟩
 ·rw[<-tC,j9];exact run_enterLoop_outer _ _ _ _ _
 ·simp only[resolve,A4];simp[go_sem]
 ·intro f' _;rw[r7];trivial
 ·have:=hI.1 (zB (.yield (w.heap.size + 1)) #[] #[]::vs).toArray W1;rw[u_];simp[invoke,go_sem];simpa using this
 rw[r7,u_];refine callsIn_wide.2 ((hI.2 g.S g.M W1 vs (h1.df.fj.at h1.below) HA tD DG (λq x hx=>(G9 q x hx).bb ⟨λy hy=>by
   obtain⟨u,hu⟩:=gM.bt y hy;obtain⟨cc,tt,ff,Bu⟩:=si hu;exact nz (hO.block _ (bJ.1 Bu).1),λ_ h=>h,λ_ _ h=>h,λ_ _ h=>h,λ_ _ h=>h⟩)
  (w.heap.size + 1) (λk T S M W=>k<=xs.length/\JJ c a (w.heap.size + 1) w.heap.size ⟨s.n,fv,bx k,rw k⟩ (rec .ready none) T S M W)
  (λ_ T S M W=>∃e cd iu iQ,vb e=some cd/\Q e ⟨s.n,fv,iu,iQ⟩/\JJ c a (w.heap.size + 1) w.heap.size ⟨s.n,fv,iu,iQ⟩ (rec .done (some cd)) T S M W)
  (λk T S M W T' S' M' W' h hi=>⟨h.1,Tc T S M W T' S' M' W' h.2 hi⟩)
  (λk T S M W T' S' M' W' h hi=>by obtain⟨e,cd,iu,iQ,h1,h2,h3⟩:=h;exact⟨e,cd,iu,iQ,h1,h2,Tc T S M W T' S' M' W' h3 hi⟩) ?_ ?_).mono ?_)
 ·
  rintro k T S M W args x hx ⟨hk,g1,rfl,rfl,bM,hf,hL,hD,hT⟩ hlen b9;have qF:x.length=ps.size:=gU x (List.mem_of_getElem? hx);have nZ:k < xs.length:=(bm.1 hx).1;have r8:(bx k).length=nb:=kB k hk;have hy:=run_yield (P:=P) (args:=args.toArray) hL (by rw[j9];simp;omega);rw[j9]at hy;refine⟨fn,_,assign,body,hy,roundIn_of_wpIn trivial ?_⟩;have Bq:((ps.zip args.toArray).foldl (λt (p,v)=>t.setIfInBounds p v) a.tmps)=((ps.toList.zip args).foldl (λt (p,v)=>t.setIfInBounds p v) a.tmps):=by
   rw[<-Array.foldl_toList];simp
  obtain⟨q1,q2⟩:=FL (w:=W) (g:=g1) ps.toList x args fv a.tmps hlen (λq d hd=>(b9 q d hd).bb (HR _ _ _ _ _)) (λp hp=>by rw[bM.sz];exact lz p hp) (λm=>bM.sl m);have tw:=bM.enter hf (some (w.heap.size + 1)) (a':={tmps:=(ps.zip args.toArray).foldl (λt (p,v)=>t.setIfInBounds p v) a.tmps,defers:=[]}) (sl:=pD ps.toList x fv) rfl (by rw[Bq];exact q1) (by rw[Bq];exact q2);rw[u_]at tw;have hA:=round k x hx W g1.S g1.M (w.heap.size + 1) _ g1.β (by rw[bM.lβ];exact r8) _ W ⟨g1,tw⟩;refine wpIn_mono hA ?_;rintro e a1 w1 ⟨s1,⟨g2,h2⟩,hq⟩;cases e with
  |normal=>
   have Hx:=(bJ.1 hL).1;have BG:¬(W.heap.size<=w.heap.size + 1\/(c.own (w.heap.size + 1)/\¬T (w.heap.size + 1)/\eb W (w.heap.size + 1))):=λh=>by
    rcases h with h|⟨_,_,h⟩
    ·omega
    ·exact eb.not hL rfl ay h
   have ml:w1.heap[w.heap.size + 1]? =some (.loop (rec .ready none)):=(h2.below.block _ Hx (λh=>h.elim BG (λh=>h (bM.df.cb.yv hL)))).trans hL;have Ho:=run_beginRound (P:=P) ml (by rw[j9]);have lZ:=h2.NY (w':=w1.putObj (w.heap.size + 1) (.loop {rec .ready none with state:= .busy})) (FK ml) (N6 ml) ⟨h2.df.cW.1,λd hd=>by
    obtain⟨D2,hB,rfl,eU⟩:=h2.df.cW.2 d hd;exact⟨D2,hB,rfl,(mB (λe=>by subst e;rw[ml]at eU;cases eU)).trans eU⟩⟩ (λb hb=>h2.cY b (by have:=h2.below.size;simp only[World.putObj_size]at hb;exact gj this hb))
   have hB:=hq (w1.putObj (w.heap.size + 1) (.loop {rec .ready none with state:= .busy})) g2.S g2.M _ a1 _ ⟨g2,lZ⟩;refine⟨_,Ho,wpIn_mono hB ?_⟩;rintro e a3 W3 ⟨s3,⟨g3,h3⟩,mY⟩;have wU:(w1.putObj (w.heap.size + 1) (.loop {rec .ready none with state:= .busy})).heap[w.heap.size + 1]? =some (.loop {rec .ready none with state:= .busy}):=IE (bJ.1 ml).1;have wF:=(bJ.1 wU).1;have mj:W3.heap[w.heap.size + 1]? =some (.loop {rec .ready none with state:= .busy}):=(h3.below.block _ wF (λh=>h.elim BG (λh=>h (lZ.df.cb.yv wU)))).trans wU;have l1:mI (λb=>W.heap.size<=b\/b=w.heap.size + 1\/(c.own b/\¬T b/\eb W b)) W g1 w1 g2:=h2.later rfl rfl rfl (λb hb=>hb.elim .inl (λh=> .inr (.inr h)));have l2:=Df (p:=λb=>W.heap.size<=b\/b=w.heap.size + 1\/(c.own b/\¬T b/\eb W b)) h2.bt ml (.inr (.inl rfl)) (.loop {rec .ready none with state:= .busy});have l3:mI (λb=>W.heap.size<=b\/b=w.heap.size + 1\/(c.own b/\¬T b/\eb W b)) _ g2 W3 g3:=h3.later rfl rfl rfl (λb hb=>hb.elim .inl (λh=> .inr (.inr h)));have hl:=(l1.trans l2 (λb hb=> .inl hb)).trans l3 (λb hb=> .inl hb);have Qn:=λ(jump:Option Code)=>run_endRound (P:=P) jump mj;have fin:∀(iu:List Bx) (iQ:List Row) (r2:Loop),Le s3 ⟨s.n,eC,iu,iQ⟩->iu.length=nb->(⟨s.n,eC,iu,iQ⟩:St).named->
     ∃S' M',xX T g1.S g1.M W S' M' (W3.putObj (w.heap.size + 1) (.loop r2))/\JJ c a (w.heap.size + 1) w.heap.size ⟨s.n,fv,iu,iQ⟩ r2 T S' M' (W3.putObj (w.heap.size + 1) (.loop r2)):=λiu iQ r2 hle hlen eT=>
    XK (st:=⟨s.n,fv,bx k,rw k⟩) (nb:=nb) bM hf hL hD hT ag r8 h3 rfl (λb hb=>hb) hl mj (by rw[show(⟨s.n,fv,bx k,rw k⟩:St).bx.length=nb from r8];exact fY) hle hlen eT
   have leave:∀cd,vb e=some cd->CW s.n nb fv (bx (k + 1)) (rw (k + 1)) Q e s3->e≠ .normal->∃v w',(Instr.endRound (w.heap.size + 1) (some cd)).run P W3= .ok v w'/\∃S' M',xX T g1.S g1.M W S' M' w'/\
     ((Ending.returned v= .returned (.bool true)/\k + 1<=xs.length/\JJ c a (w.heap.size + 1) w.heap.size ⟨s.n,fv,bx (k + 1),rw (k + 1)⟩ (rec .ready none) T S' M' w')\/
      (Ending.returned v= .returned (.bool false)/\∃e cd iu iQ,vb e=some cd/\Q e ⟨s.n,fv,iu,iQ⟩/\JJ c a (w.heap.size + 1) w.heap.size ⟨s.n,fv,iu,iQ⟩ (rec .done (some cd)) T S' M' w')):=λcd hcd hq bS=>by
    have ec:∃iu iQ,iu.length=nb/\(⟨s.n,eC,iu,iQ⟩:St).named/\Le s3 ⟨s.n,eC,iu,iQ⟩/\Q e ⟨s.n,fv,iu,iQ⟩:=by
     cases e<;>first|exact(bS rfl).elim|exact hq.2
    obtain⟨iu,iQ,h5,h6,h7,h8⟩:=ec;have he:=Qn (some cd);obtain⟨S',M',f1,f2⟩:=fin iu iQ (rec .done (some cd)) h7 h5 h6;rw[j9]at he f1 f2⊢;exact⟨_,_,he,S',M',f1, .inr ⟨rfl,e,cd,iu,iQ,hcd,h8,f2⟩⟩
   cases e with
   |normal=>
    have he:=Qn none;obtain⟨S',M',f1,f2⟩:=fin (bx (k + 1)) (rw (k + 1)) (rec .ready none) mY (kB _ nZ) (eT _ nZ);rw[j9]at he f1 f2⊢;exact⟨_,_,he,S',M',f1, .inl ⟨rfl,nZ,f2⟩⟩
   |ret=>exact leave _ rfl mY ay
   |exit id=>exact leave _ rfl mY ay
   |goto t=>exact leave _ rfl mY ay
   |panic ch=>exact absurd mY.1 (by simp[vb])
   |outgrown=>exact absurd mY.1 (by simp[vb])
  |exit id=>exact hq.elim
  |goto l=>exact hq.elim
  |ret=>exact hq.elim
  |panic ch=>exact hq.elim
  |outgrown=>exact hq.elim
 ·
  refine⟨cv _,_, ?_, ?_,h1,⟨λ_ _ _ _ _ _ h=>h,λ_ _ _ _ _ _ _ _ h=>h,λ_ _ _ _ h=>h,λ_ h=>h.elim⟩,y9,aK,λ_ h=>h.elim⟩<;>rfl
 ·
  have Qj:∀(st:St) (r:Loop) (T:Nat->Prop) (S:Addr->Prop) (M:MM) (W:World),r.state≠ .busy->JJ c a (w.heap.size + 1) w.heap.size st r T S M W->
    (Instr.endLoop (w.heap.size + 1)).run P W= .ok r.pending (W.putObj (w.heap.size + 1) (.loop {r with state:= .exhausted}))/\
    R c st {a with defers:={target:= .collected w.heap.size,args:=#[]}::a.defers} (W.putObj (w.heap.size + 1) (.loop {r with state:= .exhausted})):=λst r T S M W hb hJ=>by
   obtain⟨g1,rfl,rfl,bM,hf,hL,hD,hT⟩:=hJ;refine⟨run_endLoop (P:=P) hL hb,g1,bM.sJ hL rfl ay (bM.cY _ ag) rfl ⟨List.nodup_cons.2 ⟨λhm=> ?_,bM.df.cW.1⟩,λd hd=> ?_⟩⟩
   ·obtain⟨D',_,e,ed⟩:=gM.df.cW.2 _ hm;cases e;have:=(bJ.1 ed).1;omega
   ·rcases eX.1 hd with rfl|hd
    ·exact⟨w.heap.size,bM.cY _ bo,rfl,(mB ag).trans hD⟩
    ·obtain⟨D2,hB,rfl,eU⟩:=bM.df.cW.2 d hd;exact⟨D2,hB,rfl,(mB (λe=>by subst e;rw[hL]at eU;cases eU)).trans eU⟩
  rintro e W2 ⟨⟨v,rfl⟩,T,S',M',⟨hk,hJ⟩|⟨k,e',cd,iu,iQ,he,hq,hJ⟩⟩
  ·obtain⟨h3,h4⟩:=Qj _ _ _ _ _ _ (by rw[j9];simp) hJ;rw[j9]at h3 h4;exact⟨none,_,h3,_,h4,done⟩
  ·obtain⟨h3,h4⟩:=Qj _ _ _ _ _ _ (by rw[j9];simp) hJ;rw[j9]at h3 h4;refine⟨some cd,_,h3, ?_⟩;have:=adh (c:=c) (Q:=λe a' w'=>∃s',R c s' a' w'/\Q e s') he ⟨_,h4,hq⟩;rw[r7,u_]at this;exact this
end
end Go.Ab
end
section
namespace Go.Ab
open Go.RowKit
theorem QX (x:Int):∀(es:List MapEntry) (i:Nat),(∀e∈es,∃y,e.key=gX .i64 y)->∃r,vB (.int .i64) (.int .i64 x) es i=some r/\((r=none/\∀e∈es,e.key≠ .int .i64 x)\/∃j e,es[j]? =some e/\e.key= .int .i64 x/\r=some (i + j,e.val))
 |[],i,_=>⟨none,rfl, .inl ⟨rfl,λe he=>by cases he⟩⟩
 |e::es,i,h=>by
  obtain⟨y,hy⟩:=h e (ey ..);by_cases iB:x=y
  ·subst iB;exact⟨some (i,e.val),by simp[vB,hy,E4], .inr ⟨0,e,rfl,hy,rfl⟩⟩
  ·obtain⟨r,h1,h2⟩:=QX x es (i + 1) (λe he=>h e (fE _ he));have hb:(x == y)=false:=by simp[iB]
   refine⟨r,by simp[vB,hy,E4,hb,h1], ?_⟩;rcases h2 with⟨h2,h6⟩|⟨j,e',h3,h4,h5⟩
   ·refine .inl ⟨h2,λe' iq=> ?_⟩;rcases eX.1 iq with rfl|iq
    ·rw[hy];intro hh;cases hh;exact iB rfl
    ·exact h6 e' iq
   ·exact .inr ⟨j + 1,e',by simpa using h3,h4,by rw[h5];simp;omega⟩
theorem aak {P:Program}{kt:TypeId}(hu:P.underlying kt=some (.int .i64)):ua P kt false 1 where
 check e xs w _:=by
  have:∀d,(su e (d + 1) kt (dQ false xs)).run P w= .ok () w:=λd=>by simp[su,run_underlying hu,dQ]
  exact this 9999
 find xs es w hl gF:=by
  obtain⟨r,h1,h2⟩:=QX (xs.headD 0) es 0 (λe he=>by obtain⟨ys,_,h⟩:=gF e he;exact⟨_,h⟩);refine⟨r,by simp only[Instr.findKey,Sem.run_bind,run_underlying hu,Result.andThen_ok,dQ,h1,Sem.run_pure], ?_⟩;rcases h2 with h2|⟨j,e',h3,h4,h5⟩
  ·exact .inl h2
  ·exact .inr ⟨j,e',h3,h4,by simpa using h5⟩
 inj xs ys hx hy h:=by
  match xs,ys,hx,hy with
  |[x],[y],_,_=>simpa[dQ]using h
theorem FE {P:Program}{e:TypeId}(pN:cM P e=some false)(xs:List Int)(i:Nat)(hi:i < xs.length)(w:World):(part e (xs.map (gX .i64)).toArray i).run P w= .ok (.int .i64 xs[i]) w:=by
 simp[part,Is pN,hi]
theorem QY {P:Program}{kt:TypeId}{n:Nat}(xs:List Int)(w:World)(heq:∀ys:List Int,ys.length=n->(Op.equal kt (.agg (xs.map (gX .i64)).toArray) (.agg (ys.map (gX .i64)).toArray)).run P w= .ok (decide (xs=ys)) w):
  ∀(es:List MapEntry) (i:Nat),(∀e∈es,∃ys:List Int,ys.length=n/\e.key=dQ true ys)->
  ∃r,(I5 kt (dQ true xs) es i).run P w= .ok r w/\((r=none/\∀e∈es,e.key≠dQ true xs)\/∃j e,es[j]? =some e/\e.key=dQ true xs/\r=some (i + j,e.val))
 |[],i,_=>⟨none,by simp[I5], .inl ⟨rfl,λe he=>by cases he⟩⟩
 |e::es,i,h=>by
  obtain⟨ys,hl,hy⟩:=h e (ey ..);have hq:=heq ys hl;by_cases iB:xs=ys
  ·subst iB;refine⟨some (i,e.val), ?_, .inr ⟨0,e,rfl,hy,rfl⟩⟩;simp only[dQ]at hy⊢;simp[I5,hy,hq]
  ·obtain⟨r,h1,h2⟩:=QY xs w heq es (i + 1) (λe he=>h e (fE _ he));refine⟨r, ?_, ?_⟩
   ·simp only[dQ]at hy h1⊢;simp[I5,hy,hq,iB,h1]
   ·rcases h2 with⟨h2,h6⟩|⟨j,e',h3,h4,h5⟩
    ·refine .inl ⟨h2,λe' iq=> ?_⟩;rcases eX.1 iq with rfl|iq
     ·rw[hy];intro hh
      simp only[dQ,Value.agg.injEq]at hh;have hh:=congrArg Array.toList hh;simp only at hh;exact iB ((List.map_inj_right (λa b h=>by cases h;rfl)).1 hh).symm
     ·exact h6 e' iq
    ·exact .inr ⟨j + 1,e',by simpa using h3,h4,by rw[h5];simp;omega⟩
end Go.Ab
end
section
namespace Go.Ab
open Go.RowKit
def zd (P:Program):Nat->List Field->Bool
 |_,[]=>true
 |k,f::fs=>f.name != "_" &&f.offset == k&&decide (lX P f.type=some .i64)&&zd P (k + 1) fs
theorem Pz {P:Program}{t:TypeId}{k:IntKind}(h:lX P t=some k):P.underlying t=some (.int k):=by
 unfold lX at h;split at h<;>simp_all
theorem Rb {P:Program}(d:Nat)(xs ys:List Int)(w:World):∀(fs:List Field) (k:Nat),zd P k fs=true->k + fs.length=xs.length->k + fs.length=ys.length->
  (Op.eqFields (d + 1) (xs.map (gX .i64)).toArray (ys.map (gX .i64)).toArray fs).run P w= .ok (decide (xs.drop k=ys.drop k)) w
 |[],k,_,h1,h2=>by
  simp at h1 h2;simp[Op.eqFields,I0 (Nat.le_of_eq h1.symm),I0 (Nat.le_of_eq h2.symm)]
 |f::fs,k,hf,h1,h2=>by
  simp only[zd,Bool.and_eq_true,bne_iff_ne,beq_iff_eq,decide_eq_true_eq]at hf;obtain⟨⟨⟨hn,ho⟩,hu⟩,hr⟩:=hf;have hu:=Pz hu;have pN:cM P f.type=some false:=by unfold cM;rw[hu]
  simp only[List.length_cons]at h1 h2;have ih:=Rb d xs ys w fs (k + 1) hr ag ag;have hx:k < xs.length:=ag;have hy:k < ys.length:=ag;have p1:=FE pN xs k hx w;have p2:=FE pN ys k hy w;have p3:∀a b:Int,(Op.equalIn (d + 1) f.type (.int .i64 a) (.int .i64 b)).run P w= .ok (a == b) w:=λa b=>by
   simp[Op.equalIn,run_underlying hu]
  simp only[Op.eqFields,hn,ne_eq,not_false_eq_true,if_true,Sem.run_bind,ho,p1,p2,p3,Result.andThen_ok];have hd:(xs.drop k=ys.drop k)=(xs[k]=ys[k]/\xs.drop (k + 1)=ys.drop (k + 1)):=by
   rw[zO hx,zO hy,List.cons.injEq]
  simp only[hd];by_cases iB:xs[k]=ys[k]
  ·simp[iB,ih]
  ·simp[iB]
end Go.Ab
end
namespace Go.Ab
open Go.RowKit
structure IR (P:Program)(T:Nat->Prop)(S:Addr->Prop)(M:MM)(s:St)(a:Act)(w:World):Prop where
 lt:∀b,T b->b < w.heap.size/\M b=none
 rg:∃g:Gh,g.S=S/\g.M=M/\RG ⟨P,w,S,M,none,λb=>T b\/w.heap.size<=b,[]⟩ s a w g
theorem IR.next {P:Program}{T:Nat->Prop}{S:Addr->Prop}{M:MM}{s':St}{a':Act}{w w':World}{g':Gh}(lt:∀b,T b->b < w.heap.size/\M b=none)
  (h:RG ⟨P,w,S,M,none,λb=>T b\/w.heap.size<=b,[]⟩ s' a' w' g'):
  ∃T',I6 T S M w T' g'.S g'.M w'/\IR P T' g'.S g'.M s' a' w':=by
 have bo:w.heap.size<=w'.heap.size:=h.below.size
 let T':Nat->Prop:=λb=>(T b\/w.heap.size<=b)/\b < w'.heap.size/\g'.M b=none
 refine⟨T',⟨⟨h.below.os,h.below.tape,h.below.output,h.below.size,λk hk hn=>h.below.block k hk (λhm=>hm.elim (λho=>ho.elim (λht=>hn (.inl ht)) (λhl=>by omega)) (λhm=>hn (.inr hm)))⟩,
  λb hb=>hb.1,λb hb=>hb.2,h.S0,λx hx=>h.eD x hx,h.df.iA,h.df.m0,h.df.fX,h.df.cb,h.bt⟩,⟨λb hb=>hb.2,g',rfl,rfl, ?_⟩⟩
 have uA:∀b,(T b\/w.heap.size<=b)->b < w'.heap.size->g'.M b=none->T' b:=λb h1 h2 h3=>⟨h1,h2,h3⟩;refine⟨⟨⟨h.df.cW.1,λd hd=> ?_⟩,h.df.cb,λ_ _ h=>h,λ_ _ h=> .inl h,λi b hb=>by simp at hb,λ_ _=>rfl,h.df.fj.own h.below h.df.cb (λb hb=>hb.elim (λhb=> .inr (.inl hb.1)) .inl)⟩,h.sz, .of (oD _ _),λb hb=> .inr hb,h.bt,λ_ h=> .inl h,λ_ h=>h,h.bt,h.lβ,h.lρ,h.sl,λi cs hi=> ?_,λi cs hi=> ?_,λr row hr=> ?_,h.ap,λi es hi=>(h.mp i es hi).imp λb hm=>hm.ctx (.inl (uA b hm.own hm.lt hm.nm))⟩
 ·obtain⟨D',hB,e,hD⟩:=h.df.cW.2 d hd;exact⟨D', .inl (uA D' hB (bJ.1 hD).1 (h.df.cb.uC hD)),e,hD⟩
 ·obtain⟨b,vs,t,e1,e2,e3,e4,e5⟩:=(h.bx i cs hi).ex;exact⟨b,vs,t,e1,e2,e3, .inl (uA b e4 (bJ.1 e2).1 (h.df.cb.uD e2)),e5⟩
 ·obtain⟨b,vs,t,e1,e2,e3,e4,e5⟩:=(h.fz i cs hi).ex;exact⟨b,vs,t,e1,e2,e3, .inl (uA b e4 (bJ.1 e2).1 (h.df.cb.uD e2)),e5⟩
 ·obtain⟨v,e1,e2,e3⟩:=(h.rw r row hr).ex;refine⟨v,e1,e2,λhl=> ?_⟩;obtain⟨⟨vals,bG⟩,bE,hS⟩:=e3 hl;refine⟨⟨vals,bG⟩,bE,λgb aW=>⟨.inl (uA gb (hS gb aW).1 (bG.lt gb aW).2 ?_),(hS gb aW).2⟩⟩;rcases bG.2 with⟨rfl,_⟩|⟨g2,cap,cur,rfl,_,fw,_⟩
  ·simp[jr]at aW
  ·simp[jr]at aW;subst aW;exact h.df.cb.uD fw
theorem IR.round {P:Program}{T:Nat->Prop}{S S':Addr->Prop}{M M':MM}{s:St}{a:Act}{w w':World}(h:IR P T S M s a w)(hf:xX T S M w S' M' w'):IR P T S' M' s a w':=by
 obtain⟨lt,g,rfl,rfl,hg⟩:=h;have k:ep w g w' ⟨S',g.β,g.ρ,M'⟩:=⟨hf.cell,hf.s1,λ_ _ h=>h,λ_ _ h=>h,hf.m1⟩;have hT:∀b,b < w.heap.size->(T b\/w.heap.size<=b)->T b:=λb hb h=>h.elim id (λh=>by omega);refine⟨λb hb=>⟨xB (lt b hb).1 hf.size,hf.m3 b hb⟩,⟨S',g.β,g.ρ,M'⟩,rfl,rfl, ?_⟩;refine⟨⟨⟨hg.df.cW.1,λd hd=> ?_⟩,hf.cb,λ_ _ h=>h,λ_ _ h=> .inl h,λi b hb=>by simp at hb,λ_ _=>rfl,⟨hf.tb (hg.df.fj.at hg.below),λb vs hv hm=>hm.elim (λhm=>hm.elim (λht=>hg.df.fj.no b vs hv (.inl (.inl ht))) (λhl=>absurd ((hf.tb (hg.df.fj.at hg.below)).lt b vs hv) (Nat.not_lt.2 hl))) (λhm=>hm ((hf.tb (hg.df.fj.at hg.below)).rH hf.cb b vs hv))⟩⟩,hg.sz, .of (oD _ _),λb hb=> .inr hb,hf.bt,λ_ h=> .inl h,λ_ h=>h,hf.bt,hg.lβ,hg.lρ,λn=>(hg.sl n).bb k,λi cs hi=> ?_,λi cs hi=> ?_,λr row hr=> ?_,hg.ap,λi es hi=>by
  obtain⟨b,hm⟩:=hg.mp i es hi;refine⟨b, ?_⟩;have ht:=hT b hm.lt hm.own;exact(hm.bb k (hf.t b ht) (hf.m3 b ht)).ctx (.inl ht)⟩
 ·obtain⟨D',hB,e,hD⟩:=hg.df.cW.2 d hd;have ht:=hT D' (bJ.1 hD).1 hB;exact⟨D', .inl ht,e,(hf.t D' ht).trans hD⟩
 ·obtain⟨b,vs,t,e1,e2,e3,e4,e5,e6⟩:=(hg.bx i cs hi).ex;have ht:=hT b (bJ.1 e2).1 e4;exact⟨b,vs,t,e1,(hf.t b ht).trans e2,e3.bb k, .inl ht,λ_ x hx e=>e5 rfl x (hf.s3 x hx (by rw[e];exact ht)) e,λh=>by cases h⟩
 ·obtain⟨b,vs,t,e1,e2,e3,e4,e5,e6⟩:=(hg.fz i cs hi).ex;have ht:=hT b (bJ.1 e2).1 e4;exact⟨b,vs,t,e1,(hf.t b ht).trans e2,e3.bb k.er, .inl ht,(λh=>by cases h),λh q hq=>hf.s1 _ (e6 h q hq)⟩
 ·obtain⟨v,e1,e2,e3⟩:=(hg.rw r row hr).ex;refine⟨v,e1,e2.bb k,λhl=> ?_⟩;obtain⟨⟨vals,bG⟩,bE,hS⟩:=e3 hl;refine⟨⟨vals,bG.1, ?_⟩,bE,λgb aW=> ?_⟩
  ·rcases bG.2 with hn|⟨g2,cap,cur,rfl,fy,fw,rest⟩
   ·exact .inl hn
   ·have ht:=hT g2 (bJ.1 fw).1 (hS g2 rfl).1;exact .inr ⟨g2,cap,cur,rfl,fy,(hf.t g2 ht).trans fw,rest⟩
  ·have ht:=hT gb (bG.lt gb aW).2 (hS gb aW).1;exact⟨.inl ht,λx hx e=>(hS gb aW).2 x (hf.s3 x hx (by rw[e];exact ht)) e⟩
abbrev Ix:=Bool×Nat
def JX (J Jx:Nat->Inv):Ix->Inv
 |(true,k)=>J k
 |(false,k)=>Jx k
structure IC where
 P:Program
 l:Nat
 xs:List (List D)
 J:Nat->Inv
 Jx:Nat->Inv
structure IC.Ok (c:IC):Prop where
 ab:∀i,Abides (JX c.J c.Jx i)
 rd:∀k T S M W (args:List Value) x,c.xs[k]? =some x->c.J k T S M W->args.length=x.length->(∀q d,x[q]? =some d->Rel W ⟨S,[],[],M⟩ (args.getD q bH) d)->
  YieldAt eO 0 c.P c.l args.toArray W λe W'=>∃S' M',xX T S M W S' M' W'/\((e= .returned (.bool true)/\c.J (k + 1) T S' M' W')\/(e= .returned (.bool false)/\c.Jx (k + 1) T S' M' W'))
def IA (c:IC)(code:Code)(Q:Exit->Ix->St->Prop)(i:Ix)(s:St):Prop:=
 c.Ok->∀a w T S M,JX c.J c.Jx i T S M w->IR c.P T S M s a w->code.wpIn eO 0 c.P (λe a' w'=>∃i' s' T' S' M',JX c.J c.Jx i' T' S' M' w'/\IR c.P T' S' M' s' a' w'/\Q e i' s') a w
section
variable {c:IC} {Q:Exit->Ix->St->Prop} {s:St} {i:Ix}
theorem jC {code:Code}(h:∀(w0:World) (S0:Addr->Prop) (M0:MM) (own:Nat->Prop),az ⟨c.P,w0,S0,M0,none,own,[]⟩ code (λe s'=>Q e i s') s):IA c code Q i s:=by
 intro cO a w T S M hJ ⟨lt,g,e1,e2,hg⟩;refine wpIn_mono (h w S M _ a w ⟨g,hg⟩) ?_;rintro e a' w' ⟨s',⟨g',me⟩,hq⟩;obtain⟨T',hi,hr⟩:=IR.next lt me;exact⟨i,s',T',_,_,cO.ab i _ _ _ _ _ _ _ _ hJ hi,hr,hq⟩
theorem qu (h:Q .normal i s):IA c .skip Q i s:=λ_ a w T S M hJ hr=>wpIn_skip ⟨i,s,T,S,M,hJ,hr,h⟩
theorem qA {id:Nat}(h:Q (.exit id) i s):IA c (.exit id) Q i s:=λ_ a w T S M hJ hr=>wpIn_exit ⟨i,s,T,S,M,hJ,hr,h⟩
theorem qx (h:Q .ret i s):IA c .ret Q i s:=λ_ a w T S M hJ hr=>wpIn_ret ⟨i,s,T,S,M,hJ,hr,h⟩
def dE (K:Ix->St->Prop)(Q:Exit->Ix->St->Prop):Exit->Ix->St->Prop
 | .normal,i,s=>K i s
 |e,i,s=>Q e i s
def dG (id:Nat)(Q:Exit->Ix->St->Prop):Exit->Ix->St->Prop
 | .exit j6,i,s=>if j6=id then Q .normal i s else Q (.exit j6) i s
 |e,i,s=>Q e i s
theorem qv {x y:Code}(h:IA c x (dE (IA c y Q) Q) i s):IA c (.seq x y) Q i s:=by
 intro cO a w T S M hJ hr;refine wpIn_seq (wpIn_mono (h cO a w T S M hJ hr) ?_);rintro e a' w' ⟨i',s',T',S',M',iM,r,q⟩;cases e with
 |normal=>exact q cO a' w' T' S' M' iM r
 |exit id=>exact⟨i',s',T',S',M',iM,r,q⟩
 |goto l=>exact⟨i',s',T',S',M',iM,r,q⟩
 |ret=>exact⟨i',s',T',S',M',iM,r,q⟩
 |panic ch=>exact⟨i',s',T',S',M',iM,r,q⟩
 |outgrown=>exact⟨i',s',T',S',M',iM,r,q⟩
theorem qB {id:Nat}{x:Code}(h:IA c x (dG id Q) i s):IA c (.block id x) Q i s:=by
 intro cO a w T S M hJ hr;refine wpIn_block (wpIn_mono (h cO a w T S M hJ hr) ?_);rintro e a' w' ⟨i',s',T',S',M',iM,r,q⟩;cases e with
 |normal=>exact⟨i',s',T',S',M',iM,r,q⟩
 |exit j6=>
  simp only[dG]at q;simp only[Exit.inBlock];split at q
  ·rw[if_pos (by assumption)];exact⟨i',s',T',S',M',iM,r,q⟩
  ·rw[if_neg (by assumption)];exact⟨i',s',T',S',M',iM,r,q⟩
 |goto l=>exact⟨i',s',T',S',M',iM,r,q⟩
 |ret=>exact⟨i',s',T',S',M',iM,r,q⟩
 |panic ch=>exact⟨i',s',T',S',M',iM,r,q⟩
 |outgrown=>exact⟨i',s',T',S',M',iM,r,q⟩
theorem qz {x:Operand}{t e:Code}(h:lg (s.ev x) λb=>(b=true->IA c t Q i s)/\(b=false->IA c e Q i s)):IA c (.cond x t e) Q i s:=by
 intro cO a w T S M hJ hr;cases hs:s.ev x<;>rw[hs]at h<;>simp only[lg]at h
 obtain⟨g,_,_,hg⟩:=hr.rg;have hv:=hg.ev x;rw[hs]at hv;exact wpIn_cond_split hv.asBool (λhb=>h.1 hb cO a w T S M hJ hr) (λhb=>h.2 hb cO a w T S M hJ hr)
theorem IR.le {P:Program}{T:Nat->Prop}{S:Addr->Prop}{M:MM}{s s':St}{a:Act}{w:World}(h:IR P T S M s a w)(hl:Le s s')(hn:s'.named):IR P T S M s' a w:=by
 obtain⟨lt,g,e1,e2,hg⟩:=h;exact⟨lt,_,by rw[<-e1],by rw[<-e2],hg.le hl hn (cv _)⟩
theorem Gy {body:Code}{ι:Type}{n:Nat}(l:ι->List (Nat×D))(ix:ι->Ix)(p:ι->Prop)(μ:ι->Nat)(hn:∀j,p j->((l j).all λq=>dA 0 0 q.2)=true)
  (j0:ι)(h0:p j0)(hi:ix j0=i)(hle:Le s (dD n (l j0) [] []))
  (round:∀j,p j->IA c body (dE (λi' s'=>∃j',p j'/\μ j' < μ j/\ix j'=i'/\Le s' (dD n (l j') [] [])) Q) (ix j) ⟨n,(l j).foldr (λp f=>put f p.1 p.2) eC,[],[]⟩):IA c (.loop body) Q i s:=by
 intro cO a w T S M hJ hr;subst hi;have eT:∀j,p j->(dD n (l j) [] []).named:=λj hj=>gT (hn j hj) rfl;refine CA (λj a w=>p j/\∃T S M,JX c.J c.Jx (ix j) T S M w/\IR c.P T S M (dD n (l j) [] []) a w) μ (λj a w ⟨hp,T,S,M,hJ,hr⟩=> ?_) j0 ⟨h0,T,S,M,hJ,hr.le hle (eT j0 h0)⟩;refine wpIn_mono (round j hp cO a w T S M hJ hr) ?_;rintro e a' w' ⟨i',s',T',S',M',iM,r,q⟩;cases e with
 |normal=>
  obtain⟨j',hj,aU,rfl,hl⟩:=q;exact⟨j',⟨hj,T',S',M',iM,r.le hl (eT j' hj)⟩,aU⟩
 |exit id=>exact⟨i',s',T',S',M',iM,r,q⟩
 |goto l=>exact⟨i',s',T',S',M',iM,r,q⟩
 |ret=>exact⟨i',s',T',S',M',iM,r,q⟩
 |panic ch=>exact⟨i',s',T',S',M',iM,r,q⟩
 |outgrown=>exact⟨i',s',T',S',M',iM,r,q⟩
end
theorem pQ {c:Ctx}{ops:Array Oper}{K:St->Prop}{Q:Exit->Act->World->Prop}{rest:List Oper}(hK:∀s a w,R c s a w->K s->wpListIn c.F 0 c.P ops Q rest a w):
  ∀(l:List Oper) (s:St) (a:Act) (w:World),R c s a w->cq c.P ops.toList l s K->wpListIn c.F 0 c.P ops Q (l++rest) a w
 |[],s,a,w,hr,h=>hK s a w hr h
 |o::l,s,a,w,hr,h=>by
  obtain⟨g,hg⟩:=hr;have next:∀{s1:St},c_ c.P o s1 (λs'=>cq c.P ops.toList l s' K)->s1=s->o.wpIn c.F 0 c.P a w (wpListIn c.F 0 c.P ops Q (l++rest)) Q:=λbD e=>by
   subst e;refine gK (sL bD) ?_;exact Oper.wp_mono (λa' w' ⟨s',cH,fS⟩=>pQ hK l s' a' w' cH fS) (ru hg bD)
  unfold cq at h;show wpListIn c.F 0 c.P ops Q (o::(l++rest)) a w;unfold wpListIn;split at h
  ·rename_i cK;rw[if_pos (by simp[d_,cK])];exact next h rfl
  ·rename_i j want cK;obtain⟨t,ht,h⟩:=cE h;cases hb:s.sl t<;>rw[hb]at h<;>simp only[wG]at h
   case skp=>
    have hy:=R.v7 hg ht hb;rw[if_neg (by simp[d_,cK,hy])];exact⟨λ_ _=>trivial,pQ hK l _ _ _ ⟨g,hg.put h.1 (.skp _)⟩ h.2⟩
   rename_i b;have hy:=R.yielded hg ht hb;by_cases e_:b=want
   ·subst e_;rw[if_pos (by simp[d_,cK,hy])];exact next (h.1 rfl) (nL hb)
   ·have nh:b= !want:=by cases b<;>cases want<;>simp_all
    rw[if_neg (by simp[d_,cK,hy,e_])];obtain⟨hd,h2⟩:=h.2 nh;rw[<-nh,nL hb]at h2;exact⟨λ_ _=>trivial,pQ hK l _ _ _ ⟨g,hg.put hd (.skp _)⟩ h2⟩
theorem abd {c:IC}{Q:Exit->Ix->St->Prop}{s:St}{k id:Nat}{l1 l2:List Oper}{fx x:Operand}{dst:Option Tmp}{at_:Array TypeId}{ty:TypeId}{pos:String}{aft:Array Edge}
  (h:∀K1:St->Prop,(∀s1 d,s1.ev fx= .val (.func (.yield c.l) #[] #[])->gJ s1.bx s1.rw [s1.ev x]=some d->c.xs[k]? =some d->bp s1 dst->
    (∀b:Bool,cq c.P (l1++⟨dst, .call ⟨.value fx,#[x],at_⟩,ty,pos,aft,none⟩::l2) l2 (s1.put dst (.bool b)) (λs2=>Q .normal (b,k + 1) s2))->K1 s1)->
   cq c.P (l1++⟨dst, .call ⟨.value fx,#[x],at_⟩,ty,pos,aft,none⟩::l2) l1 s K1):
  IA c (.region id (l1++⟨dst, .call ⟨.value fx,#[x],at_⟩,ty,pos,aft,none⟩::l2).toArray false) Q (true,k) s:=by
 intro cO a w T S M hJ ⟨lt,g,e1,e2,hg⟩;obtain⟨y,hy⟩:∃y:Oper,y=⟨dst, .call ⟨.value fx,#[x],at_⟩,ty,pos,aft,none⟩:=⟨_,rfl⟩;rw[<-hy]at h⊢;refine wpIn_region_lit ?_;have qU:=h (λs1=>∃d,s1.ev fx= .val (.func (.yield c.l) #[] #[])/\gJ s1.bx s1.rw [s1.ev x]=some d/\c.xs[k]? =some d/\bp s1 dst/\
   ∀b:Bool,cq c.P (l1++y::l2) l2 (s1.put dst (.bool b)) (λs2=>Q .normal (b,k + 1) s2)) (λs1 d h1 h2 h3 h4 h6=>⟨d,h1,h2,h3,h4,h6⟩)
 refine pQ (c:=⟨c.P,w,S,M,none,λb=>T b\/w.heap.size<=b,[]⟩) (λs1 a1 w1 hH ba=> ?_) l1 s a w ⟨g,hg⟩ qU;obtain⟨g1,bM⟩:=hH;obtain⟨d,h1,h2,h3,h4,h6⟩:=ba;obtain⟨T1,hi,hr⟩:=IR.next lt bM;have HB:=cO.ab (true,k) _ _ _ _ _ _ _ _ hJ hi;have r5:=bM.ev fx;rw[h1]at r5;generalize hv:a1.eval fx=vf at r5;cases r5;obtain⟨q1,q2⟩:=vY h2;have hY:=cO.rd k T1 g1.S g1.M w1 [a1.eval x] d h3 HB (by rw[q1];rfl) (λq dd hq=>by
  obtain⟨z,hz,hp⟩:=q2 q dd hq;have qM:q=0:=by have:=(bm.1 hz).1;simp at this;exact this
  subst qM;simp at hz;subst hz;exact rC bM (bM.ev x) hp)
 obtain⟨fn,tmps,assign,body,bg,GV⟩:=hY;show wpListIn eO 0 c.P _ _ (y::l2) a1 w1;unfold wpListIn;rw[if_pos (by rw[hy];simp[d_])];refine⟨λ_ _=>trivial, ?_⟩;have GS:(y.semAt eO.round a1.eval).run c.P w1= .ok (.round c.l fn tmps assign body) w1:=by
  rw[Oper.semAt_eq _ _ _ (by rw[hy];intro cl h;cases h),hy];simp[execOp,resolve,hv,Deferred.ofValue,invoke,bg]
 rw[GS,Oper.uponIn_round];refine⟨λh=>(by cases h),GV.mono ?_⟩;rintro e w2 ⟨S2,M2,hf,mX⟩;have eR:=hr.round hf;have fin:∀b:Bool,JX c.J c.Jx (b,k + 1) T1 S2 M2 w2->wpListIn eO 0 c.P (l1++y::l2).toArray (λe a' w'=>∃i' s' T' S' M',JX c.J c.Jx i' T' S' M' w'/\IR c.P T' S' M' s' a' w'/\Q e i' s') l2 (a1.put y.dst (.bool b)) w2:=by
  intro b n6;obtain⟨Gd,g2,f1,f2,fy⟩:=eR;have jN:RG ⟨c.P,w2,S2,M2,none,λb=>T1 b\/w2.heap.size<=b,[]⟩ (s1.put dst (.bool b)) (a1.put dst (.bool b)) w2 g2:=fy.put h4 (.bool _ _);have oQ:y.dst=dst:=by rw[hy]
  rw[oQ];refine n9 (c:=⟨c.P,w2,S2,M2,none,λb=>T1 b\/w2.heap.size<=b,[]⟩) (K:=λs2=>Q .normal (b,k + 1) s2) (λs3 a3 w3 kz mZ=> ?_) l2 _ _ _ ⟨g2,jN⟩ (h6 b);obtain⟨g3,dW⟩:=kz;obtain⟨T3,yN,GY⟩:=IR.next Gd dW;exact⟨(b,k + 1),s3,T3,_,_,cO.ab (b,k + 1) _ _ _ _ _ _ _ _ n6 yN,GY,mZ⟩
 rcases mX with⟨rfl,n6⟩|⟨rfl,n6⟩
 ·exact fin true n6
 ·exact fin false n6
def XQ (n:Nat)(rs:Array ResultVar):Exit->Ix->St->Prop
 | .normal,i,_=>(i.1=true->i.2=n)/\rs=#[]
 | .ret,i,_=>(i.1=true->i.2=n)/\rs=#[]
 |_,_,_=>False
theorem Gu {P:Program}{f:FuncId}{fn:Func}{code:Code}{cs:List D}{xs:List (List D)}{n:Nat}{rs:Array ResultVar}(hf:P.funcs[f]? =some fn)(hn:fn.ntmps=n)(hr:fn.results=rs)
  (hc:∀(args:Array Value) (w:World),(callFunc f args).run P w= .ok (.enter f args) w)(hb:fn.body=some code)(hl:cs.length + 1<=n)
  (h:∀(l:Nat) (J Jx:Nat->Inv),IA ⟨P,l,xs,J,Jx⟩ code (XQ xs.length rs) (true,0) ⟨n,oK 0 (.val (.func (.yield l) #[] #[])::cs),[],[]⟩):Iter P f cs xs:=by
 subst hn;subst hr
 refine⟨hc,λS M w lb Hy hS hM DG b9 l J Jx hJa acr hY hJ0=> ?_⟩;refine(callsIn_wide (n:=0)).1 (callsIn_of_wp_marks hf hb trivial ?_);have cO:IC.Ok ⟨P,l,xs,J,Jx⟩:=⟨λi=>by obtain⟨b,k⟩:=i;cases b;exact acr k;exact hJa k,hY⟩
 let args:Array Value:=(zB (.yield l) #[] #[]::lb).toArray
 have hw:=h l J Jx cO {tmps:=args++kq (fn.ntmps - args.size) undef,defers:=[]} w (λ_=>False) S M hJ0
  ⟨λb h=>h.elim,⟨S,[],[],M⟩,rfl,rfl,⟨⟨⟨vt,λd hd=>by cases hd⟩,hM,λ_ _ h=>h,λ_ _ h=> .inl h,λi b h=>by simp at h,λ_ _=>rfl,⟨Hy,λb vs hv hm=>hm.elim (λhm=>hm.elim (λh=>h.elim) (λhl=>absurd (Hy.lt b vs hv) (Nat.not_lt.2 hl))) (λhm=>hm (Hy.rH hM b vs hv))⟩⟩,by simp[args];omega, .of (oD _ _),λ_ h=> .inr h,hS,λ_ h=> .inl h,λ_ h=>h,hS,rfl,rfl,λm=> ?_,λi cs hi=>by simp at hi,λi cs hi=>by simp at hi,λi cs hi=>by simp at hi,⟨λ_=> .inl 0,λi x b hi=>by simp at hi,λr row v gb hr=>by simp at hr⟩,λi es hi=>by simp at hi⟩⟩
 ·refine wpIn_mono (F:=eO) hw ?_;rintro e a' w' ⟨i',s',T',S',M',iM,⟨lt,g,rfl,rfl,hg⟩,hq⟩;have fin:(i'.1=true->i'.2=xs.length)->fn.results=#[]->LeavesInM eO 0 P fn a'.tmps (λe w'=>(∃v,e= .returned v)/\∃T S' M',J xs.length T S' M' w'\/∃k,Jx k T S' M' w') a'.defers .returning w':=λhi mX=>by
   refine Dd (c:=⟨P,w',g.S,g.M,none,λb=>T' b\/w'.heap.size<=b,[]⟩) (s:=s') (g:=g) (ds:=[]) a'.defers a' w' hg rfl (by rw[mX];rfl) (λv MZ hr _=> ?_);obtain⟨T'',k5,_⟩:=IR.next lt hr;have n6:=cO.ab i' _ _ _ _ _ _ _ _ iM k5;refine⟨⟨v,rfl⟩,T'',g.S,g.M, ?_⟩;obtain⟨b,k⟩:=i';cases b with
   |true=>
    have hk:k=xs.length:=hi rfl;subst hk;exact .inl n6
   |false=>exact .inr ⟨k,n6⟩
  cases e<;>first|exact fin hq.1 hq.2|exact hq.elim
 ·simp only;rw[yu];simp only[Nat.not_lt_zero,if_false,Nat.sub_zero];have e:(args++kq (fn.ntmps - args.size) undef).getD m undef=(zB (.yield l) #[] #[]::lb).getD m undef:=by
   simp only[args,Array.getD_eq_getD_getElem?,List.getD_eq_getElem?_getD];rw[Array.getElem?_append];split
   ·simp
   ·rename_i hm;rw[List.getElem?_eq_none (by simpa using hm)];simp[Array.getElem?_replicate];split<;>rfl
  rw[e];cases m with
  |zero=>exact .val _ _
  |succ m=>
   simp only[List.getElem?_cons_succ,List.getD_cons_succ];cases hd:cs[m]? with
   |none=>exact .undef _ _
   |some x=>exact b9 m x hd
end Go.Ab
namespace Go.Ab
theorem abc {c:IC}{Q:Exit->Ix->St->Prop}{s:St}{k id:Nat}{l:List Oper}(n:Nat){fx x:Operand}{dst:Option Tmp}{at_:Array TypeId}{ty:TypeId}{pos:String}{aft:Array Edge}
  (hl:l=l.take n++⟨dst, .call ⟨.value fx,#[x],at_⟩,ty,pos,aft,none⟩::l.drop (n + 1))
  (h:∀K1:St->Prop,(∀s1 d,s1.ev fx= .val (.func (.yield c.l) #[] #[])->gJ s1.bx s1.rw [s1.ev x]=some d->c.xs[k]? =some d->bp s1 dst->
    (∀b:Bool,cq c.P l (l.drop (n + 1)) (s1.put dst (.bool b)) (λs2=>Q .normal (b,k + 1) s2))->K1 s1)->
   cq c.P l (l.take n) s K1):
  IA c (.region id l.toArray false) Q (true,k) s:=by
 have h2:=abd (c:=c) (Q:=Q) (s:=s) (k:=k) (id:=id) (l1:=l.take n) (l2:=l.drop (n + 1)) (fx:=fx) (x:=x) (dst:=dst) (at_:=at_) (ty:=ty) (pos:=pos) (aft:=aft);rw[<-hl]at h2;exact h2 h
end Go.Ab
namespace Go.Ab
section
variable {P:Program} {b:Frame} {a:Act} {k:List Item} {cs:List Frame} {w:World} {F:Fence} {n:Nat} {Q:Exit->Act->World->Prop}
theorem yg {c:Code}:step P (lone (b.atR a (.code (.scope c)::k)) cs w)= .next (lone (b.atR a (.code c:: .inScope c::k)) cs w):=
 step_lone_go (by simp[stepG,stepG.exec,Frame.atR])
theorem V_ {c:Code}:step P (lone (b.atR a (.inScope c::k)) cs w)= .next (lone (b.atR a k) cs w):=
 step_lone_go (by simp[stepG,stepG.exec,Frame.atR])
theorem Jh {c:Code}(h:c.wpIn F n P (Exit.noGoto Q) a w):(Code.scope c).wpIn F n P Q a w:=by
 intro b k cs wy hb hr;have h0:(lone (b.atR a (.code (.scope c)::k)) cs w).fenced P F:=fenced_calm hb hr rfl;obtain⟨e,a₁,w₁,hq,nj⟩:=h b (.inScope c::k) cs wy hb hr;cases e with
 |normal=>exact⟨.normal,a₁,w₁,hq, .head h0 yg (StepsIn.trans nj (.one (fenced_calm hb hr rfl) V_))⟩
 |exit j6=>
  have hx:exitTo j6 (.inScope c::k)=exitTo j6 k:=by simp[exitTo]
  exact⟨.exit j6,a₁,w₁,hq,λk' hk=> .head h0 yg (nj.1 k' (by rw[hx];exact hk)),
   λcH hk=>let⟨k₁,h1,h2⟩:=nj.2 cH (by rw[hx];exact hk);⟨k₁,h1, .head h0 yg h2⟩⟩
 |goto l=>exact hq.elim
 |ret=>exact⟨_,a₁,w₁,hq, .of_steps (.one h0 yg) nj⟩
 |panic ch=>exact⟨_,a₁,w₁,hq, .of_steps (.one h0 yg) nj⟩
 |outgrown=>exact⟨_,a₁,w₁,hq, .of_steps (.one h0 yg) nj⟩
end
def ji (Q:Exit->Ix->St->Prop):Exit->Ix->St->Prop
 | .goto _,_,_=>False
 |e,i,s=>Q e i s
theorem qw {c:IC}{Q:Exit->Ix->St->Prop}{i:Ix}{s:St}{x:Code}(h:IA c x (ji Q) i s):IA c (.scope x) Q i s:=by
 intro cO a w T S M hJ hr;refine Jh (wpIn_mono (h cO a w T S M hJ hr) ?_);rintro e a' w' ⟨i',s',T',S',M',iM,r,q⟩;cases e<;>first|exact⟨i',s',T',S',M',iM,r,q⟩|exact q.elim
theorem qy {c:IC}{Q:Exit->Ix->St->Prop}{i:Ix}{s:St}{l:Nat}(h:Q .normal i s):IA c (.label l) Q i s:=λ_ a w T S M hJ hr=>wpIn_label ⟨i,s,T,S,M,hJ,hr,h⟩
end Go.Ab
