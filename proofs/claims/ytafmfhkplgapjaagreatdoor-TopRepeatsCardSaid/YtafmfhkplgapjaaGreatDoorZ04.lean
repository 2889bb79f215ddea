import Derived.Test.YtafmfhkplgapjaaGreatDoorZ03
import Derived.ChangeKeysEq
import Derived.Scope
import Derived.RecoverIn
set_option linter.unusedVariables false
set_option linter.unusedSimpArgs false
open Array renaming any_eq_true'->O7,getElem?_eq_some_iff->bt,replicate->gW
open Go.RowKit.Below renaming refl->oW
open Bool renaming and_eq_true->c_,false_eq_true->bK,or_eq_true->qI
open Go.Fence renaming wide->cE
open Go renaming undef->bp
open Go.Instr renaming checkKey->FN,findNow->FI,sameNow->OT
open List renaming all_eq_true->iD,contains_iff_mem->Jy,getElem?_append_left->bQ,getElem?_eq_getElem->bS,getElem?_eq_none->pM,getElem?_eq_some_iff->aQ,getElem?_map->cO,getElem?_set_ne->gj,getElem?_set_self->jg,length_set->Cm,mem_cons->eK,mem_cons_of_mem->dW,mem_cons_self->dI,mem_of_getElem?->ey,mem_range->oR,nodup_nil->uK,range->ct,set_append_left->alG
open Nat renaming le_refl->aY,le_trans->fu,lt_of_lt_of_le->uJ,lt_or_ge->ft,zero_le->bD
open Option renaming isSome_iff_exists->xV,map_eq_some_iff->cv
open Go.Region renaming binds->gV,lexFrom->Fo,ready->rq,wanted->eh
open Go.Result renaming andThen_ok->sr
open Go.Sem renaming run_bind->pL,run_pure->uI
open Go.Value renaming func->tv,ownBlock->je
open Go.World renaming alloc_heap_new->zK,cell?_of_block->pJ,putObj_heap_other->j7,putObj_heap_same->I5
section
namespace Go.Ab
open Go.RowKit
structure OU (T:Nat->Prop)(S:Addr->Prop)(M:MM)(W:World)(T':Nat->Prop)(S':Addr->Prop)(M':MM)(W':World):Prop where
 below:oV (λk=>T k\/M k≠none) W.heap.size W W'
 t1:∀b,T' b->T b\/W.heap.size<=b
 t2:∀b,T' b->b < W'.heap.size/\M' b=none
 s1:∀x,S x->S' x
 s2:∀x,S' x->S x\/T x.block\/W.heap.size<=x.block
 cell:∀x,S x->W'.cell? x=W.cell? x
 m1:∀b f,M b=some f->M' b=some f
 m2:∀b f,M' b=some f->M b=some f\/W.heap.size<=b
 bO:jf W' M'
 ba:Good W' S'
structure wg (T:Nat->Prop)(S:Addr->Prop)(M:MM)(W:World)(S':Addr->Prop)(M':MM)(W':World):Prop where
 os:W'.os=W.os
 tape:W'.tape=W.tape
 output:W'.output=W.output
 size:W.heap.size<=W'.heap.size
 t:∀b,T b->W'.heap[b]? =W.heap[b]?
 cell:∀x,S x->W'.cell? x=W.cell? x
 s1:∀x,S x->S' x
 s3:∀x,S' x->T x.block->S x
 tb:lG W->lG W'
 m1:∀b f,M b=some f->M' b=some f
 m3:∀b,T b->M' b=none
 bO:jf W' M'
 ba:Good W' S'
abbrev Inv:=(Nat->Prop)->(Addr->Prop)->MM->World->Prop
def Abides (J:Inv):Prop:=∀T S M W T' S' M' W',J T S M W->OU T S M W T' S' M' W'->J T' S' M' W'
def Iter (P:Program)(gf:FuncId)(cs:List D)(xs:List (List D)):Prop:=
 (∀(args:Array Value) (w:World),(callFunc gf args).run P w= .ok (.enter gf args) w)/\
 ∀(S:Addr->Prop) (M:MM) (w:World) (lb:List Value),lG w->Good w S->jf w M->lb.length=cs.length->(∀q x,cs[q]? =some x->Rel w ⟨S,[],[],M⟩ (lb.getD q bp) x)->
  ∀(l:Nat) (J Jx:Nat->Inv),(∀k,Abides (J k))->(∀k,Abides (Jx k))->
   (∀k T S M W (args:List Value) x,xs[k]? =some x->J k T S M W->args.length=x.length->(∀q d,x[q]? =some d->Rel W ⟨S,[],[],M⟩ (args.getD q bp) d)->
    YieldAt cE 0 P l args.toArray W λe W'=>∃S' M',wg T S M W S' M' W'/\((e= .returned (.bool true)/\J (k + 1) T S' M' W')\/(e= .returned (.bool false)/\Jx (k + 1) T S' M' W')))->
   J 0 (λ_=>False) S M w->
   Calls P gf (tv (.yield l) #[] #[]::lb).toArray w λe w'=>(∃v,e= .returned v)/\∃T S' M',J xs.length T S' M' w'\/∃k,Jx k T S' M' w'
section
variable {c:Ctx} {s:St} {a:Act} {w:World} {g:Gh}
structure Ac (T:Nat->Prop)(s:St)(a:Act)(w:World)(g:Gh):Prop where
 bx:∀(i:Nat) (x:Bx) (b:Nat),s.bx[i]? =some x->x.live=true->g.β[i]? =some b->¬T b
 rw:∀(r:Nat) (row:Row) (v:Value) (gb:Nat),s.rw[r]? =some row->row.live=true->g.ρ[r]? =some v->v.ownBlock=some gb->¬T gb
 df:∀d∈a.defers,∀D,d.target= .collected D->¬T D
 lt:∀b,T b->b < w.heap.size/\g.M b=none/\c.w0.heap.size<=b
theorem RG.S9 {T T':Nat->Prop}{S':Addr->Prop}{M':MM}{w':World}(h:RG c s a w g)(hf:Ac (c:=c) T s a w g)(hg:OU T g.S g.M w T' S' M' w'):
  RG c s a w' ⟨S',g.β,g.ρ,M'⟩/\Ac (c:=c) T' s a w' ⟨S',g.β,g.ρ,M'⟩:=by
 have aR:c.w0.heap.size<=w.heap.size:=h.below.size;have hM:=h.df.bO;have im:∀b,b < w.heap.size->¬T b->g.M b=none->w'.heap[b]? =w.heap[b]? :=λb hb ht hm=>hg.below.block b hb (λh=>h.elim ht (λh=>h hm));have aw:∀(b:Nat) (cs:Array Value) (t:TypeId) (fz:Nat×Nat),¬T b->w.heap[b]? =some (.cells cs t fz)->w'.heap[b]? =some (.cells cs t fz):=λb cs t fz ht hb=>
  (im b (bt.1 hb).1 ht (hM.ve hb)).trans hb
 have eX:∀x,g.S x->w'.cell? x=w.cell? x:=hg.cell;have k:fL w g w' ⟨S',g.β,g.ρ,M'⟩:=⟨eX,hg.s1,λ_ _ h=>h,λ_ _ h=>h,hg.m1⟩;have A8:∀x,S' x->∀b,b < w.heap.size->¬T b->x.block=b->g.S x:=λx hx b hb ht e=>by
  rcases hg.s2 x hx with h|h|h
  ·exact h
  ·exact absurd (e▸h) ht
  ·omega
 refine⟨⟨⟨⟨h.df.cN.1,λd hd=> ?_⟩,hg.bO,λb f hb=>hg.m1 b f (h.df.m0 b f hb),λb f hb=> ?_,h.df.gD,λx hx=>(eX x (h.S0 x hx)).trans (h.df.jA x hx),h.df.fD⟩,h.sz,
  h.below.trans hg.below aR (λi hi hn=> ?_),h.cu,hg.ba,λx hx=> ?_,λx hx=>hg.s1 x (h.S0 x hx),h.fJ,h.lβ,h.lρ,λn=>(h.sl n).aZ k, ?_, ?_, ?_,h.ap,λi es hi=>by
   obtain⟨b,hm⟩:=h.mp i es hi;refine⟨b, ?_⟩;refine hm.aZ k (im b hm.lt (hf.bx i _ b hi rfl hm.β) hm.nm) ?_;cases xf:M' b with
   |none=>exact xf
   |some f=>
    rcases hg.m2 b f xf with h5|h5
    ·rw[hm.nm]at h5;cases h5
    ·exact absurd hm.lt (Nat.not_lt_of_le h5)⟩, ?_⟩
 ·obtain⟨D,hB,rfl,hD⟩:=h.df.cN.2 d hd;exact⟨D,hB,rfl,(im D (bt.1 hD).1 (hf.df _ hd D rfl) (hM.wO hD)).trans hD⟩
 ·rcases hg.m2 b f hb with hb|hb
  ·exact h.df.gw b f hb
  ·exact .inr (fu aR hb)
 ·rcases hn with hn|hn
  ·exact .inl (h.cu i (hf.lt i hn).2.2)
  ·cases hm:g.M i with
   |none=>exact(hn hm).elim
   |some f=>
         rcases h.df.gw i f hm with h1|h1
         ·exact .inr (by rw[h1];simp)
         ·omega
 ·rcases hg.s2 x hx with hx|hx|hx
  ·exact h.en x hx
  ·exact .inr (h.cu _ (hf.lt _ hx).2.2)
  ·exact .inr (h.cu _ (fu aR hx))
 ·intro i cs hi;obtain⟨b,vs,t,e1,e2,e3,e4,e5,e6⟩:=(h.bx i cs hi).ex;have aG:b < w.heap.size:=(bt.1 e2).1;have ht:=hf.bx i _ b hi rfl e1;exact⟨b,vs,t,e1,aw _ _ _ _ ht e2,e3.aZ k,e4,λ_ x hx e=>e5 rfl x (A8 x hx b aG ht e) e,λh=>by cases h⟩
 ·intro i cs hi;obtain⟨b,vs,t,e1,e2,e3,e4,e5,e6⟩:=(h.fz i cs hi).ex;have ht:=hf.bx i _ b hi rfl e1;exact⟨b,vs,t,e1,aw _ _ _ _ ht e2,e3.aZ k.er,e4,(λh=>by cases h),λ_ q hq=>hg.s1 _ (e6 rfl q hq)⟩
 ·intro r row hr;obtain⟨v,e1,e2,e3⟩:=(h.rw r row hr).ex;refine⟨v,e1,e2.aZ k,λhl=> ?_⟩;obtain⟨⟨vals,bI⟩,bf,hS⟩:=e3 hl;refine⟨⟨vals,bI.1, ?_⟩,bf,λgb aI=>⟨(hS gb aI).1,λx hx iQ=> ?_⟩⟩
  ·rcases bI.2 with hn|⟨g2,cap,cur,rfl,fk,fH,rest⟩
   ·exact .inl hn
   ·exact .inr ⟨g2,cap,cur,rfl,fk,aw _ _ _ _ (hf.rw r row _ g2 hr hl e1 rfl) fH,rest⟩
  ·exact(hS gb aI).2 x (A8 x hx gb (bI.lt gb aI).2 (hf.rw r row v gb hr hl e1 aI) iQ) iQ
 ·refine⟨λi x b hi hx hb ht=> ?_,λr row v gb hr hl hv aI ht=> ?_,λd hd D hD ht=> ?_,λb hb=>⟨(hg.t2 b hb).1,(hg.t2 b hb).2, ?_⟩⟩
  ·rcases hg.t1 b ht with h1|h1
   ·exact hf.bx i x b hi hx hb h1
   ·have:=(h.rk hi hx hb).1;omega
  ·rcases hg.t1 gb ht with h1|h1
   ·exact hf.rw r row v gb hr hl hv aI h1
   ·have:=(h.pU hr hl hv aI).1;omega
  ·rcases hg.t1 D ht with h1|h1
   ·exact hf.df d hd D hD h1
   ·obtain⟨D',_,rfl,kX⟩:=h.df.cN.2 d hd;cases hD;have:=(bt.1 kX).1;omega
  ·rcases hg.t1 b hb with h1|h1
   ·exact(hf.lt b h1).2.2
   ·omega
end
end Go.Ab
end
section
namespace Go.Ab
open Go.RowKit
structure mI (p:Nat->Prop)(W:World)(g:Gh)(W':World)(g':Gh):Prop where
 below:oV (λk=>p k\/g.M k≠none) W.heap.size W W'
 kp:∀x,g.S x->W'.cell? x=W.cell? x
 s1:∀x,g.S x->g'.S x
 s2:∀x,g'.S x->g.S x\/p x.block
 m1:∀b f,g.M b=some f->g'.M b=some f
 m2:∀b f,g'.M b=some f->g.M b=some f\/W.heap.size<=b
theorem mI.trans {p:Nat->Prop}{A B C:World}{g1 g2 g3:Gh}(h:mI p A g1 B g2)(k:mI p B g2 C g3)(hp:∀b,A.heap.size<=b->p b):mI p A g1 C g3 where
 below:=h.below.trans k.below h.below.size (λi hi hn=>hn.elim .inl (λhn=>by
  cases hm:g2.M i with
  |none=>exact(hn hm).elim
  |some f=>
        rcases h.m2 i f hm with h1|h1
        ·exact .inr (by rw[h1];simp)
        ·exact .inl (hp i h1)))
 kp x hx:=(k.kp x (h.s1 x hx)).trans (h.kp x hx)
 s1 x hx:=k.s1 x (h.s1 x hx)
 s2 x hx:=by
  rcases k.s2 x hx with h1|h1
  ·exact h.s2 x h1
  ·exact .inr h1
 m1 b f hb:=k.m1 b f (h.m1 b f hb)
 m2 b f hb:=by
  rcases k.m2 b f hb with h1|h1
  ·exact h.m2 b f h1
  ·exact .inr (fu h.below.size h1)
section
variable {c c2:Ctx} {s s2 st:St} {a a2:Act} {w W W2:World} {g g2:Gh}
theorem RG.later (h:RG c2 s2 a2 W2 g2)(hw:c2.w0=W)(hS:c2.S0=g.S)(hM:c2.M0=g.M){p:Nat->Prop}(hp:∀b,c2.own b->p b):mI p W g W2 g2:=by
 subst hw;refine⟨⟨h.below.os,h.below.tape,h.below.output,h.below.size,λk hk hn=>h.below.block k hk (λhm=>hn (hm.elim (λh=> .inl (hp k h)) (λh=> .inr (by rw[<-hM];exact h))))⟩,
  λx hx=>h.df.jA x (hS▸hx),λx hx=>h.S0 x (hS▸hx),λx hx=> ?_,λb f hb=>h.df.m0 b f (hM▸hb),λb f hb=> ?_⟩
 ·rcases h.en x hx with h1|h1
  ·exact .inl (hS▸h1)
  ·exact .inr (hp _ h1)
 ·rcases h.df.gw b f hb with h1|h1
  ·exact .inl (hM▸h1)
  ·exact .inr h1
theorem RG.back (h:RG c st a W g)(h2:RG c2 s2 a2 W2 g2){p:Nat->Prop}(hl:mI p W g W2 g2)(hp:∀b,p b->c.own b)(jo:∀b,c2.own b->c.own b)(gD:∀(i b:Nat),g.β[i]? =some b->g2.β[i]? =some b)
  (ed:∀m,Names st.bx.length 0 (st.sl m))(hD:∀d∈a.defers,∀D,d.target= .collected D->¬p D):RG c ⟨st.n,st.sl,s2.bx,s2.rw⟩ a W2 g2:=by
 have aR:c.w0.heap.size<=W.heap.size:=h.below.size;have k:fL W ⟨g.S,g.β.take st.bx.length,g.ρ.take 0,g.M⟩ W2 g2:=⟨hl.kp,hl.s1,λi b hi=>gD i b (by
  rw[List.getElem?_take]at hi;split at hi
  ·exact hi
  ·cases hi),λi b hi=>by simp at hi,hl.m1⟩
 refine⟨⟨⟨h.df.cN.1,λd hd=> ?_⟩,h2.df.bO,λb f hb=>hl.m1 b f (h.df.m0 b f hb),λb f hb=> ?_,λi b hb=>gD i b (h.df.gD i b hb),λx hx=>(hl.kp x (h.S0 x hx)).trans (h.df.jA x hx),h.df.fD⟩,h.sz,
  h.below.trans hl.below aR (λi hi hn=> ?_),h.cu,h2.ba,λx hx=> ?_,λx hx=>hl.s1 x (h.S0 x hx),h.fJ,h2.lβ,h2.lρ,λn=>((h.sl n).cut (ed n)).aZ k,λi cs hi=> ?_,λi cs hi=> ?_,λr row hr=> ?_,h2.ap,λi es hi=>(h2.mp i es hi).imp λb hm=>hm.ctx (jo b hm.own)⟩
 ·obtain⟨D,hB,rfl,dN⟩:=h.df.cN.2 d hd;refine⟨D,hB,rfl,(hl.below.block D (bt.1 dN).1 (λhn=>hn.elim (hD _ hd D rfl) (λhn=>hn (h.df.bO.wO dN)))).trans dN⟩
 ·rcases hl.m2 b f hb with hb|hb
  ·exact h.df.gw b f hb
  ·exact .inr (fu aR hb)
 ·rcases hn with hn|hn
  ·exact .inl (hp i hn)
  ·cases hm:g.M i with
   |none=>exact(hn hm).elim
   |some f=>
         rcases h.df.gw i f hm with h1|h1
         ·exact .inr (by rw[h1];simp)
         ·omega
 ·rcases hl.s2 x hx with hx|hx
  ·exact h.en x hx
  ·exact .inr (hp _ hx)
 ·obtain⟨b,vs,t,e1,e2,e3,e4,e5⟩:=(h2.bx i cs hi).ex;exact⟨b,vs,t,e1,e2,e3,jo b e4,e5⟩
 ·obtain⟨b,vs,t,e1,e2,e3,e4,e5⟩:=(h2.fz i cs hi).ex;exact⟨b,vs,t,e1,e2,e3,jo b e4,e5⟩
 ·obtain⟨v,e1,e2,e3⟩:=(h2.rw r row hr).ex;refine⟨v,e1,e2,λhl=> ?_⟩;obtain⟨h1,h2,h3⟩:=e3 hl;exact⟨h1,h2,λgb aI=>⟨jo gb (h3 gb aI).1,(h3 gb aI).2⟩⟩
def nN:List Tmp->List D->(Nat->D)->(Nat->D)
 |p::ps,d::ds,sl=>nN ps ds (put sl p d)
 |_,_,sl=>sl
theorem GR:∀(ps:List Tmp) (ds:List D) (vs:List Value) (sl:Nat->D) (tmps:Array Value),vs.length=ds.length->(∀q d,ds[q]? =some d->Rel w g (vs.getD q bp) d)->(∀p∈ps,p < tmps.size)->
  (∀m,Rel w g (tmps.getD m bp) (sl m))->((ps.zip vs).foldl (λt (p,v)=>t.setIfInBounds p v) tmps).size=tmps.size/\
   ∀m,Rel w g (((ps.zip vs).foldl (λt (p,v)=>t.setIfInBounds p v) tmps).getD m bp) (nN ps ds sl m)
 |[],ds,vs,sl,tmps,_,_,_,h=>by simpa[nN]using h
 |p::ps,[],vs,sl,tmps,hl,_,_,h=>by
  have:vs=[]:=List.length_eq_zero_iff.1 hl;subst this;simpa[nN]using h
 |p::ps,d::ds,[],sl,tmps,hl,_,_,h=>by simp at hl
 |p::ps,d::ds,v::vs,sl,tmps,hl,hr,hp,h=>by
  have ih:=GR ps ds vs (put sl p d) (tmps.setIfInBounds p v) (by simpa using hl) (λq d hd=>by have:=hr (q + 1) d (by simpa using hd);simpa using this)
   (λq hq=>by simpa using hp q (dW _ hq)) (λm=>by
    simp only[put];by_cases hm:m=p
    ·subst hm;rw[if_pos rfl];have h0:=hr 0 d rfl;have aG:=hp m (dI ..);simpa[aG]using h0
    ·rw[if_neg hm];have:=h m;simpa[Array.getElem?_setIfInBounds,Ne.symm hm]using this)
  simp only[List.zip_cons_cons,List.foldl_cons,nN];refine⟨ih.1.trans aO,ih.2⟩
theorem RG.enter {T:Nat->Prop}(h:RG c st a W g)(hf:Ac (c:=c) T st a W g)(l:Option Nat){a':Act}{sl:Nat->D}(hd:a'.defers=[])(hs:a'.tmps.size=a.tmps.size)(ed:∀m,Rel W g (a'.tmps.getD m bp) (sl m)):
  RG ⟨c.P,W,g.S,g.M,l,λb=>W.heap.size<=b\/(c.own b/\¬T b/\dp W b),g.β⟩ ⟨st.n,sl,st.bx,st.rw⟩ a' W g:=by
 refine⟨⟨⟨by rw[hd];exact uK,λd h=>by rw[hd]at h;cases h⟩,h.df.bO,λ_ _ h=>h,λ_ _ h=> .inl h,λ_ _ h=>h,λ_ _=>rfl,h.df.fD.own h.below h.df.bO (λb hb=>hb.elim .inl (λhb=> .inr (.inl hb.1)))⟩,hs.trans h.sz, .of (oW _ _),λ_ h=> .inl h,h.ba,λ_ h=> .inl h,λ_ h=>h,h.ba,h.lβ,h.lρ,ed,λi cs hi=> ?_,λi cs hi=> ?_,λr row hr=> ?_,h.ap,λi es hi=>(h.mp i es hi).imp λb hm=>hm.ctx (.inr ⟨hm.own,hf.bx i _ b hi rfl hm.β,hm.Ea⟩)⟩
 ·obtain⟨b,vs,t,e1,e2,e3,e4,e5⟩:=(h.bx i cs hi).ex;exact⟨b,vs,t,e1,e2,e3, .inr ⟨e4,hf.bx i _ b hi rfl e1, .inl ⟨_,_,_,e2⟩⟩,e5⟩
 ·obtain⟨b,vs,t,e1,e2,e3,e4,e5⟩:=(h.fz i cs hi).ex;exact⟨b,vs,t,e1,e2,e3, .inr ⟨e4,hf.bx i _ b hi rfl e1, .inl ⟨_,_,_,e2⟩⟩,e5⟩
 ·obtain⟨v,e1,e2,e3⟩:=(h.rw r row hr).ex;refine⟨v,e1,e2,λhl=> ?_⟩;obtain⟨h1,h2,h3⟩:=e3 hl;refine⟨h1,h2,λgb aI=>⟨.inr ⟨(h3 gb aI).1,hf.rw r row v gb hr hl e1 aI, ?_⟩,(h3 gb aI).2⟩⟩;obtain⟨vals,bI⟩:=h1;rcases bI.2 with⟨rfl,_⟩|⟨g2,cap,cur,rfl,_,fH,_⟩
  ·simp[je]at aI
  ·simp[je]at aI;subst aI;exact .inl ⟨_,_,_,fH⟩
end
end Go.Ab
end
section
namespace Go.Ab
open Go.RowKit
section
variable {c c2:Ctx} {s s2 st:St} {a a2:Act} {w W W2:World} {g g2:Gh}
theorem RG.KA {w':World}(h:RG c s a w g)(hc:∀(b:Nat) (cs:Array Value) (t:TypeId) (fz:Nat×Nat),w.heap[b]? =some (.cells cs t fz)->w'.heap[b]? =some (.cells cs t fz))
  (hm:∀(b:Nat) (es:Array MapEntry) (cl:Nat),w.heap[b]? =some (.map es cl)->w'.heap[b]? =some (.map es cl))(hd:Cv c.own w' a.defers)(ho:∀b,w'.heap.size<=b->c.own b):
  RG ⟨c.P,w',g.S,g.M,c.l,c.own,c.β0⟩ s a w' g:=by
 have eX:∀x,g.S x->w'.cell? x=w.cell? x:=λx hx=>by
  obtain⟨u,hu⟩:=h.ba x hx;obtain⟨cs,t,fz,hx⟩:=tn hu;exact pJ ((hc _ _ _ _ hx).trans hx.symm)
 have k:fL w g w' g:=⟨eX,λ_ h=>h,λ_ _ h=>h,λ_ _ h=>h,λ_ _ h=>h⟩;have od:Good w' g.S:=λx hx=>by
  obtain⟨u,hu⟩:=h.ba x hx;exact⟨u,(eX x hx).trans hu⟩
 refine⟨⟨hd,λb f hf=> ?_,λ_ _ h=>h,λ_ _ h=> .inl h,h.df.gD,λ_ _=>rfl,⟨λb vs hv=>by obtain⟨t,fz,e⟩:=h.df.fD.at h.below b vs hv;exact⟨t,fz,hc _ _ _ _ e⟩,λb vs hv hm=>hm.elim (λhm=>h.df.fD.no b vs hv (.inl hm)) (λhm=>hm ((h.df.fD.at h.below).tY h.df.bO b vs hv))⟩⟩,h.sz, .of (oW _ _),ho,od,λ_ h=> .inl h,λ_ h=>h,od,h.lβ,h.lρ,λn=>(h.sl n).aZ k, ?_, ?_, ?_,h.ap,λi es hi=>by
  obtain⟨b,h_⟩:=h.mp i es hi;refine⟨b, ?_⟩;obtain⟨ms,cl,h1,_⟩:=h_.ex;have h3:=h_.aZ k ((hm _ _ _ h1).trans h1.symm) h_.nm;exact⟨h3.β,h3.ex,h3.nm,h3.own,h3.lU⟩⟩
 ·obtain⟨es,cl,h1,h2⟩:=h.df.bO b f hf;exact⟨es,cl,hm _ _ _ h1,h2⟩
 ·intro i cs hi;obtain⟨b,vs,t,e1,e2,e3,e4,e5,e6⟩:=(h.bx i cs hi).ex;exact⟨b,vs,t,e1,hc _ _ _ _ e2,e3.aZ k,e4,e5,e6⟩
 ·intro i cs hi;obtain⟨b,vs,t,e1,e2,e3,e4,e5,e6⟩:=(h.fz i cs hi).ex;exact⟨b,vs,t,e1,hc _ _ _ _ e2,e3.aZ k.er,e4,e5,e6⟩
 ·intro r row hr;obtain⟨v,e1,e2,e3⟩:=(h.rw r row hr).ex;refine⟨v,e1,e2.aZ k,λhl=> ?_⟩;obtain⟨⟨vals,bI⟩,bf,hS⟩:=e3 hl;refine⟨⟨vals,bI.1, ?_⟩,bf,hS⟩;rcases bI.2 with hn|⟨g,cap,cur,rfl,hg,fH,rest⟩
  ·exact .inl hn
  ·exact .inr ⟨g,cap,cur,rfl,hg,hc _ _ _ _ fH,rest⟩
theorem GQ {w:World}{L:Nat}{r:Loop}{o:Obj}(hL:w.heap[L]? =some (.loop r)):∀(b:Nat) (cs:Array Value) (t:TypeId) (fz:Nat×Nat),w.heap[b]? =some (.cells cs t fz)->(w.putObj L o).heap[b]? =some (.cells cs t fz):=λb cs t fz hb=>by
 rw[j7 (λe=>by subst e;rw[hb]at hL;cases hL)];exact hb
theorem KB {w:World}{L:Nat}{r:Loop}{o:Obj}(hL:w.heap[L]? =some (.loop r)):∀(b:Nat) (es:Array MapEntry) (cl:Nat),w.heap[b]? =some (.map es cl)->(w.putObj L o).heap[b]? =some (.map es cl):=λb es cl hb=>by
 rw[j7 (λe=>by subst e;rw[hb]at hL;cases hL)];exact hb
theorem Dw {p:Nat->Prop}{L:Nat}{r:Loop}(hS:Good w g.S)(hL:w.heap[L]? =some (.loop r))(hp:p L)(o:Obj):mI p w g (w.putObj L o) g:=by
 have hg:=grownBy_putObj' w L o;refine⟨⟨hg.os,hg.tape,hg.output,hg.size,λk hk hn=>hg.block k hk (λe=>hn (.inl (by cases e;exact hp)))⟩,λx hx=> ?_,λ_ h=>h,λ_ h=> .inl h,λ_ _ h=>h,λ_ _ h=> .inl h⟩;obtain⟨u,hu⟩:=hS x hx;obtain⟨cs,t,fz,hc⟩:=tn hu;exact pJ ((GQ hL _ _ _ _ hc).trans hc.symm)
theorem jf.wN {w:World}{M:MM}(h:jf w M){b:Nat}{r:Loop}(hb:w.heap[b]? =some (.loop r)):M b=none:=by
 cases hm:M b with
 |none=>rfl
 |some f=>
  obtain⟨es,cl,h1,_⟩:=h b f hm;rw[hb]at h1;cases h1
def JJ (c:Ctx)(a:Act)(L D:Nat)(st:St)(r:Loop):Inv:=λT S M W=>∃g:Gh,g.S=S/\g.M=M/\RG c st a W g/\Ac (c:=c) T st a W g/\W.heap[L]? =some (.loop r)/\W.heap[D]? =some (.deferred (some []))/\∀b,T b->b≠L/\b≠D
theorem JC {L D:Nat}{r:Loop}:Abides (JJ c a L D st r):=by
 rintro T S M W T' S' M' W' ⟨g,rfl,rfl,hg,hf,hL,hD,hT⟩ hi;obtain⟨h1,h2⟩:=hg.S9 hf hi;have hl:=(bt.1 hL).1;have hd:=(bt.1 hD).1;refine⟨_,rfl,rfl,h1,h2, ?_, ?_,λb hb=> ?_⟩
 ·exact(hi.below.block L hl (λh=>h.elim (λh=>(hT L h).1 rfl) (λh=>h (hg.df.bO.wN hL)))).trans hL
 ·exact(hi.below.block D hd (λh=>h.elim (λh=>(hT D h).2 rfl) (λh=>h (hg.df.bO.wO hD)))).trans hD
 ·rcases hi.t1 b hb with h|h
  ·exact hT b h
  ·exact⟨ae,ae⟩
theorem Qw {T:Nat->Prop}{L D nb:Nat}{r r2 rB:Loop}{W3:World}{g3:Gh}{s3:St}{a3:Act}{aB:List Bx}{aD:List Row}(h:RG c st a W g)(hf:Ac (c:=c) T st a W g)(hL:W.heap[L]? =some (.loop r))(hD:W.heap[D]? =some (.deferred (some [])))
  (hT:∀b,T b->b≠L/\b≠D)(EE:c.w0.heap.size<=L)(iZ:st.bx.length=nb)
  (h3:RG c2 s3 a3 W3 g3)(hβ:c2.β0=g.β)(bI:∀b,c2.own b->W.heap.size<=b\/(c.own b/\¬T b/\dp W b))
  (hl:mI (λb=>W.heap.size<=b\/b=L\/(c.own b/\¬T b/\dp W b)) W g W3 g3)(mz:W3.heap[L]? =some (.loop rB))
  (ed:∀m,Names st.bx.length 0 (st.sl m))(hle:Le s3 ⟨st.n,dJ,aB,aD⟩)(hlen:aB.length=nb)(dD:(⟨st.n,dJ,aB,aD⟩:St).named):
  ∃S' M',wg T g.S g.M W S' M' (W3.putObj L (.loop r2))/\JJ c a L D ⟨st.n,st.sl,aB,aD⟩ r2 T S' M' (W3.putObj L (.loop r2)):=by
 have aR:c.w0.heap.size<=W.heap.size:=h.below.size;have xh:=(bt.1 hL).1;have i_:=(bt.1 hD).1;have zm:c2.β0.length<=aB.length:=by rw[hβ,h.lβ,iZ,hlen];exact aY _
 have h4:=h3.le hle dD zm;generalize uo:(⟨g3.S,g3.β.take (⟨st.n,dJ,aB,aD⟩:St).bx.length,g3.ρ.take (⟨st.n,dJ,aB,aD⟩:St).rw.length,g3.M⟩:Gh)=g4 at h4;have eS:g4.S=g3.S:=by rw[<-uo]
 have eM:g4.M=g3.M:=by rw[<-uo]
 have zc:mI (λb=>W.heap.size<=b\/b=L\/(c.own b/\¬T b/\dp W b)) W g W3 g4:=
  ⟨hl.below,hl.kp,eS▸hl.s1,eS▸hl.s2,eM▸hl.m1,eM▸hl.m2⟩
 have Bq:∀(i b:Nat),g.β[i]? =some b->g4.β[i]? =some b:=λi b hb=>h4.df.gD i b (hβ▸hb);have Bm:=h.back h4 zc (λb hb=>by
   rcases hb with hb|rfl|hb
   ·exact h.cu b (fu aR hb)
   ·exact h.cu _ EE
   ·exact hb.1) (λb hb=>by
   rcases bI b hb with hb|hb
   ·exact h.cu b (fu aR hb)
   ·exact hb.1) Bq ed (λd hd D' kX hp=>by
   obtain⟨D2,_,rfl,dQ⟩:=h.df.cN.2 d hd;cases kX;rcases hp with hp|rfl|⟨_,_,hp⟩
   ·have:=(bt.1 dQ).1;omega
   ·rw[hL]at dQ;cases dQ
   ·exact dp.not dQ rfl aO hp)
 have Mr:Cv c.own (W3.putObj L (.loop r2)) a.defers:=⟨h.df.cN.1,λd hd=>by
  obtain⟨D2,hB,rfl,dQ⟩:=Bm.df.cN.2 d hd;exact⟨D2,hB,rfl,(j7 (λe=>by subst e;rw[mz]at dQ;cases dQ)).trans dQ⟩⟩
 have h5:RG c ⟨st.n,st.sl,aB,aD⟩ a (W3.putObj L (.loop r2)) g4:=Bm.rD mz rfl aO (h.cu _ EE) rfl Mr;have gR:=zc.trans (Dw (g:=g4) h4.ba mz (.inr (.inl rfl)) (.loop r2)) (λb hb=> .inl hb);have Ey:∀b,T b->¬(W.heap.size<=b\/b=L\/(c.own b/\¬T b/\dp W b)):=λb hb hp=>by
  rcases hp with hp|hp|hp
  ·have:=(hf.lt b hb).1;omega
  ·exact(hT b hb).1 hp
  ·exact hp.2.1 hb
 have L2:∀x,g4.S x->T x.block->g.S x:=λx hx ht=>(gR.s2 x hx).elim id (λh1=>(Ey _ ht h1).elim);have Bv:∀b,c2.own b->¬T b:=λb hb ht=>by
  rcases bI b hb with h1|h1
  ·have:=(hf.lt b ht).1;omega
  ·exact h1.2.1 ht
 have Ez:∀b,T b->g4.M b=none:=λb hb=>by
  cases hm:g4.M b with
  |none=>rfl
  |some f=>
        rcases gR.m2 b f hm with h1|h1
        ·rw[(hf.lt b hb).2.1]at h1;cases h1
        ·have:=(hf.lt b hb).1;omega
 refine⟨g4.S,g4.M,⟨gR.below.os,gR.below.tape,gR.below.output,gR.below.size,λb hb=>gR.below.block b (hf.lt b hb).1 (λh=>h.elim (Ey b hb) (λh=>h (hf.lt b hb).2.1)),gR.kp,gR.s1,L2,(λ_=>h5.df.fD.at h5.below),gR.m1,Ez,h5.df.bO,h5.ba⟩,
  g4,rfl,rfl,h5,⟨λi x b hi hx hb=>Bv b (h4.rk (x:=x) hi hx hb).2,λr row v gb hr hl hv aI=>Bv gb (h4.pU hr hl hv aI).2,hf.df,λb hb=>⟨uJ (hf.lt b hb).1 gR.below.size,Ez b hb,(hf.lt b hb).2.2⟩⟩,
  I5 (bt.1 mz).1, ?_,hT⟩
 refine(gR.below.block D i_ (λhn=>hn.elim (λhp=> ?_) (λhn=>hn (h.df.bO.wO hD)))).trans hD;rcases hp with hp|rfl|⟨_,_,hp⟩
 ·omega
 ·rw[hL]at hD;cases hD
 ·exact dp.not hD rfl aO hp
end
end Go.Ab
end
section
namespace Go.Ab
open Go.RowKit
def xE:Exit->Option Code
 | .ret=>some .ret
 | .exit id=>some (.exit id)
 | .goto t=>some (.goto t)
 |_=>none
def GJ (n nb:Nat)(dq:Nat->D)(aB:List Bx)(aD:List Row)(Q:Exit->St->Prop):Exit->St->Prop
 | .normal,s'=>Le s' ⟨n,dJ,aB,aD⟩
 |e,s'=>(xE e).isSome=true/\∃eo eL,eo.length=nb/\(⟨n,dJ,eo,eL⟩:St).named/\Le s' ⟨n,dJ,eo,eL⟩/\Q e ⟨n,dq,eo,eL⟩
theorem Names.Lj {nb nr:Nat}{d:D}(h:Names nb 0 d):Names nb nr d:=by
 generalize hz:0=z at h;induction h with
 |undef=>exact .undef
 |int k n=>exact .int _ _
 |bool b=>exact .bool _
 |str s=>exact .str _
 |val v=>exact .val _
 |list xs=>exact .list _
 |agg cs h ih=>exact .agg _ ih
 |aF cs h ih=>exact .aF _ ih
 |box i off h=>exact .box _ _ h
 |ro cs=>exact .ro _
 |own r h=>omega
 |ag f cs h ih=>exact .ag _ _ ih
 |bM f=>exact .bM _
 |aN i off n c h=>exact .aN _ _ _ _ h
 |cL f cs h ih=>exact .cL _ _ ih
 |skp=>exact .skp
 |any=>exact .any
 |bu i h=>exact .bu _ h
section
variable {P:Program} {w0:World} {S0:Addr->Prop} {M0:MM} {own:Nat->Prop} {β0:List Nat}
theorem ahH {c:Ctx}{e:Exit}{cd:Code}{Q:Exit->Act->World->Prop}{a:Act}{w:World}(he:xE e=some cd)(h:Q e a w):cd.wpIn c.F 0 c.P Q a w:=by
 cases e<;>simp only[xE,Option.some.injEq,reduceCtorEq]at he<;>subst he
 ·exact wpIn_exit h
 ·exact wpIn_goto h
 ·exact wpIn_ret h
theorem Xe {gx:Operand}{ps:Array Tmp}{assign body:Code}{Q:Exit->St->Prop}{s:St}{gf:FuncId}{cs cm:List D}{xs:List (List D)}
  (hg:s.ev gx= .ag gf cs)(hp:gm s.bx s.rw cs=some cm)(hI:Iter P gf cm xs)(fV:∀x∈xs,x.length=ps.size)(mn:∀p∈ps.toList,p < s.n)
  (dq:Nat->D)(bx:Nat->List Bx)(rw:Nat->List Row)(nb:Nat)(hle:Le s ⟨s.n,dq,bx 0,rw 0⟩)(ed:∀m,Names nb 0 (dq m))
  (iZ:∀k,k<=xs.length->(bx k).length=nb)(dD:∀k,k<=xs.length->(⟨s.n,dJ,bx k,rw k⟩:St).named)(hβ:β0.length<=nb)
  (round:∀(k:Nat) (x:List D),xs[k]? =some x->∀(w1:World) (S1:Addr->Prop) (M1:MM) (l:Nat) (o1:Nat->Prop) (b1:List Nat),b1.length=nb->
   av ⟨P,w1,S1,M1,some l,o1,b1⟩ assign (bH (λs'=>∀(w2:World) (S2:Addr->Prop) (M2:MM) (o2:Nat->Prop),av ⟨P,w2,S2,M2,some l,o2,b1⟩ body (GJ s.n nb dq (bx (k + 1)) (rw (k + 1)) Q) s') (λ_ _=>False))
    ⟨s.n,nN ps.toList x dq,bx k,rw k⟩)
  (done:Q .normal ⟨s.n,dq,bx xs.length,rw xs.length⟩):av ⟨P,w0,S0,M0,none,own,β0⟩ (.rangeFunc gx ps assign body) Q s:=by
 obtain⟨c,hc⟩:∃c:Ctx,c=⟨P,w0,S0,M0,none,own,β0⟩:=⟨_,rfl⟩;rw[<-hc];have tc:c.P=P:=by rw[hc]
 have uv:c.F=cE:=by rw[hc];rfl
 intro a w hr;obtain⟨g,fP⟩:=hr;have hv:=fP.ev gx;rw[hg]at hv;generalize yU:a.eval gx=vx at hv;have D4:(⟨s.n,dq,bx 0,rw 0⟩:St).named:=⟨λm=>by
  have h1:=ed m;have iH:=iZ 0 (bD _);simp only[iH];exact h1.Lj,(dD 0 (bD _)).2⟩
 have DK:c.β0.length<=(⟨s.n,dq,bx 0,rw 0⟩:St).bx.length:=by rw[hc];simpa[iZ 0 (bD _)]using hβ
 have h0:=fP.le hle D4 DK;cases hv with
 |ag _ _ vs _ jn uh=>
 obtain⟨vs⟩:=vs;obtain⟨e1,e2⟩:=u9 hp;have qZ:vs.length=cm.length:=by rw[e1];simpa using jn
 have za:∀q x,cm[q]? =some x->Rel w ⟨g.S,[],[],g.M⟩ (vs.getD q bp) x:=λq x hx=>by
  obtain⟨y,hy,sU⟩:=e2 q x hx;exact rI fP (by simpa using uh q y hy) sU
 refine wpIn_rangeFunc ?_;intro fn q_;have qe:c.F.round=none:=by rw[uv];rfl
 rw[qe];obtain⟨rec,gy⟩:∃rec:LoopState->Option Code->Loop,rec=λst pe=>{state:=st,pending:=pe,fn,tmps:=a.tmps,params:=ps,assign,body,defers:=w.heap.size}:=⟨_,rfl⟩;obtain⟨W1,qn⟩:∃W1,(w.alloc (.deferred (some []))).alloc (.loop (rec .ready none))=W1:=⟨_,rfl⟩;have xy:W1.heap[w.heap.size + 1]? =some (.loop (rec .ready none)):=by
  rw[<-qn];have:=zK (w.alloc (.deferred (some []))) (.loop (rec .ready none));rwa [World.size_alloc]at this
 have aA:W1.heap[w.heap.size]? =some (.deferred (some [])):=by
  rw[<-qn];exact(Below.heap_alloc _ _ _ aO).trans (zK w _)
 have gz:Below w.heap.size w W1:=by rw[<-qn];exact(((oW _ w).alloc (aY _) _).alloc aO _)
 have aR:c.w0.heap.size<=w.heap.size:=fP.below.size;have h1:=h0.world gz (λ_ h=>h) (λ_ h=> .inl h) (h0.ba.below gz);have te:jf W1 g.M:=h1.df.bO;have EB:Good W1 g.S:=h1.ba;refine⟨w.heap.size + 1,[{target:= .collected w.heap.size,args:=#[]}],W1,{target:= .fn (.func gf) vs.toArray,args:=#[.func (.yield (w.heap.size + 1)) #[] #[]]},W1,gf,
  (tv (.yield (w.heap.size + 1)) #[] #[]::vs).toArray,W1, ?_, ?_, ?_, ?_,λh=>(by rw[uv]at h;cases h), ?_⟩
 ·rw[<-qn,gy];exact run_enterLoop_outer _ _ _ _ _
 ·simp only[resolve,yU];simp[go_sem]
 ·intro f' _;rw[uv];trivial
 ·have:=hI.1 (tv (.yield (w.heap.size + 1)) #[] #[]::vs).toArray W1;rw[tc];simp[invoke,go_sem];simpa using this
 rw[uv,tc];refine callsIn_wide.2 ((hI.2 g.S g.M W1 vs (h1.df.fD.at h1.below) EB te qZ (λq x hx=>(za q x hx).aZ ⟨λy hy=>by
   obtain⟨u,hu⟩:=fP.ba y hy;obtain⟨cc,tt,ff,Eo⟩:=tn hu;exact pJ (gz.block _ (bt.1 Eo).1),λ_ h=>h,λ_ _ h=>h,λ_ _ h=>h,λ_ _ h=>h⟩)
  (w.heap.size + 1) (λk T S M W=>k<=xs.length/\JJ c a (w.heap.size + 1) w.heap.size ⟨s.n,dq,bx k,rw k⟩ (rec .ready none) T S M W)
  (λ_ T S M W=>∃e cd eo eL,xE e=some cd/\Q e ⟨s.n,dq,eo,eL⟩/\JJ c a (w.heap.size + 1) w.heap.size ⟨s.n,dq,eo,eL⟩ (rec .done (some cd)) T S M W)
  (λk T S M W T' S' M' W' h hi=>⟨h.1,JC T S M W T' S' M' W' h.2 hi⟩)
  (λk T S M W T' S' M' W' h hi=>by obtain⟨e,cd,eo,eL,h1,h2,h3⟩:=h;exact⟨e,cd,eo,eL,h1,h2,JC T S M W T' S' M' W' h3 hi⟩) ?_ ?_).mono ?_)
 ·
  rintro k T S M W args x hx ⟨hk,g1,rfl,rfl,aK,hf,hL,hD,hT⟩ hlen bw;have mX:x.length=ps.size:=fV x (ey hx);have kv:k < xs.length:=(aQ.1 hx).1;have ly:(bx k).length=nb:=iZ k hk;have hy:=run_yield (P:=P) (args:=args.toArray) hL (by rw[gy];simp;omega);rw[gy]at hy;refine⟨fn,_,assign,body,hy,roundIn_of_wpIn trivial ?_⟩;have xm:((ps.zip args.toArray).foldl (λt (p,v)=>t.setIfInBounds p v) a.tmps)=((ps.toList.zip args).foldl (λt (p,v)=>t.setIfInBounds p v) a.tmps):=by
   rw[<-Array.foldl_toList];simp
  obtain⟨q1,q2⟩:=GR (w:=W) (g:=g1) ps.toList x args dq a.tmps hlen (λq d hd=>(bw q d hd).aZ (EL _ _ _ _ _)) (λp hp=>by rw[aK.sz];exact mn p hp) (λm=>aK.sl m);have lu:=aK.enter hf (some (w.heap.size + 1)) (a':={tmps:=(ps.zip args.toArray).foldl (λt (p,v)=>t.setIfInBounds p v) a.tmps,defers:=[]}) (sl:=nN ps.toList x dq) rfl (by rw[xm];exact q1) (by rw[xm];exact q2);rw[tc]at lu;have hA:=round k x hx W g1.S g1.M (w.heap.size + 1) _ g1.β (by rw[aK.lβ];exact ly) _ W ⟨g1,lu⟩;refine wpIn_mono hA ?_;rintro e a1 w1 ⟨s1,⟨g2,h2⟩,hq⟩;cases e with
  |normal=>
   have Ev:=(bt.1 hL).1;have xx:¬(W.heap.size<=w.heap.size + 1\/(c.own (w.heap.size + 1)/\¬T (w.heap.size + 1)/\dp W (w.heap.size + 1))):=λh=>by
    rcases h with h|⟨_,_,h⟩
    ·omega
    ·exact dp.not hL rfl aO h
   have jX:w1.heap[w.heap.size + 1]? =some (.loop (rec .ready none)):=(h2.below.block _ Ev (λh=>h.elim xx (λh=>h (aK.df.bO.wN hL)))).trans hL;have lx:=run_beginRound (P:=P) jX (by rw[gy]);have jU:=h2.KA (w':=w1.putObj (w.heap.size + 1) (.loop {rec .ready none with state:= .busy})) (GQ jX) (KB jX) ⟨h2.df.cN.1,λd hd=>by
    obtain⟨D2,hB,rfl,dQ⟩:=h2.df.cN.2 d hd;exact⟨D2,hB,rfl,(j7 (λe=>by subst e;rw[jX]at dQ;cases dQ)).trans dQ⟩⟩ (λb hb=>h2.cu b (by have:=h2.below.size;simp only[World.putObj_size]at hb;exact fu this hb))
   have hB:=hq (w1.putObj (w.heap.size + 1) (.loop {rec .ready none with state:= .busy})) g2.S g2.M _ a1 _ ⟨g2,jU⟩;refine⟨_,lx,wpIn_mono hB ?_⟩;rintro e a3 W3 ⟨s3,⟨g3,h3⟩,g_⟩;have tg:(w1.putObj (w.heap.size + 1) (.loop {rec .ready none with state:= .busy})).heap[w.heap.size + 1]? =some (.loop {rec .ready none with state:= .busy}):=I5 (bt.1 jX).1;have rY:=(bt.1 tg).1;have mz:W3.heap[w.heap.size + 1]? =some (.loop {rec .ready none with state:= .busy}):=(h3.below.block _ rY (λh=>h.elim xx (λh=>h (jU.df.bO.wN tg)))).trans tg;have l1:mI (λb=>W.heap.size<=b\/b=w.heap.size + 1\/(c.own b/\¬T b/\dp W b)) W g1 w1 g2:=h2.later rfl rfl rfl (λb hb=>hb.elim .inl (λh=> .inr (.inr h)));have l2:=Dw (p:=λb=>W.heap.size<=b\/b=w.heap.size + 1\/(c.own b/\¬T b/\dp W b)) h2.ba jX (.inr (.inl rfl)) (.loop {rec .ready none with state:= .busy});have l3:mI (λb=>W.heap.size<=b\/b=w.heap.size + 1\/(c.own b/\¬T b/\dp W b)) _ g2 W3 g3:=h3.later rfl rfl rfl (λb hb=>hb.elim .inl (λh=> .inr (.inr h)));have hl:=(l1.trans l2 (λb hb=> .inl hb)).trans l3 (λb hb=> .inl hb);have vz:=λ(jump:Option Code)=>run_endRound (P:=P) jump mz;have fin:∀(eo:List Bx) (eL:List Row) (r2:Loop),Le s3 ⟨s.n,dJ,eo,eL⟩->eo.length=nb->(⟨s.n,dJ,eo,eL⟩:St).named->
     ∃S' M',wg T g1.S g1.M W S' M' (W3.putObj (w.heap.size + 1) (.loop r2))/\JJ c a (w.heap.size + 1) w.heap.size ⟨s.n,dq,eo,eL⟩ r2 T S' M' (W3.putObj (w.heap.size + 1) (.loop r2)):=λeo eL r2 hle hlen dD=>
    Qw (st:=⟨s.n,dq,bx k,rw k⟩) (nb:=nb) aK hf hL hD hT ae ly h3 rfl (λb hb=>hb) hl mz (by rw[show(⟨s.n,dq,bx k,rw k⟩:St).bx.length=nb from ly];exact ed) hle hlen dD
   have leave:∀cd,xE e=some cd->GJ s.n nb dq (bx (k + 1)) (rw (k + 1)) Q e s3->e≠ .normal->∃v w',(Instr.endRound (w.heap.size + 1) (some cd)).run P W3= .ok v w'/\∃S' M',wg T g1.S g1.M W S' M' w'/\
     ((Ending.returned v= .returned (.bool true)/\k + 1<=xs.length/\JJ c a (w.heap.size + 1) w.heap.size ⟨s.n,dq,bx (k + 1),rw (k + 1)⟩ (rec .ready none) T S' M' w')\/
      (Ending.returned v= .returned (.bool false)/\∃e cd eo eL,xE e=some cd/\Q e ⟨s.n,dq,eo,eL⟩/\JJ c a (w.heap.size + 1) w.heap.size ⟨s.n,dq,eo,eL⟩ (rec .done (some cd)) T S' M' w')):=λcd hcd hq bz=>by
    have dP:∃eo eL,eo.length=nb/\(⟨s.n,dJ,eo,eL⟩:St).named/\Le s3 ⟨s.n,dJ,eo,eL⟩/\Q e ⟨s.n,dq,eo,eL⟩:=by
     cases e<;>first|exact(bz rfl).elim|exact hq.2
    obtain⟨eo,eL,h5,h6,h7,h8⟩:=dP;have he:=vz (some cd);obtain⟨S',M',f1,f2⟩:=fin eo eL (rec .done (some cd)) h7 h5 h6;rw[gy]at he f1 f2⊢;exact⟨_,_,he,S',M',f1, .inr ⟨rfl,e,cd,eo,eL,hcd,h8,f2⟩⟩
   cases e with
   |normal=>
    have he:=vz none;obtain⟨S',M',f1,f2⟩:=fin (bx (k + 1)) (rw (k + 1)) (rec .ready none) g_ (iZ _ kv) (dD _ kv);rw[gy]at he f1 f2⊢;exact⟨_,_,he,S',M',f1, .inl ⟨rfl,kv,f2⟩⟩
   |ret=>exact leave _ rfl g_ aO
   |exit id=>exact leave _ rfl g_ aO
   |goto t=>exact leave _ rfl g_ aO
   |panic ch=>exact absurd g_.1 (by simp[xE])
   |outgrown=>exact absurd g_.1 (by simp[xE])
  |exit id=>exact hq.elim
  |goto l=>exact hq.elim
  |ret=>exact hq.elim
  |panic ch=>exact hq.elim
  |outgrown=>exact hq.elim
 ·
  refine⟨bD _,_, ?_, ?_,h1,⟨λ_ _ _ _ _ _ h=>h,λ_ _ _ _ _ _ _ _ h=>h,λ_ _ _ _ h=>h,λ_ h=>h.elim⟩,xy,aA,λ_ h=>h.elim⟩<;>rfl
 ·
  have Us:∀(st:St) (r:Loop) (T:Nat->Prop) (S:Addr->Prop) (M:MM) (W:World),r.state≠ .busy->JJ c a (w.heap.size + 1) w.heap.size st r T S M W->
    (Instr.endLoop (w.heap.size + 1)).run P W= .ok r.pending (W.putObj (w.heap.size + 1) (.loop {r with state:= .exhausted}))/\
    R c st {a with defers:={target:= .collected w.heap.size,args:=#[]}::a.defers} (W.putObj (w.heap.size + 1) (.loop {r with state:= .exhausted})):=λst r T S M W hb hJ=>by
   obtain⟨g1,rfl,rfl,aK,hf,hL,hD,hT⟩:=hJ;refine⟨run_endLoop (P:=P) hL hb,g1,aK.rD hL rfl aO (aK.cu _ ae) rfl ⟨List.nodup_cons.2 ⟨λhm=> ?_,aK.df.cN.1⟩,λd hd=> ?_⟩⟩
   ·obtain⟨D',_,e,dN⟩:=fP.df.cN.2 _ hm;cases e;have:=(bt.1 dN).1;omega
   ·rcases eK.1 hd with rfl|hd
    ·exact⟨w.heap.size,aK.cu _ aR,rfl,(j7 ae).trans hD⟩
    ·obtain⟨D2,hB,rfl,dQ⟩:=aK.df.cN.2 d hd;exact⟨D2,hB,rfl,(j7 (λe=>by subst e;rw[hL]at dQ;cases dQ)).trans dQ⟩
  rintro e W2 ⟨⟨v,rfl⟩,T,S',M',⟨hk,hJ⟩|⟨k,e',cd,eo,eL,he,hq,hJ⟩⟩
  ·obtain⟨h3,h4⟩:=Us _ _ _ _ _ _ (by rw[gy];simp) hJ;rw[gy]at h3 h4;exact⟨none,_,h3,_,h4,done⟩
  ·obtain⟨h3,h4⟩:=Us _ _ _ _ _ _ (by rw[gy];simp) hJ;rw[gy]at h3 h4;refine⟨some cd,_,h3, ?_⟩;have:=ahH (c:=c) (Q:=λe a' w'=>∃s',R c s' a' w'/\Q e s') he ⟨_,h4,hq⟩;rw[uv,tc]at this;exact this
end
end Go.Ab
end
section
namespace Go.Ab
open Go.RowKit
theorem Vr (x:Int):∀(es:List MapEntry) (i:Nat),(∀e∈es,∃y,e.key=Value.int .i64 y)->∃r,FI (.int .i64) (.int .i64 x) es i=some r/\((r=none/\∀e∈es,e.key≠ .int .i64 x)\/∃j e,es[j]? =some e/\e.key= .int .i64 x/\r=some (i + j,e.val))
 |[],i,_=>⟨none,rfl, .inl ⟨rfl,λe he=>by cases he⟩⟩
 |e::es,i,h=>by
  obtain⟨y,hy⟩:=h e (dI ..);by_cases DM:x=y
  ·subst DM;exact⟨some (i,e.val),by simp[FI,hy,OT], .inr ⟨0,e,rfl,hy,rfl⟩⟩
  ·obtain⟨r,h1,h2⟩:=Vr x es (i + 1) (λe he=>h e (dW _ he));have hb:(x == y)=false:=by simp[DM]
   refine⟨r,by simp[FI,hy,OT,hb,h1], ?_⟩;rcases h2 with⟨h2,h6⟩|⟨j,e',h3,h4,h5⟩
   ·refine .inl ⟨h2,λe' r7=> ?_⟩;rcases eK.1 r7 with rfl|r7
    ·rw[hy];intro hh;cases hh;exact DM rfl
    ·exact h6 e' r7
   ·exact .inr ⟨j + 1,e',by simpa using h3,h4,by rw[h5];simp;omega⟩
theorem SE {P:Program}{kt:TypeId}(hu:P.underlying kt=some (.int .i64)):yb P kt false 1 where
 check e xs w _:=by
  have:∀d,(FN e (d + 1) kt (eT false xs)).run P w= .ok () w:=λd=>by simp[FN,run_underlying hu,eT]
  exact this 9999
 find xs es w hl kV:=by
  obtain⟨r,h1,h2⟩:=Vr (xs.headD 0) es 0 (λe he=>by obtain⟨ys,_,h⟩:=kV e he;exact⟨_,h⟩);refine⟨r,by simp only[Instr.findKey,pL,run_underlying hu,sr,eT,h1,uI], ?_⟩;rcases h2 with h2|⟨j,e',h3,h4,h5⟩
  ·exact .inl h2
  ·exact .inr ⟨j,e',h3,h4,by simpa using h5⟩
 inj xs ys hx hy h:=by
  match xs,ys,hx,hy with
  |[x],[y],_,_=>simpa[eT]using h
end Go.Ab
end
section
namespace Go.Ab
open Go.RowKit
end Go.Ab
end
namespace Go.Ab
open Go.RowKit
structure IR (P:Program)(T:Nat->Prop)(S:Addr->Prop)(M:MM)(s:St)(a:Act)(w:World):Prop where
 lt:∀b,T b->b < w.heap.size/\M b=none
 rg:∃g:Gh,g.S=S/\g.M=M/\RG ⟨P,w,S,M,none,λb=>T b\/w.heap.size<=b,[]⟩ s a w g
theorem IR.next {P:Program}{T:Nat->Prop}{S:Addr->Prop}{M:MM}{s':St}{a':Act}{w w':World}{g':Gh}(lt:∀b,T b->b < w.heap.size/\M b=none)
  (h:RG ⟨P,w,S,M,none,λb=>T b\/w.heap.size<=b,[]⟩ s' a' w' g'):
  ∃T',OU T S M w T' g'.S g'.M w'/\IR P T' g'.S g'.M s' a' w':=by
 have aR:w.heap.size<=w'.heap.size:=h.below.size
 let T':Nat->Prop:=λb=>(T b\/w.heap.size<=b)/\b < w'.heap.size/\g'.M b=none
 refine⟨T',⟨⟨h.below.os,h.below.tape,h.below.output,h.below.size,λk hk hn=>h.below.block k hk (λhm=>hm.elim (λho=>ho.elim (λht=>hn (.inl ht)) (λhl=>by omega)) (λhm=>hn (.inr hm)))⟩,
  λb hb=>hb.1,λb hb=>hb.2,h.S0,λx hx=>h.en x hx,h.df.jA,h.df.m0,h.df.gw,h.df.bO,h.ba⟩,⟨λb hb=>hb.2,g',rfl,rfl, ?_⟩⟩
 have wL:∀b,(T b\/w.heap.size<=b)->b < w'.heap.size->g'.M b=none->T' b:=λb h1 h2 h3=>⟨h1,h2,h3⟩;refine⟨⟨⟨h.df.cN.1,λd hd=> ?_⟩,h.df.bO,λ_ _ h=>h,λ_ _ h=> .inl h,λi b hb=>by simp at hb,λ_ _=>rfl,h.df.fD.own h.below h.df.bO (λb hb=>hb.elim (λhb=> .inr (.inl hb.1)) .inl)⟩,h.sz, .of (oW _ _),λb hb=> .inr hb,h.ba,λ_ h=> .inl h,λ_ h=>h,h.ba,h.lβ,h.lρ,h.sl,λi cs hi=> ?_,λi cs hi=> ?_,λr row hr=> ?_,h.ap,λi es hi=>(h.mp i es hi).imp λb hm=>hm.ctx (.inl (wL b hm.own hm.lt hm.nm))⟩
 ·obtain⟨D',hB,e,hD⟩:=h.df.cN.2 d hd;exact⟨D', .inl (wL D' hB (bt.1 hD).1 (h.df.bO.wO hD)),e,hD⟩
 ·obtain⟨b,vs,t,e1,e2,e3,e4,e5⟩:=(h.bx i cs hi).ex;exact⟨b,vs,t,e1,e2,e3, .inl (wL b e4 (bt.1 e2).1 (h.df.bO.ve e2)),e5⟩
 ·obtain⟨b,vs,t,e1,e2,e3,e4,e5⟩:=(h.fz i cs hi).ex;exact⟨b,vs,t,e1,e2,e3, .inl (wL b e4 (bt.1 e2).1 (h.df.bO.ve e2)),e5⟩
 ·obtain⟨v,e1,e2,e3⟩:=(h.rw r row hr).ex;refine⟨v,e1,e2,λhl=> ?_⟩;obtain⟨⟨vals,bI⟩,bf,hS⟩:=e3 hl;refine⟨⟨vals,bI⟩,bf,λgb aI=>⟨.inl (wL gb (hS gb aI).1 (bI.lt gb aI).2 ?_),(hS gb aI).2⟩⟩;rcases bI.2 with⟨rfl,_⟩|⟨g2,cap,cur,rfl,_,fH,_⟩
  ·simp[je]at aI
  ·simp[je]at aI;subst aI;exact h.df.bO.ve fH
theorem IR.round {P:Program}{T:Nat->Prop}{S S':Addr->Prop}{M M':MM}{s:St}{a:Act}{w w':World}(h:IR P T S M s a w)(hf:wg T S M w S' M' w'):IR P T S' M' s a w':=by
 obtain⟨lt,g,rfl,rfl,hg⟩:=h;have k:fL w g w' ⟨S',g.β,g.ρ,M'⟩:=⟨hf.cell,hf.s1,λ_ _ h=>h,λ_ _ h=>h,hf.m1⟩;have hT:∀b,b < w.heap.size->(T b\/w.heap.size<=b)->T b:=λb hb h=>h.elim id (λh=>by omega);refine⟨λb hb=>⟨uJ (lt b hb).1 hf.size,hf.m3 b hb⟩,⟨S',g.β,g.ρ,M'⟩,rfl,rfl, ?_⟩;refine⟨⟨⟨hg.df.cN.1,λd hd=> ?_⟩,hf.bO,λ_ _ h=>h,λ_ _ h=> .inl h,λi b hb=>by simp at hb,λ_ _=>rfl,⟨hf.tb (hg.df.fD.at hg.below),λb vs hv hm=>hm.elim (λhm=>hm.elim (λht=>hg.df.fD.no b vs hv (.inl (.inl ht))) (λhl=>absurd ((hf.tb (hg.df.fD.at hg.below)).lt b vs hv) (Nat.not_lt.2 hl))) (λhm=>hm ((hf.tb (hg.df.fD.at hg.below)).tY hf.bO b vs hv))⟩⟩,hg.sz, .of (oW _ _),λb hb=> .inr hb,hf.ba,λ_ h=> .inl h,λ_ h=>h,hf.ba,hg.lβ,hg.lρ,λn=>(hg.sl n).aZ k,λi cs hi=> ?_,λi cs hi=> ?_,λr row hr=> ?_,hg.ap,λi es hi=>by
  obtain⟨b,hm⟩:=hg.mp i es hi;refine⟨b, ?_⟩;have ht:=hT b hm.lt hm.own;exact(hm.aZ k (hf.t b ht) (hf.m3 b ht)).ctx (.inl ht)⟩
 ·obtain⟨D',hB,e,hD⟩:=hg.df.cN.2 d hd;have ht:=hT D' (bt.1 hD).1 hB;exact⟨D', .inl ht,e,(hf.t D' ht).trans hD⟩
 ·obtain⟨b,vs,t,e1,e2,e3,e4,e5,e6⟩:=(hg.bx i cs hi).ex;have ht:=hT b (bt.1 e2).1 e4;exact⟨b,vs,t,e1,(hf.t b ht).trans e2,e3.aZ k, .inl ht,λ_ x hx e=>e5 rfl x (hf.s3 x hx (by rw[e];exact ht)) e,λh=>by cases h⟩
 ·obtain⟨b,vs,t,e1,e2,e3,e4,e5,e6⟩:=(hg.fz i cs hi).ex;have ht:=hT b (bt.1 e2).1 e4;exact⟨b,vs,t,e1,(hf.t b ht).trans e2,e3.aZ k.er, .inl ht,(λh=>by cases h),λh q hq=>hf.s1 _ (e6 h q hq)⟩
 ·obtain⟨v,e1,e2,e3⟩:=(hg.rw r row hr).ex;refine⟨v,e1,e2.aZ k,λhl=> ?_⟩;obtain⟨⟨vals,bI⟩,bf,hS⟩:=e3 hl;refine⟨⟨vals,bI.1, ?_⟩,bf,λgb aI=> ?_⟩
  ·rcases bI.2 with hn|⟨g2,cap,cur,rfl,fk,fH,rest⟩
   ·exact .inl hn
   ·have ht:=hT g2 (bt.1 fH).1 (hS g2 rfl).1;exact .inr ⟨g2,cap,cur,rfl,fk,(hf.t g2 ht).trans fH,rest⟩
  ·have ht:=hT gb (bI.lt gb aI).2 (hS gb aI).1;exact⟨.inl ht,λx hx e=>(hS gb aI).2 x (hf.s3 x hx (by rw[e];exact ht)) e⟩
abbrev Ix:=Bool×Nat
def JX (J Jx:Nat->Inv):Ix->Inv
 |(true,k)=>J k
 |(false,k)=>Jx k
structure IC where
 P:Program
 l:Nat
 xs:List (List D)
 J:Nat->Inv
 Jx:Nat->Inv
structure IC.Ok (c:IC):Prop where
 ab:∀i,Abides (JX c.J c.Jx i)
 rd:∀k T S M W (args:List Value) x,c.xs[k]? =some x->c.J k T S M W->args.length=x.length->(∀q d,x[q]? =some d->Rel W ⟨S,[],[],M⟩ (args.getD q bp) d)->
  YieldAt cE 0 c.P c.l args.toArray W λe W'=>∃S' M',wg T S M W S' M' W'/\((e= .returned (.bool true)/\c.J (k + 1) T S' M' W')\/(e= .returned (.bool false)/\c.Jx (k + 1) T S' M' W'))
def IA (c:IC)(code:Code)(Q:Exit->Ix->St->Prop)(i:Ix)(s:St):Prop:=
 c.Ok->∀a w T S M,JX c.J c.Jx i T S M w->IR c.P T S M s a w->code.wpIn cE 0 c.P (λe a' w'=>∃i' s' T' S' M',JX c.J c.Jx i' T' S' M' w'/\IR c.P T' S' M' s' a' w'/\Q e i' s') a w
section
variable {c:IC} {Q:Exit->Ix->St->Prop} {s:St} {i:Ix}
theorem gF {code:Code}(h:∀(w0:World) (S0:Addr->Prop) (M0:MM) (own:Nat->Prop),av ⟨c.P,w0,S0,M0,none,own,[]⟩ code (λe s'=>Q e i s') s):IA c code Q i s:=by
 intro aW a w T S M hJ ⟨lt,g,e1,e2,hg⟩;refine wpIn_mono (h w S M _ a w ⟨g,hg⟩) ?_;rintro e a' w' ⟨s',⟨g',gQ⟩,hq⟩;obtain⟨T',hi,hr⟩:=IR.next lt gQ;exact⟨i,s',T',_,_,aW.ab i _ _ _ _ _ _ _ _ hJ hi,hr,hq⟩
theorem nT (h:Q .normal i s):IA c .skip Q i s:=λ_ a w T S M hJ hr=>wpIn_skip ⟨i,s,T,S,M,hJ,hr,h⟩
theorem nZ {id:Nat}(h:Q (.exit id) i s):IA c (.exit id) Q i s:=λ_ a w T S M hJ hr=>wpIn_exit ⟨i,s,T,S,M,hJ,hr,h⟩
theorem nW (h:Q .ret i s):IA c .ret Q i s:=λ_ a w T S M hJ hr=>wpIn_ret ⟨i,s,T,S,M,hJ,hr,h⟩
def bT (K:Ix->St->Prop)(Q:Exit->Ix->St->Prop):Exit->Ix->St->Prop
 | .normal,i,s=>K i s
 |e,i,s=>Q e i s
def bU (id:Nat)(Q:Exit->Ix->St->Prop):Exit->Ix->St->Prop
 | .exit nS,i,s=>if nS=id then Q .normal i s else Q (.exit nS) i s
 |e,i,s=>Q e i s
theorem nU {x y:Code}(h:IA c x (bT (IA c y Q) Q) i s):IA c (.seq x y) Q i s:=by
 intro aW a w T S M hJ hr;refine wpIn_seq (wpIn_mono (h aW a w T S M hJ hr) ?_);rintro e a' w' ⟨i',s',T',S',M',iT,r,q⟩;cases e with
 |normal=>exact q aW a' w' T' S' M' iT r
 |exit id=>exact⟨i',s',T',S',M',iT,r,q⟩
 |goto l=>exact⟨i',s',T',S',M',iT,r,q⟩
 |ret=>exact⟨i',s',T',S',M',iT,r,q⟩
 |panic ch=>exact⟨i',s',T',S',M',iT,r,q⟩
 |outgrown=>exact⟨i',s',T',S',M',iT,r,q⟩
theorem n3 {id:Nat}{x:Code}(h:IA c x (bU id Q) i s):IA c (.block id x) Q i s:=by
 intro aW a w T S M hJ hr;refine wpIn_block (wpIn_mono (h aW a w T S M hJ hr) ?_);rintro e a' w' ⟨i',s',T',S',M',iT,r,q⟩;cases e with
 |normal=>exact⟨i',s',T',S',M',iT,r,q⟩
 |exit nS=>
  simp only[bU]at q;simp only[Exit.inBlock];split at q
  ·rw[if_pos (by assumption)];exact⟨i',s',T',S',M',iT,r,q⟩
  ·rw[if_neg (by assumption)];exact⟨i',s',T',S',M',iT,r,q⟩
 |goto l=>exact⟨i',s',T',S',M',iT,r,q⟩
 |ret=>exact⟨i',s',T',S',M',iT,r,q⟩
 |panic ch=>exact⟨i',s',T',S',M',iT,r,q⟩
 |outgrown=>exact⟨i',s',T',S',M',iT,r,q⟩
theorem nY {x:Operand}{t e:Code}(h:o0 (s.ev x) λb=>(b=true->IA c t Q i s)/\(b=false->IA c e Q i s)):IA c (.cond x t e) Q i s:=by
 intro aW a w T S M hJ hr;cases hs:s.ev x<;>rw[hs]at h<;>simp only[o0]at h
 obtain⟨g,_,_,hg⟩:=hr.rg;have hv:=hg.ev x;rw[hs]at hv;exact wpIn_cond_split hv.asBool (λhb=>h.1 hb aW a w T S M hJ hr) (λhb=>h.2 hb aW a w T S M hJ hr)
theorem IR.le {P:Program}{T:Nat->Prop}{S:Addr->Prop}{M:MM}{s s':St}{a:Act}{w:World}(h:IR P T S M s a w)(hl:Le s s')(hn:s'.named):IR P T S M s' a w:=by
 obtain⟨lt,g,e1,e2,hg⟩:=h;exact⟨lt,_,by rw[<-e1],by rw[<-e2],hg.le hl hn (bD _)⟩
theorem Hq {body:Code}{ι:Type}{n:Nat}(l:ι->List (Nat×D))(ix:ι->Ix)(p:ι->Prop)(μ:ι->Nat)(hn:∀j,p j->((l j).all λq=>cq 0 0 q.2)=true)
  (j0:ι)(h0:p j0)(hi:ix j0=i)(hle:Le s (cR n (l j0) [] []))
  (round:∀j,p j->IA c body (bT (λi' s'=>∃j',p j'/\μ j' < μ j/\ix j'=i'/\Le s' (cR n (l j') [] [])) Q) (ix j) ⟨n,(l j).foldr (λp f=>put f p.1 p.2) dJ,[],[]⟩):IA c (.loop body) Q i s:=by
 intro aW a w T S M hJ hr;subst hi;have dD:∀j,p j->(cR n (l j) [] []).named:=λj hj=>ik (hn j hj) rfl;refine F4 (λj a w=>p j/\∃T S M,JX c.J c.Jx (ix j) T S M w/\IR c.P T S M (cR n (l j) [] []) a w) μ (λj a w ⟨hp,T,S,M,hJ,hr⟩=> ?_) j0 ⟨h0,T,S,M,hJ,hr.le hle (dD j0 h0)⟩;refine wpIn_mono (round j hp aW a w T S M hJ hr) ?_;rintro e a' w' ⟨i',s',T',S',M',iT,r,q⟩;cases e with
 |normal=>
  obtain⟨j',hj,aG,rfl,hl⟩:=q;exact⟨j',⟨hj,T',S',M',iT,r.le hl (dD j' hj)⟩,aG⟩
 |exit id=>exact⟨i',s',T',S',M',iT,r,q⟩
 |goto l=>exact⟨i',s',T',S',M',iT,r,q⟩
 |ret=>exact⟨i',s',T',S',M',iT,r,q⟩
 |panic ch=>exact⟨i',s',T',S',M',iT,r,q⟩
 |outgrown=>exact⟨i',s',T',S',M',iT,r,q⟩
end
theorem qv {c:Ctx}{ops:Array Oper}{K:St->Prop}{Q:Exit->Act->World->Prop}{rest:List Oper}(hK:∀s a w,R c s a w->K s->wpListIn c.F 0 c.P ops Q rest a w):
  ∀(l:List Oper) (s:St) (a:Act) (w:World),R c s a w->bZ c.P ops.toList l s K->wpListIn c.F 0 c.P ops Q (l++rest) a w
 |[],s,a,w,hr,h=>hK s a w hr h
 |o::l,s,a,w,hr,h=>by
  obtain⟨g,hg⟩:=hr;have next:∀{s1:St},cZ c.P o s1 (λs'=>bZ c.P ops.toList l s' K)->s1=s->o.wpIn c.F 0 c.P a w (wpListIn c.F 0 c.P ops Q (l++rest)) Q:=λaM e=>by
   subst e;refine gK (wE aM) ?_;exact Oper.wp_mono (λa' w' ⟨s',cW,fW⟩=>qv hK l s' a' w' cW fW) (uY hg aM)
  unfold bZ at h;show wpListIn c.F 0 c.P ops Q (o::(l++rest)) a w;unfold wpListIn;split at h
  ·rename_i cP;rw[if_pos (by simp[eh,cP])];exact next h rfl
  ·rename_i j want cP;obtain⟨t,ht,h⟩:=cM h;cases hb:s.sl t<;>rw[hb]at h<;>simp only[wG]at h
   case skp=>
    have hy:=R.AI hg ht hb;rw[if_neg (by simp[eh,cP,hy])];exact⟨λ_ _=>trivial,qv hK l _ _ _ ⟨g,hg.put h.1 (.skp _)⟩ h.2⟩
   rename_i b;have hy:=R.yielded hg ht hb;by_cases gS:b=want
   ·subst gS;rw[if_pos (by simp[eh,cP,hy])];exact next (h.1 rfl) (rH hb)
   ·have r9:b= !want:=by cases b<;>cases want<;>simp_all
    rw[if_neg (by simp[eh,cP,hy,gS])];obtain⟨hd,h2⟩:=h.2 r9;rw[<-r9,rH hb]at h2;exact⟨λ_ _=>trivial,qv hK l _ _ _ ⟨g,hg.put hd (.skp _)⟩ h2⟩
theorem afG {c:IC}{Q:Exit->Ix->St->Prop}{s:St}{k id:Nat}{l1 l2:List Oper}{fx x:Operand}{dst:Option Tmp}{at_:Array TypeId}{ty:TypeId}{pos:String}{aft:Array Edge}
  (h:∀K1:St->Prop,(∀s1 d,s1.ev fx= .val (.func (.yield c.l) #[] #[])->gm s1.bx s1.rw [s1.ev x]=some d->c.xs[k]? =some d->bd s1 dst->
    (∀b:Bool,bZ c.P (l1++⟨dst, .call ⟨.value fx,#[x],at_⟩,ty,pos,aft,none⟩::l2) l2 (s1.put dst (.bool b)) (λs2=>Q .normal (b,k + 1) s2))->K1 s1)->
   bZ c.P (l1++⟨dst, .call ⟨.value fx,#[x],at_⟩,ty,pos,aft,none⟩::l2) l1 s K1):
  IA c (.region id (l1++⟨dst, .call ⟨.value fx,#[x],at_⟩,ty,pos,aft,none⟩::l2).toArray false) Q (true,k) s:=by
 intro aW a w T S M hJ ⟨lt,g,e1,e2,hg⟩;obtain⟨y,hy⟩:∃y:Oper,y=⟨dst, .call ⟨.value fx,#[x],at_⟩,ty,pos,aft,none⟩:=⟨_,rfl⟩;rw[<-hy]at h⊢;refine wpIn_region_lit ?_;have sZ:=h (λs1=>∃d,s1.ev fx= .val (.func (.yield c.l) #[] #[])/\gm s1.bx s1.rw [s1.ev x]=some d/\c.xs[k]? =some d/\bd s1 dst/\
   ∀b:Bool,bZ c.P (l1++y::l2) l2 (s1.put dst (.bool b)) (λs2=>Q .normal (b,k + 1) s2)) (λs1 d h1 h2 h3 h4 h6=>⟨d,h1,h2,h3,h4,h6⟩)
 refine qv (c:=⟨c.P,w,S,M,none,λb=>T b\/w.heap.size<=b,[]⟩) (λs1 a1 w1 fO cX=> ?_) l1 s a w ⟨g,hg⟩ sZ;obtain⟨g1,aK⟩:=fO;obtain⟨d,h1,h2,h3,h4,h6⟩:=cX;obtain⟨T1,hi,hr⟩:=IR.next lt aK;have EG:=aW.ab (true,k) _ _ _ _ _ _ _ _ hJ hi;have ql:=aK.ev fx;rw[h1]at ql;generalize hv:a1.eval fx=vf at ql;cases ql;obtain⟨q1,q2⟩:=u9 h2;have hY:=aW.rd k T1 g1.S g1.M w1 [a1.eval x] d h3 EG (by rw[q1];rfl) (λq dd hq=>by
  obtain⟨z,hz,hp⟩:=q2 q dd hq;have sS:q=0:=by have:=(aQ.1 hz).1;simp at this;exact this
  subst sS;simp at hz;subst hz;exact rI aK (aK.ev x) hp)
 obtain⟨fn,tmps,assign,body,aV,DU⟩:=hY;show wpListIn cE 0 c.P _ _ (y::l2) a1 w1;unfold wpListIn;rw[if_pos (by rw[hy];simp[eh])];refine⟨λ_ _=>trivial, ?_⟩;have yW:(y.semAt cE.round a1.eval).run c.P w1= .ok (.round c.l fn tmps assign body) w1:=by
  rw[Oper.semAt_eq _ _ _ (by rw[hy];intro cl h;cases h),hy];simp[execOp,resolve,hv,Deferred.ofValue,invoke,aV]
 rw[yW,Oper.uponIn_round];refine⟨λh=>(by cases h),DU.mono ?_⟩;rintro e w2 ⟨S2,M2,hf,iY⟩;have cV:=hr.round hf;have fin:∀b:Bool,JX c.J c.Jx (b,k + 1) T1 S2 M2 w2->wpListIn cE 0 c.P (l1++y::l2).toArray (λe a' w'=>∃i' s' T' S' M',JX c.J c.Jx i' T' S' M' w'/\IR c.P T' S' M' s' a' w'/\Q e i' s') l2 (a1.put y.dst (.bool b)) w2:=by
  intro b kx;obtain⟨Dt,g2,f1,f2,fk⟩:=cV;have jo:RG ⟨c.P,w2,S2,M2,none,λb=>T1 b\/w2.heap.size<=b,[]⟩ (s1.put dst (.bool b)) (a1.put dst (.bool b)) w2 g2:=fk.put h4 (.bool _ _);have lO:y.dst=dst:=by rw[hy]
  rw[lO];refine qu (c:=⟨c.P,w2,S2,M2,none,λb=>T1 b\/w2.heap.size<=b,[]⟩) (K:=λs2=>Q .normal (b,k + 1) s2) (λs3 a3 w3 jV nf=> ?_) l2 _ _ _ ⟨g2,jo⟩ (h6 b);obtain⟨g3,de⟩:=jV;obtain⟨T3,xl,DV⟩:=IR.next Dt de;exact⟨(b,k + 1),s3,T3,_,_,aW.ab (b,k + 1) _ _ _ _ _ _ _ _ kx xl,DV,nf⟩
 rcases iY with⟨rfl,kx⟩|⟨rfl,kx⟩
 ·exact fin true kx
 ·exact fin false kx
def ab_ (n:Nat)(rs:Array ResultVar):Exit->Ix->St->Prop
 | .normal,i,_=>(i.1=true->i.2=n)/\rs=#[]
 | .ret,i,_=>(i.1=true->i.2=n)/\rs=#[]
 |_,_,_=>False
theorem LA {P:Program}{f:FuncId}{fn:Func}{code:Code}{cs:List D}{xs:List (List D)}{n:Nat}{rs:Array ResultVar}(hf:P.funcs[f]? =some fn)(hn:fn.ntmps=n)(hr:fn.results=rs)
  (hc:∀(args:Array Value) (w:World),(callFunc f args).run P w= .ok (.enter f args) w)(hb:fn.body=some code)(hl:cs.length + 1<=n)
  (h:∀(l:Nat) (J Jx:Nat->Inv),IA ⟨P,l,xs,J,Jx⟩ code (ab_ xs.length rs) (true,0) ⟨n,kQ 0 (.val (.func (.yield l) #[] #[])::cs),[],[]⟩):Iter P f cs xs:=by
 subst hn;subst hr
 refine⟨hc,λS M w lb zp hS hM qZ bw l J Jx ML MK hY MN=> ?_⟩;refine(callsIn_wide (n:=0)).1 (callsIn_of_wp_marks hf hb trivial ?_);have aW:IC.Ok ⟨P,l,xs,J,Jx⟩:=⟨λi=>by obtain⟨b,k⟩:=i;cases b;exact MK k;exact ML k,hY⟩
 let args:Array Value:=(tv (.yield l) #[] #[]::lb).toArray
 have hw:=h l J Jx aW {tmps:=args++gW (fn.ntmps - args.size) undef,defers:=[]} w (λ_=>False) S M MN
  ⟨λb h=>h.elim,⟨S,[],[],M⟩,rfl,rfl,⟨⟨⟨uK,λd hd=>by cases hd⟩,hM,λ_ _ h=>h,λ_ _ h=> .inl h,λi b h=>by simp at h,λ_ _=>rfl,⟨zp,λb vs hv hm=>hm.elim (λhm=>hm.elim (λh=>h.elim) (λhl=>absurd (zp.lt b vs hv) (Nat.not_lt.2 hl))) (λhm=>hm (zp.tY hM b vs hv))⟩⟩,by simp[args];omega, .of (oW _ _),λ_ h=> .inr h,hS,λ_ h=> .inl h,λ_ h=>h,hS,rfl,rfl,λm=> ?_,λi cs hi=>by simp at hi,λi cs hi=>by simp at hi,λi cs hi=>by simp at hi,⟨λ_=> .inl 0,λi x b hi=>by simp at hi,λr row v gb hr=>by simp at hr⟩,λi es hi=>by simp at hi⟩⟩
 ·refine wpIn_mono (F:=cE) hw ?_;rintro e a' w' ⟨i',s',T',S',M',iT,⟨lt,g,rfl,rfl,hg⟩,hq⟩;have fin:(i'.1=true->i'.2=xs.length)->fn.results=#[]->LeavesInM cE 0 P fn a'.tmps (λe w'=>(∃v,e= .returned v)/\∃T S' M',J xs.length T S' M' w'\/∃k,Jx k T S' M' w') a'.defers .returning w':=λhi iY=>by
   refine AL (c:=⟨P,w',g.S,g.M,none,λb=>T' b\/w'.heap.size<=b,[]⟩) (s:=s') (g:=g) (ds:=[]) a'.defers a' w' hg rfl (by rw[iY];rfl) (λv uV hr _=> ?_);obtain⟨vS,jW,_⟩:=IR.next lt hr;have kx:=aW.ab i' _ _ _ _ _ _ _ _ iT jW;refine⟨⟨v,rfl⟩,vS,g.S,g.M, ?_⟩;obtain⟨b,k⟩:=i';cases b with
   |true=>
    have hk:k=xs.length:=hi rfl;subst hk;exact .inl kx
   |false=>exact .inr ⟨k,kx⟩
  cases e<;>first|exact fin hq.1 hq.2|exact hq.elim
 ·simp only;rw[tU];simp only[Nat.not_lt_zero,if_false,Nat.sub_zero];have e:(args++gW (fn.ntmps - args.size) undef).getD m undef=(tv (.yield l) #[] #[]::lb).getD m undef:=by
   simp only[args,Array.getD_eq_getD_getElem?,List.getD_eq_getElem?_getD];rw[Array.getElem?_append];split
   ·simp
   ·rename_i hm;rw[pM (by simpa using hm)];simp[Array.getElem?_replicate];split<;>rfl
  rw[e];cases m with
  |zero=>exact .val _ _
  |succ m=>
   simp only[List.getElem?_cons_succ,List.getD_cons_succ];cases hd:cs[m]? with
   |none=>exact .undef _ _
   |some x=>exact bw m x hd
end Go.Ab
namespace Go.Ab
theorem afF {c:IC}{Q:Exit->Ix->St->Prop}{s:St}{k id:Nat}{l:List Oper}(n:Nat){fx x:Operand}{dst:Option Tmp}{at_:Array TypeId}{ty:TypeId}{pos:String}{aft:Array Edge}
  (hl:l=l.take n++⟨dst, .call ⟨.value fx,#[x],at_⟩,ty,pos,aft,none⟩::l.drop (n + 1))
  (h:∀K1:St->Prop,(∀s1 d,s1.ev fx= .val (.func (.yield c.l) #[] #[])->gm s1.bx s1.rw [s1.ev x]=some d->c.xs[k]? =some d->bd s1 dst->
    (∀b:Bool,bZ c.P l (l.drop (n + 1)) (s1.put dst (.bool b)) (λs2=>Q .normal (b,k + 1) s2))->K1 s1)->
   bZ c.P l (l.take n) s K1):
  IA c (.region id l.toArray false) Q (true,k) s:=by
 have h2:=afG (c:=c) (Q:=Q) (s:=s) (k:=k) (id:=id) (l1:=l.take n) (l2:=l.drop (n + 1)) (fx:=fx) (x:=x) (dst:=dst) (at_:=at_) (ty:=ty) (pos:=pos) (aft:=aft);rw[<-hl]at h2;exact h2 h
end Go.Ab
namespace Go.Ab
section
variable {P:Program} {b:Frame} {a:Act} {k:List Item} {cs:List Frame} {w:World} {F:Fence} {n:Nat} {Q:Exit->Act->World->Prop}
theorem Ap {c:Code}:step P (lone (b.atR a (.code (.scope c)::k)) cs w)= .next (lone (b.atR a (.code c:: .inScope c::k)) cs w):=
 step_lone_go (by simp[stepG,stepG.exec,Frame.atR])
theorem aak {c:Code}:step P (lone (b.atR a (.inScope c::k)) cs w)= .next (lone (b.atR a k) cs w):=
 step_lone_go (by simp[stepG,stepG.exec,Frame.atR])
theorem Pa {c:Code}(h:c.wpIn F n P (Exit.noGoto Q) a w):(Code.scope c).wpIn F n P Q a w:=by
 intro b k cs qe hb hr;have h0:(lone (b.atR a (.code (.scope c)::k)) cs w).fenced P F:=fenced_calm hb hr rfl;obtain⟨e,a₁,w₁,hq,gg⟩:=h b (.inScope c::k) cs qe hb hr;cases e with
 |normal=>exact⟨.normal,a₁,w₁,hq, .head h0 Ap (StepsIn.trans gg (.one (fenced_calm hb hr rfl) aak))⟩
 |exit nS=>
  have hx:exitTo nS (.inScope c::k)=exitTo nS k:=by simp[exitTo]
  exact⟨.exit nS,a₁,w₁,hq,λk' hk=> .head h0 Ap (gg.1 k' (by rw[hx];exact hk)),
   λcW hk=>let⟨k₁,h1,h2⟩:=gg.2 cW (by rw[hx];exact hk);⟨k₁,h1, .head h0 Ap h2⟩⟩
 |goto l=>exact hq.elim
 |ret=>exact⟨_,a₁,w₁,hq, .of_steps (.one h0 Ap) gg⟩
 |panic ch=>exact⟨_,a₁,w₁,hq, .of_steps (.one h0 Ap) gg⟩
 |outgrown=>exact⟨_,a₁,w₁,hq, .of_steps (.one h0 Ap) gg⟩
end
def gv (Q:Exit->Ix->St->Prop):Exit->Ix->St->Prop
 | .goto _,_,_=>False
 |e,i,s=>Q e i s
theorem nV {c:IC}{Q:Exit->Ix->St->Prop}{i:Ix}{s:St}{x:Code}(h:IA c x (gv Q) i s):IA c (.scope x) Q i s:=by
 intro aW a w T S M hJ hr;refine Pa (wpIn_mono (h aW a w T S M hJ hr) ?_);rintro e a' w' ⟨i',s',T',S',M',iT,r,q⟩;cases e<;>first|exact⟨i',s',T',S',M',iT,r,q⟩|exact q.elim
theorem nX {c:IC}{Q:Exit->Ix->St->Prop}{i:Ix}{s:St}{l:Nat}(h:Q .normal i s):IA c (.label l) Q i s:=λ_ a w T S M hJ hr=>wpIn_label ⟨i,s,T,S,M,hJ,hr,h⟩
end Go.Ab
section
namespace Go.Ab
open Go.RowKit
def NU:Op->Bool
 | .move _| .assign _| .alloc _| .load .. | .store .. | .extract .. | .fieldAddr .. | .makeFunc .. | .unOp .. =>true
 |_=>false
theorem IL {P:Program}{w w':World}{s:Sem Value}{n:Next}(h:(do pure (.value (<-s)):Sem Next).run P w= .ok n w'):∃v,n= .value v:=by
 rw[pL]at h;cases hr:s.run P w with
 |ok v w2=>rw[hr]at h;simp only[sr,uI]at h;cases h;exact⟨v,rfl⟩
 |halt x w2=>rw[hr]at h;cases h
theorem Ws {P:Program}{w w':World}{s:Sem Unit}{n:Next}(h:(do s;pure .skip:Sem Next).run P w= .ok n w'):n= .skip:=by
 rw[pL]at h;cases hr:s.run P w with
 |ok v w2=>rw[hr]at h;simp only[sr,uI]at h;cases h;rfl
 |halt x w2=>rw[hr]at h;cases h
theorem akv {P:Program}{ρ:Operand->Value}{o:Oper}{w w':World}{n:Next}(hc:NU o.op=true)(h:(execOp ρ o).run P w= .ok n w'):(∃v,n= .value v)\/n= .skip:=by
 obtain⟨dst,op,ty,pos,aft,gd⟩:=o;cases op<;>first|(cases hc;done)|skip
 all_goals first
  |(exact .inl (IL h))
  |(exact .inr (Ws h))
  |(simp only[execOp,uI]at h;cases h;exact .inl ⟨_,rfl⟩)
def RX (l1 l2:List Deferred)(c:Ctx)(s:St)(a:Act)(w:World):Prop:=a.defers=l1/\R c s {a with defers:=l2} w
section
variable {c:Ctx} {l1 l2:List Deferred} {s:St} {a:Act} {w:World}
theorem abK {o:Oper}{K:St->Prop}{Q':Exit->Act->World->Prop}{N:Act->World->Prop}(hc:NU o.op=true)(hr:RX l1 l2 c s a w)(aM:cZ c.P o s K)(hN:∀s' a' w',RX l1 l2 c s' a' w'->K s'->N a' w'):o.wpIn c.F 0 c.P a w N Q':=by
 obtain⟨hd,g,hg⟩:=hr;have hs:=uY (Q:=λ_ _ _=>False) hg aM;refine gK (λcl e=>by rw[e]at hc;cases hc) ?_;unfold Oper.wp at hs⊢;have he:({a with defers:=l2}:Act).eval=a.eval:=rfl;rw[he]at hs;have il:∀v,(a.put o.dst v).defers=l1/\({a.put o.dst v with defers:=l2}:Act)=({a with defers:=l2}:Act).put o.dst v:=λv=>by
  cases o.dst with
  |none=>exact⟨hd,rfl⟩
  |some n=>exact⟨hd,rfl⟩
 cases aV:(execOp a.eval o).run c.P w with
 |ok n w'=>
  rw[aV]at hs;rcases akv hc aV with⟨v,rfl⟩|rfl
  ·obtain⟨s',h1,h2⟩:=hs;exact hN s' _ _ ⟨(il v).1,(il v).2▸h1⟩ h2
  ·obtain⟨s',h1,h2⟩:=hs;exact hN s' _ _ ⟨(il undef).1,(il undef).2▸h1⟩ h2
 |halt x w'=>
  rw[aV]at hs;cases x<;>exact hs.elim
theorem Aw {ops:Array Oper}{K:St->Prop}{Q:Exit->Act->World->Prop}{rest:List Oper}(hK:∀s a w,RX l1 l2 c s a w->K s->wpListIn c.F 0 c.P ops Q rest a w):∀(l:List Oper) (s:St) (a:Act) (w:World),(l.all λo=>NU o.op&&o.guard.isNone)=true->RX l1 l2 c s a w->bZ c.P ops.toList l s K->wpListIn c.F 0 c.P ops Q (l++rest) a w
 |[],s,a,w,_,hr,h=>hK s a w hr h
 |o::l,s,a,w,hl,hr,h=>by
  simp only[List.all_cons,c_,Option.isNone_iff_eq_none]at hl;obtain⟨⟨h1,h2⟩,h3⟩:=hl;unfold bZ at h;rw[h2]at h;show wpListIn _ _ _ _ _ (o::(l++rest)) a w;unfold wpListIn;rw[if_pos (by simp[eh,h2])];exact abK h1 hr h (λs' a' w' cW fW=>Aw hK l s' a' w' (by simpa using h3) cW fW)
theorem RX.tick (hr:RX l1 l2 c s a w):RX l1 l2 c s a {w with drawn:=w.drawn + 1}:=⟨hr.1,RG.BH hr.2⟩
theorem RX.le {s':St}(hr:RX l1 l2 c s a w)(hl:Le s s')(hn:s'.named)(h0:c.β0.length<=s'.bx.length):RX l1 l2 c s' a w:=⟨hr.1,hr.2.le hl hn h0⟩
end
theorem RG.zz {c:Ctx}{st:St}{a a':Act}{W:World}{g:Gh}{n:Nat}{sl:Nat->D}(h:RG c st a W g)(hd:a'.defers=[])(hs:a'.tmps.size=n)(ed:∀m,Rel W g (a'.tmps.getD m bp) (sl m)):
  RG ⟨c.P,W,g.S,g.M,none,λb=>W.heap.size<=b\/(c.own b/\dp W b),g.β⟩ ⟨n,sl,st.bx,st.rw⟩ a' W g:=by
 refine⟨⟨⟨by rw[hd];exact uK,λd h=>by rw[hd]at h;cases h⟩,h.df.bO,λ_ _ h=>h,λ_ _ h=> .inl h,λ_ _ h=>h,λ_ _=>rfl,h.df.fD.own h.below h.df.bO (λb hb=>hb.elim .inl λh1=> .inr (.inl h1.1))⟩,hs, .of (oW _ _),λ_ h=> .inl h,h.ba,λ_ h=> .inl h,λ_ h=>h,h.ba,h.lβ,h.lρ,ed,λi cs hi=> ?_,λi cs hi=> ?_,λr row hr=> ?_,h.ap,λi es hi=>(h.mp i es hi).imp λb hm=>hm.ctx (.inr ⟨hm.own,hm.Ea⟩)⟩
 ·obtain⟨b,vs,t,e1,e2,e3,e4,e5⟩:=(h.bx i cs hi).ex;exact⟨b,vs,t,e1,e2,e3, .inr ⟨e4, .inl ⟨_,_,_,e2⟩⟩,e5⟩
 ·obtain⟨b,vs,t,e1,e2,e3,e4,e5⟩:=(h.fz i cs hi).ex;exact⟨b,vs,t,e1,e2,e3, .inr ⟨e4, .inl ⟨_,_,_,e2⟩⟩,e5⟩
 ·obtain⟨v,e1,e2,e3⟩:=(h.rw r row hr).ex;refine⟨v,e1,e2,λhl=> ?_⟩;obtain⟨h1,h2,h3⟩:=e3 hl;refine⟨h1,h2,λgb aI=>⟨.inr ⟨(h3 gb aI).1, ?_⟩,(h3 gb aI).2⟩⟩;obtain⟨vals,bI⟩:=h1;rcases bI.2 with⟨rfl,_⟩|⟨g2,cap,cur,rfl,_,fH,_⟩
  ·simp[je]at aI
  ·simp[je]at aI;subst aI;exact .inl ⟨_,_,_,fH⟩
theorem RG.yL {c:Ctx}{st s2:St}{a a2:Act}{W W2:World}{g g2:Gh}(h:RG c st a W g)
  (h2:RG ⟨c.P,W,g.S,g.M,none,λb=>W.heap.size<=b\/(c.own b/\dp W b),g.β⟩ s2 a2 W2 g2)(ed:∀m,Names st.bx.length 0 (st.sl m)):RG c ⟨st.n,st.sl,s2.bx,s2.rw⟩ a W2 g2:=by
 have bI:∀b,(W.heap.size<=b\/(c.own b/\dp W b))->c.own b:=λb hb=>hb.elim (λh1=>h.cu b (fu h.below.size h1)) (λh1=>h1.1);refine h.back h2 (h2.later rfl rfl rfl (λ_ hb=>hb)) bI bI h2.df.gD ed (λd hd D hD hb=> ?_);obtain⟨D',_,rfl,kX⟩:=h.df.cN.2 d hd;cases hD;have aG:=(bt.1 kX).1;rcases hb with hb|⟨_,hb⟩
 ·omega
 ·exact dp.not kX rfl aO hb
end Go.Ab
end
section
namespace Go.Ab
open Go.RowKit
section
variable {c:Ctx} {l1 l2:List Deferred} {s:St} {a:Act} {w:World}
def fB (l1 l2:List Deferred)(c:Ctx)(code:Code)(Q:Exit->St->Prop)(s:St):Prop:=∀a w,RX l1 l2 c s a w->code.wpIn c.F 0 c.P (λe a' w'=>∃s',RX l1 l2 c s' a' w'/\Q e s') a w
theorem oD {Q:Exit->St->Prop}(h:Q .normal s):fB l1 l2 c .skip Q s:=λ_ _ hr=>wpIn_skip ⟨s,hr,h⟩
theorem oF {Q:Exit->St->Prop}(h:Q .ret s):fB l1 l2 c .ret Q s:=λ_ _ hr=>wpIn_ret ⟨s,hr,h⟩
theorem oE {x y:Code}{Q:Exit->St->Prop}(h:fB l1 l2 c x (bH (fB l1 l2 c y Q) Q) s):fB l1 l2 c (.seq x y) Q s:=by
 intro a w hr;refine wpIn_seq (wpIn_mono (h a w hr) ?_);rintro e a' w' ⟨s',r,q⟩;cases e with
 |normal=>exact q a' w' r
 |_=>exact⟨s',r,q⟩
theorem oH {x:Operand}{t e:Code}{Q:Exit->St->Prop}(h:o0 (s.ev x) λb=>(b=true->fB l1 l2 c t Q s)/\(b=false->fB l1 l2 c e Q s)):fB l1 l2 c (.cond x t e) Q s:=by
 intro a w hr;obtain⟨hd,g,hg⟩:=hr;obtain⟨b,hv,_,h1,h2⟩:=J0 (hg.ev x) h;have n4:a.eval x= .bool b:=hv;cases b with
 |true=>exact wpIn_cond_split n4 (λ_=>h1 rfl a w ⟨hd,g,hg⟩) (λh=>by cases h)
 |false=>exact wpIn_cond_split n4 (λh=>by cases h) (λ_=>h2 rfl a w ⟨hd,g,hg⟩)
end
end Go.Ab
end
namespace Go.Ab
open Go.RowKit
section
variable {P:Program}
def ef (P:Program)(ops:List Oper)(o:Oper)(sl:Nat->D)(bx:List Bx)(rw:List Row)(k:List Bx×D->Prop):Prop:=match kindOf o.op with
 | .A=>jJ P ops o sl bx rw λd=>k (bx,d)
 | .B=>jJ P ops o sl bx rw λd=>k (bx,d)
 | .L=>EO o/\jZ P o.op (cF sl) bx k
 | .W=>EO o/\jZ P o.op (cF sl) bx k
 | .X=>False
theorem pG {ops:List Oper}{o:Oper}{sl:Nat->D}{bx:List Bx}{rw:List Row}(h:kindOf o.op= .A\/kindOf o.op= .B):ef P ops o sl bx rw=λk=>jJ P ops o sl bx rw λd=>k (bx,d):=by
 funext k;unfold ef;rcases h with h|h<;>rw[h]
theorem iI {ops:List Oper}{o:Oper}{sl:Nat->D}{bx:List Bx}{rw:List Row}(h:kindOf o.op= .L\/kindOf o.op= .W):ef P ops o sl bx rw=λk=>EO o/\jZ P o.op (cF sl) bx k:=by
 funext k;unfold ef;rcases h with h|h<;>rw[h]
theorem xH (ops:List Oper)(o:Oper)(sl:Nat->D)(bx:List Bx)(rw:List Row):CP (ef P ops o sl bx rw):=by
 cases h:kindOf o.op with
 |A=>rw[pG (.inl h)];exact(k5 _ _ _ _ _).bind (U:=λd k=>k (bx,d)) λd=> .ret _
 |B=>rw[pG (.inr h)];exact(k5 _ _ _ _ _).bind (U:=λd k=>k (bx,d)) λd=> .ret _
 |L=>rw[iI (.inl h)];exact .and _ (uC _ _ _)
 |W=>rw[iI (.inr h)];exact .and _ (uC _ _ _)
 |X=>
  have:ef P ops o sl bx rw=λ_=>False:=by funext k;unfold ef;rw[h]
  rw[this];exact .no
theorem xz {ops:List Oper}{o:Oper}{s:St}{K:St->Prop}(hx:kindOf o.op≠ .X)(hg:kindOf o.op= .L\/kindOf o.op= .W->o.guard=none):
  eY P ops o s K↔bd s o.dst/\ef P ops o s.sl s.bx s.rw λr=>K (St.put ⟨s.n,s.sl,r.1,s.rw⟩ o.dst r.2):=by
 cases h:kindOf o.op with
 |A=>rw[pG (.inl h)];exact ou (.inl h)
 |B=>rw[pG (.inr h)];exact ou (.inr h)
 |L=>rw[iI (.inl h)];exact sd (.inl h) (hg (.inl h))
 |W=>rw[iI (.inr h)];exact sd (.inr h) (hg (.inr h))
 |X=>exact absurd h hx
theorem VH {ops:Array Oper}{o:Oper}{s:St}{dst:Option Tmp}{d:D}{bx:List Bx}{rw:List Row}{k:List Bx×D->Prop}(h:∀t,dst=some t->t∉o.looksAt ops):
  ef P ops.toList o (St.put s dst d).sl bx rw k↔ef P ops.toList o s.sl bx rw k:=by
 cases hk:kindOf o.op with
 |A=>rw[pG (.inl hk),pG (.inl hk)];exact Bz h
 |B=>rw[pG (.inr hk),pG (.inr hk)];exact Bz h
 |L=>rw[iI (.inl hk),iI (.inl hk)];exact and_congr Iff.rfl ⟨BG (zy h),BG λx hx=>(zy h x hx).symm⟩
 |W=>rw[iI (.inr hk),iI (.inr hk)];exact and_congr Iff.rfl ⟨BG (zy h),BG λx hx=>(zy h x hx).symm⟩
 |X=>unfold ef;rw[hk]
theorem QW {n:Nat}{sl:Nat->D}{bx:List Bx}{rw:List Row}{x:Option Tmp}{v:D}:(St.put ⟨n,sl,bx,rw⟩ x v).bx=bx:=by cases x<;>rfl
theorem QT {n:Nat}{sl:Nat->D}{bx:List Bx}{rw:List Row}{x:Option Tmp}{v:D}:(St.put ⟨n,sl,bx,rw⟩ x v).rw=rw:=by cases x<;>rfl
theorem ac9 {n:Nat}{sl:Nat->D}{bx aB:List Bx}{rw:List Row}{x:Option Tmp}{v:D}:(⟨(St.put ⟨n,sl,bx,rw⟩ x v).n,(St.put ⟨n,sl,bx,rw⟩ x v).sl,aB,(St.put ⟨n,sl,bx,rw⟩ x v).rw⟩:St)=St.put ⟨n,sl,aB,rw⟩ x v:=by cases x<;>rfl
theorem ac8 {n:Nat}{sl:Nat->D}{bx aB:List Bx}{rw:List Row}{x:Option Tmp}{v:D}:(⟨(St.put ⟨n,sl,bx,rw⟩ x v).n,(St.put ⟨n,sl,bx,rw⟩ x v).sl,aB,rw⟩:St)=St.put ⟨n,sl,aB,rw⟩ x v:=by cases x<;>rfl
theorem VN {s:St}{n:Nat}{sl:Nat->D}{bx:List Bx}{rw:List Row}{x y:Option Tmp}{v:D}(hn:n=s.n):bd (St.put ⟨n,sl,bx,rw⟩ x v) y↔bd s y:=by
 subst hn;cases x<;>exact Iff.rfl
theorem Z5 {ops:Array Oper}{oi oj:Oper}{s:St}{K D0:St->Prop}(ra:oi.apart ops oj=true)(Th:kindOf oi.op≠ .X)(Tg:kindOf oj.op≠ .X)
  (Ei:kindOf oi.op= .L\/kindOf oi.op= .W->oi.guard=none)(Eh:kindOf oj.op= .L\/kindOf oj.op= .W->oj.guard=none)
  (comm:∀cH d oC e,D0 (St.put ⟨s.n,s.sl,cH,s.rw⟩ oi.dst d)->ef P ops.toList oi s.sl s.bx s.rw (λr=>r=(cH,d))->ef P ops.toList oj s.sl cH s.rw (λr=>r=(oC,e))->
   ∃rj,ef P ops.toList oj s.sl s.bx s.rw (λr=>r=(rj,e))/\ef P ops.toList oi s.sl rj s.rw (λr=>r=(oC,d))):
  eY P ops.toList oi s (λs1=>eY P ops.toList oj s1 K/\D0 s1)->eY P ops.toList oj s (λs1=>eY P ops.toList oi s1 K):=by
 obtain⟨h1,h2,h3⟩:=Oper.apart_spec ra;intro h;obtain⟨hd,h⟩:=(xz Th Ei).1 h;obtain⟨⟨cH,d⟩,hi,h,hD⟩:=(xH _ _ _ _ _).ex h;obtain⟨dN,h⟩:=(xz Tg Eh).1 h;obtain⟨⟨oC,e⟩,hj,hK⟩:=(xH _ _ _ _ _).ex h;simp only[QW,QT]at hj;have hj:=(VH (s:=⟨s.n,s.sl,cH,s.rw⟩) h1).1 hj;obtain⟨rj,c1,c2⟩:=comm cH d oC e hD hi hj;refine(xz Tg Eh).2 ⟨(VN rfl).1 dN,(xH _ _ _ _ _).mono (λr hr=> ?_) c1⟩;subst hr;refine(xz Th Ei).2 ⟨(VN rfl).2 hd, ?_⟩;simp only[QW,QT];refine(VH (s:=⟨s.n,s.sl,rj,s.rw⟩) h3).2 ((xH _ _ _ _ _).mono (λr hr=> ?_) c2);subst hr;simp only[ac9,ac8]at hK⊢;rw[<-QU h2];exact hK
def sk:Op->Option Tmp
 | .load _ (.tmp p)=>some p
 | .store _ (.tmp q) _=>some q
 |_=>none
def IZ (o:Oper):Option Tmp:=match o.op with| .alloc _=>o.dst|_=>none
def sg:D->D->Prop
 | .box i _, .box j _=>i≠j
 |_,_=>True
def wo (ops:Array Oper):Bool:=(ct ops.size).all λi=>match ops[i]? with
 |some o=>(match sk o.op with
   |some m=>o.dst !=some m&&(ct ops.size).all λk=>match ops[k]? with|some ok=>ok.dst !=some m||o.after.any (λe=>gV .any e&&e.on == k)|none=>true
   |none=>true)&&
  (match IZ o with
   |some m=>(ct ops.size).all λk=>k == i||match ops[k]? with|some ok=>ok.dst !=some m|none=>true
   |none=>true)
 |none=>true
theorem JT {ops:Array Oper}(h:wo ops=true){i:Nat}{o:Oper}{m:Tmp}(ho:ops[i]? =some o)(hm:sk o.op=some m):
  o.dst≠some m/\∀(k:Nat) (ok:Oper),ops[k]? =some ok->ok.dst=some m->∃e∈o.after,gV .any e=true/\e.on=k:=by
 have hi:=(bt.1 ho).1;have h1:=iD.1 h i (oR.2 hi);simp only[ho,hm,c_,bne_iff_ne,ne_eq,iD,oR]at h1;refine⟨h1.1.1,λk ok hk hd=> ?_⟩;have h2:=h1.1.2 k (bt.1 hk).1;simp only[hk,hd,qI,bne_self_eq_false,bK,false_or,O7,c_,beq_iff_eq]at h2;exact h2
theorem Yk {ops:Array Oper}(h:wo ops=true){i:Nat}{o:Oper}{m:Tmp}(ho:ops[i]? =some o)(hm:IZ o=some m):
  ∀(k:Nat) (ok:Oper),ops[k]? =some ok->ok.dst=some m->k=i:=by
 have hi:=(bt.1 ho).1;have h1:=iD.1 h i (oR.2 hi);simp only[ho,hm,c_,iD,oR]at h1;intro k ok hk hd;have h2:=h1.2 k (bt.1 hk).1;simpa[hk,hd]using h2
def Nt (ps:List (Tmp×Tmp))(oi oj:Oper):Bool:=match oi.op,oj.op with
 | .load _ (.tmp p), .store _ (.tmp q) _=>ps.contains (p,q)
 | .store _ (.tmp q) _, .load _ (.tmp p)=>ps.contains (p,q)
 | .store _ (.tmp q) _, .store _ (.tmp p) _=>ps.contains (p,q)
 | .alloc _, .load _ (.tmp p)=>match oi.dst with|some a=>ps.contains (p,a)|none=>false
 | .alloc _, .store _ (.tmp p) _=>match oi.dst with|some a=>ps.contains (p,a)|none=>false
 | .store .., .alloc _=>true
 | .store .., .call ⟨.value _,_,_⟩=>true
 | .call ⟨.value _,_,_⟩, .store .. =>true
 | .alloc _, .call ⟨.value _,_,_⟩=>true
 | .store .., .buildSlice .. =>true
 | .buildSlice .., .store .. =>true
 | .alloc _, .buildSlice .. =>true
 |_,_=>false
def zA (ps:List (Tmp×Tmp))(oi oj:Oper):Bool:=yH (kindOf oi.op) (kindOf oj.op)||Nt ps oi oj
def DC (ps:List (Tmp×Tmp))(oi oj:Oper)(s1:St):Prop:=∀x y,(x,y)∈ps->(sk oi.op=some x\/sk oj.op=some x)->(sk oi.op=some y\/sk oj.op=some y\/IZ oi=some y)->sg (s1.sl x) (s1.sl y)
def nJ (bx aB:List Bx):Prop:=∀(i:Nat) (cs:List D),bx[i]? =some (Bx.fz cs)↔aB[i]? =some (Bx.fz cs)
theorem KG {bx aB:List Bx}(h:nJ bx aB)(rw:List Row)(d:D):pV bx rw d=pV aB rw d:=by
 have key:∀{α:Type} (i:Nat) (f:List D->Option α),(match bx[i]? with|some (.fz cs)=>f cs|_=>none)=(match aB[i]? with|some (.fz cs)=>f cs|_=>none):=λi f=>by
  cases hb:bx[i]? with
  |none=>
   cases cr:aB[i]? with
   |none=>rfl
   |some b'=>cases b' with
    |fz cs=>have:=(h i cs).2 cr;rw[hb]at this;cases this
    |_=>rfl
  |some b=>cases b with
   |fz cs=>rw[(h i cs).1 hb]
   |dead=>
    cases cr:aB[i]? with
    |none=>rfl
    |some b'=>cases b' with
     |fz cs=>have:=(h i cs).2 cr;rw[hb]at this;cases this
     |_=>rfl
   |mp _=>
    cases cr:aB[i]? with
    |none=>rfl
    |some b'=>cases b' with
     |fz cs=>have:=(h i cs).2 cr;rw[hb]at this;cases this
     |_=>rfl
   |mu _=>
    cases cr:aB[i]? with
    |none=>rfl
    |some b'=>cases b' with
     |fz cs=>have:=(h i cs).2 cr;rw[hb]at this;cases this
     |_=>rfl
 cases d<;>first|rfl|exact key _ _
theorem KL {bx aB:List Bx}(h:nJ bx aB)(rw:List Row):∀ds,pf bx rw ds=pf aB rw ds
 |[]=>rfl
 |d::ds=>by simp only[pf,KG h,KL h rw ds]
theorem adg {bx aB:List Bx}(h:nJ bx aB)(rw:List Row)(d:D):qN bx rw d=qN aB rw d:=by
 unfold qN;split
 ·rw[KL h]
 ·exact KG h rw _
theorem Q3 {bx aB:List Bx}(h:nJ bx aB)(rw:List Row):∀ds,pW bx rw ds=pW aB rw ds
 |[]=>rfl
 |d::ds=>by simp only[pW,adg h,Q3 h rw ds]
theorem Q6 {bx aB:List Bx}(h:nJ bx aB)(rw:List Row)(d:D):ph bx rw d=ph aB rw d:=by
 unfold ph;split
 ·rw[Q3 h]
 ·rw[KL h]
 ·exact KG h rw _
theorem KI {bx aB:List Bx}(h:nJ bx aB)(rw:List Row):∀ds,jy bx rw ds=jy aB rw ds
 |[]=>rfl
 |d::ds=>by simp only[jy,Q6 h,KI h rw ds]
theorem adj {bx aB:List Bx}(h:nJ bx aB)(rw:List Row)(d:D):pg bx rw d=pg aB rw d:=by
 unfold pg;split
 ·rw[KI h]
 ·rw[KI h]
 ·rfl
 ·exact Q6 h rw _
theorem KM {bx aB:List Bx}(h:nJ bx aB)(rw:List Row):∀ds,gm bx rw ds=gm aB rw ds
 |[]=>rfl
 |d::ds=>by simp only[gm,adj h,KM h rw ds]
theorem nJ.symm {bx aB:List Bx}(h:nJ bx aB):nJ aB bx:=λi cs=>(h i cs).symm
theorem abu {bx:List Bx}{j:Nat}{cs cm:List D}(h:bx[j]? =some (.mu cs)):nJ bx (bx.set j (.mu cm)):=by
 have hj:=(aQ.1 h).1;intro i ds;by_cases vt:j=i
 ·subst vt;rw[h,jg hj];simp
 ·rw[gj vt]
theorem Qj {bx:List Bx}{cs:List D}:nJ bx (bx++[.mu cs]):=by
 intro i ds;rcases ft i bx.length with h|h
 ·rw[bQ h]
 ·rw[List.getElem?_append_right h,pM h];cases hh:i - bx.length with
  |zero=>simp
  |succ n=>simp
theorem U4 {ops:List Oper}{o:Oper}{sl:Nat->D}{bx aB:List Bx}{rw:List Row}{k:D->Prop}(h:∀k,eD P o.op (cF sl) bx rw k->eD P o.op (cF sl) aB rw k)(hh:jJ P ops o sl bx rw k):jJ P ops o sl aB rw k:=by
 unfold jJ at hh⊢;cases hg:o.guard with
 |none=>rw[hg]at hh;exact h _ hh
 |some jw=>
  obtain⟨j,want⟩:=jw;rw[hg]at hh;simp only at hh⊢;cases fP:iu ops j with
  |none=>rw[fP]at hh;exact hh
  |some t=>
   rw[fP]at hh;simp only[a_]at hh⊢;cases aM:sl t<;>rw[aM]at hh<;>simp only[wG]at hh⊢
   case skp=>exact hh
   rename_i b0;cases gS:b0 == want<;>rw[gS]at hh<;>simp only at hh⊢
   ·exact hh
   ·exact h _ hh
theorem Lo {t:TypeId}{p:Tmp}{sl:Nat->D}{bx aB:List Bx}{rw:List Row}(h:∀i off,sl p= .box i off->bx[i]? =aB[i]?):∀k,eD P (.load t (.tmp p)) (cF sl) bx rw k->eD P (.load t (.tmp p)) (cF sl) aB rw k:=by
 intro k hh;have hh:k9 P bx t (sl p) k:=hh;show k9 P aB t (sl p) k;cases hs:sl p<;>rw[hs]at hh<;>first|exact hh|skip
 rename_i i off;have:=h i off hs;simp only[k9,nE]at hh⊢;rw[<-this];exact hh
theorem NX {f:Operand}{xs:Array Operand}{at_:Array TypeId}{sl:Nat->D}{bx aB:List Bx}{rw:List Row}(h:nJ bx aB):∀k,eD P (.call ⟨.value f,xs,at_⟩) (cF sl) bx rw k->eD P (.call ⟨.value f,xs,at_⟩) (cF sl) aB rw k:=by
 intro k hh;have e:(λf fs cs=>a_ (gm bx rw (fs++xs.toList.map (cF sl)++cs)) λds=>dL P f ds k)=λf fs cs=>a_ (gm aB rw (fs++xs.toList.map (cF sl)++cs)) λds=>dL P f ds k:=by
  funext f fs cs;rw[KM h]
 have hh:lW (cF sl f) (λf fs cs=>a_ (gm bx rw (fs++xs.toList.map (cF sl)++cs)) λds=>dL P f ds k):=hh;rw[e]at hh;exact hh
theorem Kk {t:TypeId}{n:Nat}{q:Array (Nat×Operand)}{sl:Nat->D}{bx aB:List Bx}{rw:List Row}(h:nJ bx aB):∀k,eD P (.buildSlice t n q) (cF sl) bx rw k->eD P (.buildSlice t n q) (cF sl) aB rw k:=by
 intro k hh;simp only[eD]at hh⊢;rw[<-KM h];exact hh
theorem Ao {t:TypeId}{q:Tmp}{y:Operand}{sl:Nat->D}{bx cH:List Bx}{d:D}(h:jZ P (.store t (.tmp q) y) (cF sl) bx (λr=>r=(cH,d))):
  ∃i off cs,sl q= .box i off/\bx[i]? =some (.mu cs)/\d= .undef/\cH=bx.set i (.mu (cs.take off++(cF sl y).cells++cs.drop (off + (cF sl y).cells.length)))/\
   (aC P t≠0/\(cF sl y).cells.length=aC P t/\(cF sl y).cells.all D.one=true/\off + (cF sl y).cells.length<=cs.length):=by
 have h:(match sl q with
  | .box i off=>match bx[i]? with
   |some (.mu cs)=>aC P t≠0/\(cF sl y).cells.length=aC P t/\(cF sl y).cells.all D.one=true/\off + (cF sl y).cells.length<=cs.length/\
     (bx.set i (.mu (cs.take off++(cF sl y).cells++cs.drop (off + (cF sl y).cells.length))),D.undef)=(cH,d)
   |_=>False
  |_=>False):=h
 split at h
 ·rename_i i off hs;split at h
  ·rename_i cs hc;obtain⟨h1,h2,h3,h4,h5⟩:=h;cases h5;exact⟨i,off,cs,hs,hc,rfl,rfl,h1,h2,h3,h4⟩
  ·exact h.elim
 ·exact h.elim
theorem Gp {t:TypeId}{q:Tmp}{y:Operand}{sl:Nat->D}{bx:List Bx}{i off:Nat}{cs:List D}(hs:sl q= .box i off)(hb:bx[i]? =some (.mu cs))
  (h:aC P t≠0/\(cF sl y).cells.length=aC P t/\(cF sl y).cells.all D.one=true/\off + (cF sl y).cells.length<=cs.length):
  jZ P (.store t (.tmp q) y) (cF sl) bx (λr=>r=(bx.set i (.mu (cs.take off++(cF sl y).cells++cs.drop (off + (cF sl y).cells.length))), .undef)):=by
 show(match sl q with
  | .box i off=>match bx[i]? with
   |some (.mu cs)=>aC P t≠0/\(cF sl y).cells.length=aC P t/\(cF sl y).cells.all D.one=true/\off + (cF sl y).cells.length<=cs.length/\_
   |_=>False
  |_=>False)
 rw[hs];simp only[hb];exact⟨h.1,h.2.1,h.2.2.1,h.2.2.2,trivial⟩
theorem Gq {t:TypeId}{x y:Operand}{sl:Nat->D}{bx cH:List Bx}{d:D}(h:jZ P (.store t x y) (cF sl) bx (λr=>r=(cH,d))):nJ bx cH:=by
 have h:(match cF sl x with
  | .box i off=>match bx[i]? with
   |some (.mu cs)=>aC P t≠0/\(cF sl y).cells.length=aC P t/\(cF sl y).cells.all D.one=true/\off + (cF sl y).cells.length<=cs.length/\
     (bx.set i (.mu (cs.take off++(cF sl y).cells++cs.drop (off + (cF sl y).cells.length))),D.undef)=(cH,d)
   |_=>False
  |_=>False):=h
 split at h
 ·split at h
  ·rename_i cs hc;cases h.2.2.2.2;exact abu hc
  ·exact h.elim
 ·exact h.elim
theorem E8 {t:TypeId}{sl:Nat->D}{bx cH:List Bx}{d:D}(h:jZ P (.alloc t) (cF sl) bx (λr=>r=(cH,d))):∃zs,bL P t=some zs/\cH=bx++[.mu zs]/\d= .box bx.length 0:=by
 obtain⟨zs,hz,h⟩:=cM h;cases h;exact⟨zs,hz,rfl,rfl⟩
theorem WR {t:TypeId}{sl:Nat->D}{bx:List Bx}{zs:List D}(h:bL P t=some zs):jZ P (.alloc t) (cF sl) bx (λr=>r=(bx++[.mu zs], .box bx.length 0)):=by
 show a_ (bL P t) _;rw[h];rfl
theorem VE {ops:List Oper}{oi oj:Oper}{sl:Nat->D}{bx cH oC:List Bx}{rw:List Row}{d e:D}(vi:kindOf oi.op= .A\/kindOf oi.op= .B)(hi:ef P ops oi sl bx rw (λr=>r=(cH,d)))(hj:ef P ops oj sl cH rw (λr=>r=(oC,e)))
  (hb:∀k,eD P oi.op (cF sl) bx rw k->eD P oi.op (cF sl) oC rw k):∃rj,ef P ops oj sl bx rw (λr=>r=(rj,e))/\ef P ops oi sl rj rw (λr=>r=(oC,d)):=by
 rw[pG vi]at hi;obtain⟨d',hv,he⟩:=(k5 _ _ _ _ _).ex hi;cases he;refine⟨oC,hj, ?_⟩;rw[pG vi];exact(k5 _ _ _ _ _).mono (λx hx=>by rw[hx]) (U4 hb hv)
theorem EV {ops:List Oper}{oi oj:Oper}{sl:Nat->D}{bx cH oC:List Bx}{rw:List Row}{d e:D}(vj:kindOf oj.op= .A\/kindOf oj.op= .B)(hi:ef P ops oi sl bx rw (λr=>r=(cH,d)))(hj:ef P ops oj sl cH rw (λr=>r=(oC,e)))
  (hb:∀k,eD P oj.op (cF sl) cH rw k->eD P oj.op (cF sl) bx rw k):∃rj,ef P ops oj sl bx rw (λr=>r=(rj,e))/\ef P ops oi sl rj rw (λr=>r=(oC,d)):=by
 rw[pG vj]at hj;obtain⟨d',hv,he⟩:=(k5 _ _ _ _ _).ex hj;cases he;refine⟨bx, ?_,hi⟩;rw[pG vj];exact(k5 _ _ _ _ _).mono (λx hx=>by rw[hx]) (U4 hb hv)
theorem u6 {n:Nat}{sl:Nat->D}{bx:List Bx}{rw:List Row}{x:Option Tmp}{v:D}{m:Tmp}(h:x≠some m):(St.put ⟨n,sl,bx,rw⟩ x v).sl m=sl m:=by
 cases x with
 |none=>rfl
 |some t=>simp only[St.put,Ab.put];rw[if_neg (λe=>h (by rw[e]))]
theorem QS {n:Nat}{sl:Nat->D}{bx:List Bx}{rw:List Row}{v:D}{m:Tmp}:(St.put ⟨n,sl,bx,rw⟩ (some m) v).sl m=v:=by simp[St.put,Ab.put]
theorem aeq {ops:Array Oper}{o:Oper}{m:Tmp}(h:sk o.op=some m):m∈o.looksAt ops:=by
 obtain⟨dst,op,ty,pos,aft,gd⟩:=o;simp only[Oper.looksAt,List.mem_append,List.mem_filterMap];left;refine⟨.tmp m, ?_,rfl⟩;cases op<;>simp only[sk,reduceCtorEq]at h
 ·rename_i t x;cases x<;>simp only[reduceCtorEq]at h
  cases h;simp[Op.operands]
 ·rename_i t x y;cases x<;>simp only[reduceCtorEq]at h
  cases h;simp[Op.operands]
theorem aiI {ps:List (Tmp×Tmp)}{ops:Array Oper}{oi oj:Oper}{s:St}(h:Nt ps oi oj=true)(ra:oi.apart ops oj=true)(Hy:∀m,sk oi.op=some m->oi.dst≠some m):
  ∀cH d oC e,DC ps oi oj (St.put ⟨s.n,s.sl,cH,s.rw⟩ oi.dst d)->ef P ops.toList oi s.sl s.bx s.rw (λr=>r=(cH,d))->ef P ops.toList oj s.sl cH s.rw (λr=>r=(oC,e))->
   ∃rj,ef P ops.toList oj s.sl s.bx s.rw (λr=>r=(rj,e))/\ef P ops.toList oi s.sl rj s.rw (λr=>r=(oC,d)):=by
 obtain⟨h1,h2,h3⟩:=Oper.apart_spec ra;have Bs:∀m,sk oj.op=some m->oi.dst≠some m:=λm hm e=>h1 m e (aeq hm);obtain⟨di,op,ty,pos,aft,gd⟩:=oi;obtain⟨dj,op',Gg,pos',IY,gd'⟩:=oj;simp only at Hy Bs h1 h2 h3;intro cH d oC e hD hi hj;unfold Nt at h;simp only at h;split at h
 ·
  rename_i p _ q _;have mn:(p,q)∈ps:=by simpa using h
  have hd:=hD p q mn (.inl rfl) (.inr (.inl rfl));rw[u6 (Hy p rfl),u6 (Bs q rfl)]at hd;refine VE (.inr rfl) hi hj (Lo λi off hp=> ?_);have fQ:cH=s.bx:=by
   rw[pG (.inr rfl)]at hi;obtain⟨d',_,he⟩:=(k5 _ _ _ _ _).ex hi;cases he;rfl
  subst fQ;rw[iI (.inr rfl)]at hj;obtain⟨i',rK,cs,e1,e2,e3,e4,_⟩:=Ao hj.2;rw[hp,e1]at hd;rw[e4,gj (λe=>hd e.symm)]
 ·
  rename_i q _ _ p;have mn:(p,q)∈ps:=by simpa using h
  have hd:=hD p q mn (.inr rfl) (.inl rfl);rw[u6 (Bs p rfl),u6 (Hy q rfl)]at hd;refine EV (.inr rfl) hi hj (Lo λi off hp=> ?_);rw[iI (.inr rfl)]at hi;obtain⟨i',rK,cs,e1,e2,e3,e4,_⟩:=Ao hi.2;rw[hp,e1]at hd;rw[e4,gj (λe=>hd e.symm)]
 ·
  rename_i q y _ p z;have mn:(p,q)∈ps:=by simpa using h
  have hd:=hD p q mn (.inr rfl) (.inl rfl);rw[u6 (Bs p rfl),u6 (Hy q rfl)]at hd;rw[iI (.inr rfl)]at hi hj;obtain⟨i,off,cs,e1,e2,e3,e4,e5⟩:=Ao hi.2;obtain⟨i',rK,cm,f1,f2,f3,f4,f5⟩:=Ao hj.2;rw[f1,e1]at hd;subst e3 f3 e4;have hd:i'≠i:=hd;rw[gj (Ne.symm hd)]at f2;refine⟨s.bx.set i' (.mu (cm.take rK++(cF s.sl z).cells++cm.drop (rK + (cF s.sl z).cells.length))), ?_, ?_⟩
  ·rw[iI (.inr rfl)];exact⟨hj.1,Gp f1 f2 f5⟩
  ·rw[iI (.inr rfl)];refine⟨hi.1, ?_⟩;have:=Gp (P:=P) (bx:=s.bx.set i' (.mu (cm.take rK++(cF s.sl z).cells++cm.drop (rK + (cF s.sl z).cells.length)))) e1 (by rw[gj hd];exact e2) e5;rw[f4,List.set_comm _ _ (Ne.symm hd)];exact this
 ·
  rename_i p;cases di with
  |none=>simp at h
  |some a=>
   have mn:(p,a)∈ps:=by simpa using h
   have hd:=hD p a mn (.inr rfl) (.inr (.inr rfl));rw[u6 (Bs p rfl),QS]at hd;have fj:=hi;rw[iI (.inl rfl)]at fj;obtain⟨zs,e1,e2,e3⟩:=E8 fj.2;refine EV (.inr rfl) hi hj (Lo λi off hp=> ?_);rw[hp,e3]at hd;have hd:i≠s.bx.length:=hd;rw[e2];rcases ft i s.bx.length with aG|iS
   ·rw[bQ aG]
   ·rw[pM iS,pM (by simp;omega)]
 ·
  rename_i p z;cases di with
  |none=>simp at h
  |some a=>
   have mn:(p,a)∈ps:=by simpa using h
   have hd:=hD p a mn (.inr rfl) (.inr (.inr rfl));rw[u6 (Bs p rfl),QS]at hd;rw[iI (.inl rfl)]at hi;rw[iI (.inr rfl)]at hj;obtain⟨zs,e1,e2,e3⟩:=E8 hi.2;obtain⟨i',rK,cm,f1,f2,f3,f4,f5⟩:=Ao hj.2;rw[f1,e3]at hd;have hd:i'≠s.bx.length:=hd;subst e2 e3 f3;have aG:i' < s.bx.length:=by
    have:=(aQ.1 f2).1;simp at this;omega
   rw[bQ aG]at f2;refine⟨s.bx.set i' (.mu (cm.take rK++(cF s.sl z).cells++cm.drop (rK + (cF s.sl z).cells.length))), ?_, ?_⟩
   ·rw[iI (.inr rfl)];exact⟨hj.1,Gp f1 f2 f5⟩
   ·rw[iI (.inl rfl)];refine⟨hi.1, ?_⟩;have:=WR (P:=P) (sl:=s.sl) (bx:=s.bx.set i' (.mu (cm.take rK++(cF s.sl z).cells++cm.drop (rK + (cF s.sl z).cells.length)))) e1;rw[Cm]at this;rw[f4,alG _ _ aG];exact this
 ·
  rename_i x y _;rw[iI (.inr rfl)]at hi;rw[iI (.inl rfl)]at hj;obtain⟨zs,e1,e2,e3⟩:=E8 hj.2;cases x with
  |tmp q=>
   obtain⟨i',rK,cm,f1,f2,f3,f4,f5⟩:=Ao hi.2;subst e2 e3 f3 f4;have aG:=(aQ.1 f2).1;refine⟨s.bx++[.mu zs], ?_, ?_⟩
   ·rw[iI (.inl rfl)];refine⟨hj.1, ?_⟩;have:=WR (P:=P) (sl:=s.sl) (bx:=s.bx) e1;rw[Cm];exact this
   ·rw[iI (.inr rfl)];refine⟨hi.1, ?_⟩;have:=Gp (P:=P) (bx:=s.bx++[.mu zs]) f1 (by rw[bQ aG];exact f2) f5;rw[alG _ _ aG]at this;exact this
  |const v=>
   exfalso;have h9:=hi.2;unfold jZ at h9;simp only[cF]at h9;cases v<;>simp[vK]at h9
  |global g=>exact hi.2.elim
  |func f=>exact hi.2.elim
 ·
  have fj:=hi;rw[iI (.inr rfl)]at fj;exact EV (.inr rfl) hi hj (NX (Gq fj.2).symm)
 ·
  have fQ:cH=s.bx:=by
   rw[pG (.inr rfl)]at hi;obtain⟨d',_,he⟩:=(k5 _ _ _ _ _).ex hi;cases he;rfl
  subst fQ;have gp:=hj;rw[iI (.inr rfl)]at gp;exact VE (.inr rfl) hi hj (NX (Gq gp.2))
 ·
  have fj:=hi;rw[iI (.inl rfl)]at fj;obtain⟨zs,e1,e2,e3⟩:=E8 fj.2;exact EV (.inr rfl) hi hj (NX (by rw[e2];exact Qj.symm))
 ·
  have fj:=hi;rw[iI (.inr rfl)]at fj;exact EV (.inr rfl) hi hj (Kk (Gq fj.2).symm)
 ·
  have fQ:cH=s.bx:=by
   rw[pG (.inr rfl)]at hi;obtain⟨d',_,he⟩:=(k5 _ _ _ _ _).ex hi;cases he;rfl
  subst fQ;have gp:=hj;rw[iI (.inr rfl)]at gp;exact VE (.inr rfl) hi hj (Kk (Gq gp.2))
 ·
  have fj:=hi;rw[iI (.inl rfl)]at fj;obtain⟨zs,e1,e2,e3⟩:=E8 fj.2;exact EV (.inr rfl) hi hj (Kk (by rw[e2];exact Qj.symm))
 ·cases h
theorem WL {ops:Array Oper}{K:St->Prop}(hk:qS ops.toList=true):∀(fuel:Nat) (listed:Array Bool) (s:St),qy P ops K fuel listed s->
  ∃sf,K sf/\∀m,(∀(j:Nat) (oj:Oper),ops[j]? =some oj->listed.getD j true=false->oj.dst≠some m)->sf.sl m=s.sl m
 |0,listed,s,h=>⟨s,h.2,λ_ _=>rfl⟩
 |fuel + 1,listed,s,h=>by
  by_cases hr:rq .any ops listed=[]
  ·exact⟨s,h.1 hr,λ_ _=>rfl⟩
  ·obtain⟨i,hi⟩:=List.exists_mem_of_ne_nil _ hr;obtain⟨jD,o,ho,_⟩:=mem_ready.1 hi;have hm:=p_ hk ho;obtain⟨_,h2⟩:=(xz hm.1 hm.2).1 (h.2 i hi o ho);obtain⟨r,_,h3⟩:=(xH _ _ _ _ _).ex h2;obtain⟨sf,hK,hs⟩:=WL hk fuel _ _ h3;refine⟨sf,hK,λm TU=> ?_⟩;rw[hs m (λj oj hj hl=>TU j oj hj ?_),u6 (TU i o ho jD)];by_cases vt:i=j
   ·subst vt;exact jD
   ·rwa [getD_set_ne true vt]at hl
theorem N_ {ps:List (Tmp×Tmp)}{ops:Array Oper}{K:St->Prop}(hk:qS ops.toList=true)(hw:wo ops=true)(hC:∀s,K s->∀x y,(x,y)∈ps->sg (s.sl x) (s.sl y)){i:Nat}{oi:Oper}(hi:ops[i]? =some oi):
  ∀(fuel:Nat) (listed:Array Bool) (s:St),
   (∀(j:Nat) (oj:Oper),ops[j]? =some oj->j≠i->listed.getD j true=false->(∀e∈oj.after,gV .any e=true->e.on≠i)->oi.apart ops oj=true/\zA ps oi oj=true)->
   i∈rq .any ops listed->eY P ops.toList oi s (λs'=>qy P ops K fuel (listed.setIfInBounds i true) s')->qy P ops K (fuel + 1) listed s:=by
 intro fuel;induction fuel with
 |zero=>
  intro listed s _ hr H;refine⟨λh=>(by rw[h]at hr;cases hr),λj hj oj jq=> ?_⟩;by_cases bF:j=i
  ·subst bF;rw[hi]at jq;cases jq;exact H
  ·have ui:=ready_mono hj bF;have hm:=p_ hk hi;exfalso;obtain⟨_,h2⟩:=(xz hm.1 hm.2).1 H;obtain⟨r,_,h3⟩:=(xH _ _ _ _ _).ex h2;rw[h3.1]at ui;cases ui
 |succ fuel ih=>
  intro listed s Ek hr H;refine⟨λh=>(by rw[h]at hr;cases hr),λj hj oj jq=> ?_⟩;by_cases bF:j=i
  ·subst bF;rw[hi]at jq;cases jq;exact H
  ·obtain⟨Ed,oj',DZ,dw⟩:=mem_ready.1 hj;rw[jq]at DZ;cases DZ
   have Mp:∀{a b:Nat} {oa:Oper},a∈rq .any ops listed->ops[a]? =some oa->(∃e∈oa.after,gV .any e=true/\e.on=b)->listed.getD b true=true:=λ{a b oa} ha hoa ⟨e,he,hb,hon⟩=>by
    obtain⟨_,oa',TJ,ag0⟩:=mem_ready.1 ha;rw[hoa]at TJ;cases TJ
    have h1:=ag0 e he hb;rw[hon]at h1;rcases ft b listed.size with h'|h'
    ·simp[h']at h1⊢;exact h1
    ·simp[Array.getElem?_eq_none h']at h1
   have A8:∀e∈oj.after,gV .any e=true->e.on≠i:=λe he hb heq=>by
    have h1:=Mp hj jq ⟨e,he,hb,heq⟩;have h0:=(mem_ready.1 hr).1;rw[h0]at h1;cases h1
   obtain⟨ra,pv⟩:=Ek j oj jq bF Ed A8;have sW:=p_ hk hi;have vp:=p_ hk jq;have h2:eY P ops.toList oj s λs1=>eY P ops.toList oi s1 λs2=>qy P ops K fuel ((listed.setIfInBounds i true).setIfInBounds j true) s2:=by
    simp only[zA,qI]at pv;rcases pv with pv|pv
    ·exact swap ra pv sW.2 vp.2 (qp sW.1 sW.2 (λs1 mi=>mi.2 j (ready_mono hj bF) oj jq) H)
    ·refine Z5 (D0:=DC ps oi oj) ra sW.1 vp.1 sW.2 vp.2 (aiI pv ra (λm hm=>(JT hw hi hm).1)) ?_;refine qp sW.1 sW.2 (λs1 mi=>⟨mi.2 j (ready_mono hj bF) oj jq,λx y DM hx hy=> ?_⟩) H;obtain⟨sf,hK,hs⟩:=WL hk _ _ _ mi;have key:∀m,(sk oi.op=some m\/sk oj.op=some m\/IZ oi=some m)->sf.sl m=s1.sl m:=λm hm=>hs m λk ok Mf jD hd=>by
      have xk:i≠k:=λe=>by
       subst e;rcases ft i listed.size with h'|h'
       ·simp[h']at jD
       ·simp[h']at jD
      rw[getD_set_ne true xk]at jD;rcases hm with hm|hm|hm
      ·have:=Mp hr hi ((JT hw hi hm).2 k ok Mf hd);rw[this]at jD;cases jD
      ·have:=Mp hj jq ((JT hw jq hm).2 k ok Mf hd);rw[this]at jD;cases jD
      ·exact xk (Yk hw hi hm k ok Mf hd).symm
     have h9:=hC sf hK x y DM;rw[key x (hx.elim .inl λh=> .inr (.inl h)),key y hy]at h9;exact h9
   have Mn:∀(k:Nat) (ok:Oper),ops[k]? =some ok->k≠i->(listed.setIfInBounds j true).getD k true=false->
     (∀e∈ok.after,gV .any e=true->e.on≠i)->oi.apart ops ok=true/\zA ps oi ok=true:=λk ok hk ze jD ga=>by
    refine Ek k ok hk ze ?_ ga;by_cases q7:j=k
    ·subst q7;exact Ed
    ·rw[getD_set_ne true q7]at jD;exact jD
   refine qp vp.1 vp.2 (λs1 h3=>ih (listed.setIfInBounds j true) s1 Mn (ready_mono hr (Ne.symm bF)) ?_) h2;rw[Array.setIfInBounds_comm _ _ bF];exact h3
def adz (ps:List (Tmp×Tmp))(o:Oper)(i:Nat)(rest:List Oper):Bool:=rest.all λp=>p.after.any (λe=>gV .any e&&e.on == i)||zA ps o p
def Dg (ps:List (Tmp×Tmp)):Nat->List Oper->Bool
 |_,[]=>true
 |i,o::rest=>adz ps o i rest&&Dg ps (i + 1) rest
theorem Rm (ps:List (Tmp×Tmp)):∀(l:List Oper) (i:Nat),Dg ps i l=true->∀(a b:Nat) (oa ob:Oper),a < b->l[a]? =some oa->l[b]? =some ob->
  (∀e∈ob.after,gV .any e=true->e.on≠i + a)->zA ps oa ob=true
 |[],i,_,a,b,oa,ob,_,ha,_,_=>by simp at ha
 |o::l,i,h,a,b,oa,ob,hab,ha,hb,ga=>by
  simp only[Dg,c_]at h;obtain⟨b,rfl⟩:∃b',b=b' + 1:=⟨b - 1,ae⟩;cases a with
  |zero=>
   simp at ha;subst ha
   have hm:ob∈l:=ey (by simpa using hb);have:=iD.1 h.1 ob hm;simp only[qI,O7,c_,beq_iff_eq]at this;rcases this with⟨e,he,h1,h2⟩|h
   ·exact absurd h2 (ga e he h1)
   ·exact h
  |succ a=>
   exact Rm ps l (i + 1) h.2 a b oa ob ae (by simpa using ha) (by simpa using hb) (λe he cr=>by have:=ga e he cr;omega)
theorem WM {ps:List (Tmp×Tmp)}{ops:Array Oper}{K:St->Prop}(hk:qS ops.toList=true)(hw:wo ops=true)(hC:∀s,K s->∀x y,(x,y)∈ps->sg (s.sl x) (s.sl y))(hp:Dg ps 0 ops.toList=true):
  ∀(l:List Oper) (k:Nat) (listed:Array Bool) (s:St),(∀j,l[j]? =ops[k + j]?)->
  (∀j,j < k->listed.getD j true=true)->Fo .any ops l.length k listed=true->bZ P ops.toList l s K->qy P ops K l.length listed s
 |[],_,_,_,_,_,hB,h=>⟨by simpa[Fo]using hB,h⟩
 |o::l,k,listed,s,hl,aG,hB,h=>by
  have h0:ops[k]? =some o:=by simpa using(hl 0).symm
  simp only[List.length_cons,Fo,c_]at hB;obtain⟨⟨hr,hf⟩,rb⟩:=hB;have hm:=p_ hk h0;refine N_ hk hw hC h0 l.length listed s (λj oj hj q7 jD ga=>⟨Region.free_spec h0 hf j oj hj q7 jD ga, ?_⟩) (by simpa using hr)
   (qp hm.1 hm.2 (λs' mj=>WM hk hw hC hp l (k + 1) _ s' (λj=>by have:=hl (j + 1);simpa[Nat.add_assoc,Nat.add_comm 1 j]using this) (λj hj=> ?_) rb mj) (Nj h))
  ·have jH:k < j:=by
    rcases Nat.lt_trichotomy j k with h1|h1|h1
    ·rw[aG j h1]at jD;cases jD
    ·exact absurd h1 q7
    ·exact h1
   exact Rm ps ops.toList 0 hp k j o oj jH (by simpa using h0) (by simpa using hj) (by simpa using ga)
  ·by_cases h1:k=j
   ·subst h1;by_cases hs:k < listed.size
    ·simp[hs]
    ·simp[hs]
   ·rw[getD_set_ne true h1];exact aG j ae
def Sep (s:St):List (Tmp×Tmp)->Prop
 |[]=>True
 |(x,y)::l=>sg (s.sl x) (s.sl y)/\Sep s l
theorem Sep.at {s:St}:∀{l:List (Tmp×Tmp)},Sep s l->∀x y,(x,y)∈l->sg (s.sl x) (s.sl y)
 |(x',y')::l,h,x,y,hm=>by
  rcases eK.1 hm with e|hm
  ·cases e;exact h.1
  ·exact h.2.at x y hm
theorem xP {c:Ctx}{id:Nat}{l:List Oper}{Q:Exit->St->Prop}{s:St}(ps:List (Tmp×Tmp))(hm:c.P.follows .mixedOrders=true)(hB:(Region.lexB .any l.toArray&&qS l&&Dg ps 0 l&&wo l.toArray)=true)
  (h:∀K:St->Prop,(∀s',Q .normal s'/\Sep s' ps->K s')->bZ c.P l l s K):av c (.region id l.toArray true) Q s:=by
 intro a w hr;simp only[c_,Region.lexB]at hB;obtain⟨⟨⟨⟨_,hl⟩,hk⟩,hp⟩,hw⟩:=hB;refine wpIn_region_any hm (IU (K:=λs=>Q .normal s/\Sep s ps) (λs a w hr hq=>⟨s,hr,hq.1⟩) _ _ s _ _ (RG.BH hr) ?_);have:=WM (P:=c.P) (ops:=l.toArray) (ps:=ps) (K:=λs=>Q .normal s/\Sep s ps) (by simpa using hk) hw (λs hs=>hs.2.at) (by simpa using hp) l 0 (gW l.length false) s aO aO (by simpa using hl) (h _ (λ_ h=>h));simpa using this
@[go_sem] theorem am6 {s:St}:Sep s []=True:=rfl
@[go_sem] theorem am7 {n:Nat}{sl:Nat->D}{bx:List Bx}{rw:List Row}{x y:Tmp}{l:List (Tmp×Tmp)}:Sep ⟨n,sl,bx,rw⟩ ((x,y)::l)=(sg (sl x) (sl y)/\Sep ⟨n,sl,bx,rw⟩ l):=rfl
@[go_sem] theorem anf {i j o o':Nat}:sg (.box i o) (.box j o')=(i≠j):=rfl
@[go_sem] theorem ane {cs:List D}{d:D}:sg (.ro cs) d=True:=by cases d<;>rfl
@[congr] theorem anE {a a' b b':D}(h:a=a')(h':b=b'):sg a b=sg a' b':=by rw[h,h']
end
def mO (m i:Nat):Nat:=if i=m then m + 1 else if i=m + 1 then m else i
mutual
def ig (m:Nat):D->D
 | .box i off=> .box (mO m i) off
 | .aN i off n c=> .aN (mO m i) off n c
 | .agg cs=> .agg (rE m cs)
 | .aF cs=> .aF (rE m cs)
 | .ag f cs=> .ag f (rE m cs)
 | .cL f cs=> .cL f (rE m cs)
 | .undef=> .undef
 | .int k n=> .int k n
 | .bool b=> .bool b
 | .str s=> .str s
 | .list xs=> .list xs
 | .ro cs=> .ro cs
 | .own r=> .own r
 | .val v=> .val v
 | .bM f=> .bM f
 | .skp=> .skp
 | .any=> .any
 | .bu i=> .bu (mO m i)
def rE (m:Nat):List D->List D
 |[]=>[]
 |d::ds=>ig m d::rE m ds
end
theorem CL (m:Nat):∀cs:List D,rE m cs=cs.map (ig m)
 |[]=>by simp[rE]
 |d::ds=>by simp[rE,CL m ds]
theorem PO (m i:Nat):mO m (mO m i)=i:=by unfold mO;split<;>(try split)<;>(try split)<;>omega
def swp {α:Type}(m:Nat)(l:List α):List α:=match l[m]?,l[m + 1]? with
 |some x,some y=>(l.set m y).set (m + 1) x
 |_,_=>l
theorem PM {α:Type}(m:Nat)(l:List α):(swp m l).length=l.length:=by unfold swp;split<;>simp
theorem Gk {α:Type}{m:Nat}{l:List α}(h:m + 1 < l.length)(i:Nat):(swp m l)[i]? =l[mO m i]? :=by
 unfold swp;rw[bS (show m < l.length by omega),bS h];simp only[mO];by_cases h1:i=m
 ·subst h1;rw[if_pos rfl,gj ae,jg ae,bS h]
 ·rw[if_neg h1];by_cases h2:i=m + 1
  ·subst h2;rw[if_pos rfl,jg (by simpa using h),bS (show m < l.length by omega)]
  ·rw[if_neg h2,gj ae,gj ae]
def uX (m:Nat):Bx->Bx
 | .mu cs=> .mu (rE m cs)
 | .fz cs=> .fz cs
 | .mp es=> .mp (es.map λp=>(ig m p.1,ig m p.2))
 | .dead=> .dead
def yw (m:Nat)(sl:Nat->D):Nat->D:=λt=>ig m (sl t)
def St.sw (m:Nat)(s:St):St:=⟨s.n,yw m s.sl,swp m (s.bx.map (uX m)),s.rw⟩
def Gh.sw (m:Nat)(g:Gh):Gh:=⟨g.S,swp m g.β,g.ρ,g.M⟩
theorem Gh.J6 {m:Nat}{g:Gh}(h:m + 1 < g.β.length){i b:Nat}(hb:g.β[i]? =some b):(g.sw m).β[mO m i]? =some b:=by
 show(swp m g.β)[mO m i]? =some b;rw[Gk h,PO];exact hb
theorem Rel.sw {w:World}{g:Gh}{v:Value}{d:D}{m:Nat}(h:Rel w g v d):m + 1 < g.β.length->Rel w (g.sw m) v (ig m d):=by
 have key:∀{cs:List D} {q:Nat} {d:D} {T:D->Prop},(rE m cs)[q]? =some d->(∀d0,cs[q]? =some d0->T (ig m d0))->T d:=λ{cs q d T} hd hT=>by
  rw[CL,cO,cv]at hd;obtain⟨d0,h0,rfl⟩:=hd;exact hT d0 h0
 have len:∀{cs:List D},(rE m cs).length=cs.length:=λ{cs}=>by rw[CL];simp
 induction h with
 |undef g v=>intro _;simp only[ig];exact .undef _ _
 |int g k n=>intro _;simp only[ig];exact .int _ _ _
 |bool g b=>intro _;simp only[ig];exact .bool _ _
 |str g s=>intro _;simp only[ig];exact .str _ _
 |val g v=>intro _;simp only[ig];exact .val _ _
 |list g A n c xs sz u hn aR eO hm hr ih=>intro _;simp only[ig];exact .list _ A n c xs sz u hn aR eO hm hr
 |agg g vs cs hl h1 hr ih=>intro hm;simp only[ig];exact .agg _ vs _ (hl.trans len.symm) (λq hq=>h1 q (by rw[len]at hq;exact hq)) (λq d hd=>key (T:=λd=>Rel w _ (vs.getD q bp) d) hd λd0 h0=>ih q d0 h0 hm)
 |aF g vs cs hl hr ih=>intro hm;simp only[ig];exact .aF _ vs _ (hl.trans len.symm) (λq d hd=>key (T:=λd=>Rel w _ (vs.getD q bp) d) hd λd0 h0=>ih q d0 h0 hm)
 |box g i off b hb=>intro hm;simp only[ig];exact .box _ _ off b (Gh.J6 hm hb)
 |ro g a cs u hm hr ih=>intro _;simp only[ig];exact .ro _ a cs u hm hr
 |own g r v h=>intro _;simp only[ig];exact .own _ r v h
 |ag g f vs cs hl hr ih=>intro hm;simp only[ig];exact .ag _ f vs _ (hl.trans len.symm) (λq d hd=>key (T:=λd=>Rel w _ (vs.getD q bp) d) hd λd0 h0=>ih q d0 h0 hm)
 |bM g b f h=>intro _;simp only[ig];exact .bM _ b f h
 |skp g=>intro _;simp only[ig];exact .skp _
 |any g v h1=>intro _;simp only[ig];exact .any _ v h1
 |bu g i b hb=>intro hm;simp only[ig];exact .bu _ _ b (Gh.J6 hm hb)
 |cL g f vs cs hl hr ih=>intro hm;simp only[ig];exact .cL _ f vs _ (hl.trans len.symm) (λq d hd=>key (T:=λd=>Rel w _ (vs.getD q bp) d) hd λd0 h0=>ih q d0 h0 hm)
 |aN g i off n c b hb=>intro hm;simp only[ig];exact .aN _ _ off n c b (Gh.J6 hm hb)
theorem Gm {m:Nat}{s:St}(h:m + 1 < s.bx.length){i:Nat}{x:Bx}(hx:(s.sw m).bx[i]? =some x):∃x0,s.bx[mO m i]? =some x0/\x=uX m x0:=by
 have:(swp m (s.bx.map (uX m)))[i]? =some x:=hx;rw[Gk (by simpa using h),cO,cv]at this;obtain⟨x0,h0,rfl⟩:=this;exact⟨x0,h0,rfl⟩
theorem RG.sw {c:Ctx}{s:St}{a:Act}{w:World}{g:Gh}(h:RG c s a w g){m:Nat}(hm:m + 1 < s.bx.length)(h0:c.β0.length<=m):RG c (s.sw m) a w (g.sw m):=by
 have y_:m + 1 < g.β.length:=by rw[h.lβ];exact hm
 have F3:∀{i b:Nat},g.β[mO m i]? =some b->(g.sw m).β[i]? =some b:=λ{i b} hb=>by
  show(swp m g.β)[i]? =some b;rw[Gk y_];exact hb
 have XU:∀{i b:Nat},(g.sw m).β[i]? =some b->g.β[mO m i]? =some b:=λ{i b} hb=>by
  have:(swp m g.β)[i]? =some b:=hb;rw[Gk y_]at this;exact this
 refine⟨h.df.gh rfl (λi b hc hb=> ?_),h.sz,h.below,h.cu,h.ba,h.en,h.S0,h.fJ, ?_,h.lρ,λn=>(h.sl n).sw y_, ?_, ?_, ?_, ?_,λi es hi=>by
  obtain⟨x0,gG,e⟩:=Gm hm hi;cases x0<;>simp only[uX,reduceCtorEq,Bx.mp.injEq]at e
  subst e;obtain⟨b,D7⟩:=h.mp _ _ gG;obtain⟨ms,cl,h1,h2,h3⟩:=D7.ex;refine⟨b,F3 D7.β,⟨ms,cl,h1,by rw[h2];simp,λq p mm hp hq=> ?_⟩,D7.nm,D7.own,D7.lU⟩;rw[cO,cv]at hp;obtain⟨p0,jF,rfl⟩:=hp;have h4:=h3 q p0 mm jF hq;exact⟨h4.1.sw (g:=g.mg) y_,h4.2.sw (g:=g.mg) y_⟩⟩
 ·have hi:=(aQ.1 hc).1;refine F3 ?_;have:mO m i=i:=by unfold mO;rw[if_neg ae,if_neg ae]
  rw[this];exact hb
 ·show(swp m g.β).length=(swp m (s.bx.map (uX m))).length;rw[PM,PM,h.lβ];simp
 ·intro i cs hi;obtain⟨x0,gG,e⟩:=Gm hm hi;cases x0<;>simp only[uX,reduceCtorEq,Bx.mu.injEq]at e
  subst e;obtain⟨b,vs,t,e1,e2,e3,e4,e5,e6⟩:=(h.bx _ _ gG).ex;refine⟨b,vs,t,F3 e1,e2,⟨?_,λq d hd=> ?_⟩,e4,e5,λe=>by cases e⟩
  ·rw[e3.1,CL];simp
  ·rw[CL,cO,cv]at hd;obtain⟨d0,h0,rfl⟩:=hd;exact⟨(e3.2 q d0 h0).1.sw y_,(e3.2 q d0 h0).2⟩
 ·intro i cs hi;obtain⟨x0,gG,e⟩:=Gm hm hi;cases x0<;>simp only[uX,reduceCtorEq,Bx.fz.injEq]at e
  subst e;obtain⟨b,vs,t,e1,e2,e3,e4,e5,e6⟩:=(h.fz _ _ gG).ex;exact⟨b,vs,t,F3 e1,e2,e3,e4,e5,e6⟩
 ·intro r row hi;obtain⟨v,e1,e2,e3⟩:=(h.rw r row hi).ex;have:=e2.sw y_;simp only[ig]at this;exact⟨v,e1,this,e3⟩
 ·obtain⟨κ,k1,k2⟩:=h.ap;refine⟨λb=>(match κ b with| .inl i=> .inl (mO m i)| .inr r=> .inr r),λi x b hi hx hb=> ?_,λr row v gb hi hl hv ho=> ?_⟩
  ·obtain⟨x0,gG,e⟩:=Gm hm hi;have hl:x0.live=true:=by subst e;cases x0<;>first|exact hx|rfl
   have:=k1 _ _ _ gG hl (XU hb);simp only[this,PO]
  ·have:=k2 r row v gb hi hl hv ho;simp only[this]
def vV (f g:Nat->D):Prop:=∀m,g m= .undef\/f m=g m
def tw (s s':St):Prop:=s.n=s'.n/\vV s.sl s'.sl/\s.bx=s'.bx/\s.rw=s'.rw
theorem Kj {f:Nat->D}:vV f dJ:=λ_=> .inl rfl
theorem Ki {f g:Nat->D}{n:Nat}{v:D}(h:f n=v)(hg:vV f g):vV f (Ab.put g n v):=λm=>by
 simp only[Ab.put];by_cases hm:m=n
 ·rw[if_pos hm,hm];exact .inr h
 ·rw[if_neg hm];exact hg m
theorem aa6 {f:Nat->D}:vV f f:=λ_=> .inr rfl
theorem Kl {n n':Nat}{sl rF:Nat->D}{bx aB:List Bx}{rw aD:List Row}(h1:n=n')(h2:vV sl rF)(h3:bx=aB)(h4:rw=aD):tw ⟨n,sl,bx,rw⟩ ⟨n',rF,aB,aD⟩:=⟨h1,h2,h3,h4⟩
theorem R.sle {c:Ctx}{s s':St}{a:Act}{w:World}(h:R c s a w)(hl:tw s s'):R c s' a w:=by
 obtain⟨g,h⟩:=h;obtain⟨n,sl,bx,rw⟩:=s;obtain⟨n',rF,aB,aD⟩:=s';obtain⟨h1,h2,h3,h4⟩:=hl;simp only at h1 h2 h3 h4;subst h1;subst h3;subst h4
 refine⟨g,⟨h.df,h.sz,h.below,h.cu,h.ba,h.en,h.S0,h.fJ,h.lβ,h.lρ,λm=> ?_,h.bx,h.fz,h.rw,h.ap,h.mp⟩⟩;rcases h2 m with e|e
 ·show Rel w g _ (rF m);rw[e];exact .undef _ _
 ·have:=h.sl m;simp only at this e⊢;rw[e]at this;exact this
section
variable {P:Program}
def pick (l:List Oper):List Nat->List Oper
 |[]=>[]
 |i::is=>match l[i]? with
  |some o=>o::pick l is
  |none=>pick l is
@[go_sem] theorem am9 {l:List Oper}:pick l []=[]:=rfl
@[go_sem] theorem am_ {l:List Oper}{i:Nat}{is:List Nat}:pick l (i::is)=match l[i]? with|some o=>o::pick l is|none=>pick l is:=rfl
def rh (P:Program)(ops:List Oper):List Oper->St->(St->Prop)->Prop
 |[],s,K=>K s
 |o::l,s,K=>eY P ops o s λs'=>rh P ops l s' K
def Hj (l:List Oper):Prop:=∀o∈l,kindOf o.op≠ .X/\(kindOf o.op= .L\/kindOf o.op= .W->o.guard=none)
theorem Iq {ops:List Oper}:∀{l:List Oper} {s:St} {K K':St->Prop},Hj l->(∀s,K s->K' s)->rh P ops l s K->rh P ops l s K'
 |[],s,K,K',_,h,hk=>h s hk
 |o::l,s,K,K',hl,h,hk=>qp (hl o (dI ..)).1 (hl o (dI ..)).2 (λs'=>Iq (λx hx=>hl x (dW _ hx)) h) hk
theorem Ip {ops:List Oper}:∀{l:List Oper} {s:St} {K:St->Prop},Hj l->bZ P ops l s K->rh P ops l s K
 |[],s,K,_,h=>h
 |o::l,s,K,hl,h=>qp (hl o (dI ..)).1 (hl o (dI ..)).2 (λs'=>Ip λx hx=>hl x (dW _ hx)) (Nj h)
theorem ag' {ops:List Oper}{o:Oper}{s:St}{K:St->Prop}(hx:kindOf o.op≠ .X)(hg:kindOf o.op= .L\/kindOf o.op= .W->o.guard=none)(h:eY P ops o s K):
  ∃s',K s'/\eY P ops o s λx=>x=s':=by
 obtain⟨hd,h⟩:=(xz hx hg).1 h;obtain⟨r,h1,h2⟩:=(xH _ _ _ _ _).ex h;exact⟨_,h2,(xz hx hg).2 ⟨hd,(xH _ _ _ _ _).mono (λr' hr=>by rw[hr]) h1⟩⟩
theorem VD {ops:List Oper}:∀{l:List Oper} {s:St} {K:St->Prop},Hj l->rh P ops l s K->∃s',K s'/\rh P ops l s λx=>x=s'
 |[],s,K,_,h=>⟨s,h,rfl⟩
 |o::l,s,K,hl,h=>by
  have ho:=hl o (dI ..);obtain⟨s1,h1,h2⟩:=ag' ho.1 ho.2 h;obtain⟨s',h3,h4⟩:=VD (λx hx=>hl x (dW _ hx)) h1;exact⟨s',h3,qp ho.1 ho.2 (λx hx=>by rw[hx];exact h4) h2⟩
def Gr (ps:List (Tmp×Tmp))(ops:Array Oper)(listed:Array Bool)(i:Nat):Bool:=(rq .any ops listed).contains i&&match ops[i]? with
 |some oi=>(ct ops.size).all λj=>j == i||listed.getD j true||match ops[j]? with
  |some oj=>oj.after.any (λe=>gV .any e&&e.on == i)||(oi.apart ops oj&&zA ps oi oj)
  |none=>true
 |none=>false
def Au (ps:List (Tmp×Tmp))(ops:Array Oper):Array Bool->List Nat->Bool
 |listed,[]=>(rq .any ops listed).isEmpty
 |listed,i::is=>Gr ps ops listed i&&Au ps ops (listed.setIfInBounds i true) is
theorem PW {ps:List (Tmp×Tmp)}{ops:Array Oper}{listed:Array Bool}{i:Nat}(h:Gr ps ops listed i=true):i∈rq .any ops listed/\∃oi,ops[i]? =some oi/\
  ∀(j:Nat) (oj:Oper),ops[j]? =some oj->j≠i->listed.getD j true=false->(∀e∈oj.after,gV .any e=true->e.on≠i)->oi.apart ops oj=true/\zA ps oi oj=true:=by
 simp only[Gr,c_,Jy]at h;refine⟨h.1, ?_⟩;have h2:=h.2;cases ho:ops[i]? with
 |none=>rw[ho]at h2;cases h2
 |some oi=>
  rw[ho]at h2;refine⟨oi,rfl,λj oj hj bF hl ga=> ?_⟩;have:=iD.1 h2 j (oR.2 (bt.1 hj).1);simp only[hj,qI,beq_iff_eq,bF,hl,bK,false_or,O7,c_]at this;rcases this with⟨e,he,h1,h2⟩|h
  ·exact absurd h2 (ga e he h1)
  ·exact h
theorem GW {ops:Array Oper}{i:Nat}{o:Oper}{is:List Nat}(h:ops[i]? =some o):pick ops.toList (i::is)=o::pick ops.toList is:=by
 simp only[pick,Array.getElem?_toList,h]
theorem Dx {ops:Array Oper}(hk:qS ops.toList=true):∀is:List Nat,Hj (pick ops.toList is)
 |[]=>λo ho=>by cases ho
 |i::is=>λo ho=>by
  simp only[pick]at ho;split at ho
  ·rename_i o' h';rcases eK.1 ho with e|ho
   ·subst e;exact p_ hk (by simpa using h')
   ·exact Dx hk is o ho
  ·exact Dx hk is o ho
theorem N9 {ps:List (Tmp×Tmp)}{ops:Array Oper}{K:St->Prop}(hk:qS ops.toList=true)(hw:wo ops=true)(hC:∀s,K s->∀x y,(x,y)∈ps->sg (s.sl x) (s.sl y)):
  ∀(is:List Nat) (listed:Array Bool) (s:St),Au ps ops listed is=true->rh P ops.toList (pick ops.toList is) s K->qy P ops K is.length listed s
 |[],listed,s,hB,h=>⟨by simpa[Au,List.isEmpty_iff]using hB,h⟩
 |i::is,listed,s,hB,h=>by
  simp only[Au,c_]at hB;obtain⟨hr,oi,vo,hf⟩:=PW hB.1;rw[GW vo]at h;have hm:=p_ hk vo;exact N_ hk hw hC vo is.length listed s hf hr (qp hm.1 hm.2 (λs' mj=>N9 hk hw hC is _ s' hB.2 mj) h)
def qK (ps:List (Tmp×Tmp))(ops:Array Oper)(a b:Nat)(post:List Nat):Array Bool->List Nat->Bool
 |listed,[]=>(rq .any ops listed).all (λi=>i == a||i == b)&&(rq .any ops listed).contains a&&(ops[a]?).isSome&&(ops[b]?).isSome&&
   Au ps ops (listed.setIfInBounds a true) (b::post)&&Au ps ops (listed.setIfInBounds b true) (a::post)
 |listed,i::is=>Gr ps ops listed i&&qK ps ops a b post (listed.setIfInBounds i true) is
theorem WK {ps:List (Tmp×Tmp)}{ops:Array Oper}{K:St->Prop}(hk:qS ops.toList=true)(hw:wo ops=true)(hC:∀s,K s->∀x y,(x,y)∈ps->sg (s.sl x) (s.sl y)){a b:Nat}{post:List Nat}:
  ∀(is:List Nat) (listed:Array Bool) (s:St),qK ps ops a b post listed is=true->
   rh P ops.toList (pick ops.toList is) s (λs1=>rh P ops.toList (pick ops.toList (a::b::post)) s1 K/\rh P ops.toList (pick ops.toList (b::a::post)) s1 K)->qy P ops K (is.length + (post.length + 2)) listed s
 |[],listed,s,hB,h=>by
  simp only[qK,c_,iD,qI,beq_iff_eq,Jy]at hB;obtain⟨⟨⟨⟨⟨h1,h2⟩,h3⟩,h4⟩,h5⟩,h6⟩:=hB;obtain⟨oa,ha⟩:=xV.1 h3;obtain⟨ob,hb⟩:=xV.1 h4;obtain⟨g1,g2⟩:=h;simp only[List.length_nil,Nat.zero_add];refine⟨λe=>(by rw[e]at h2;cases h2),λi hi o ho=> ?_⟩;rcases h1 i hi with e|e
  ·subst e;have hm:=p_ hk ho;rw[GW ho]at g1;exact qp hm.1 hm.2 (λs' mj=>N9 hk hw hC (b::post) _ s' h5 mj) g1
  ·subst e;have hm:=p_ hk ho;rw[GW ho]at g2;exact qp hm.1 hm.2 (λs' mj=>N9 hk hw hC (a::post) _ s' h6 mj) g2
 |i::is,listed,s,hB,h=>by
  simp only[qK,c_]at hB;obtain⟨hr,oi,vo,hf⟩:=PW hB.1;rw[GW vo]at h;have hm:=p_ hk vo;have e:(i::is).length + (post.length + 2)=(is.length + (post.length + 2)) + 1:=by simp;omega
  rw[e];exact N_ hk hw hC vo _ listed s hf hr (qp hm.1 hm.2 (λs' mj=>WK hk hw hC is _ s' hB.2 mj) h)
def Xu (m:Nat)(ps:List (Tmp×Tmp))(s2 s1:St):Prop:=Sep s2 ps/\m + 1 < s2.bx.length/\tw (s2.sw m) s1
theorem Fa {c:Ctx}{id:Nat}{l:List Oper}{Q:Exit->St->Prop}{s:St}(ps:List (Tmp×Tmp))(pre:List Nat)(a b:Nat)(post:List Nat)(hm:c.P.follows .mixedOrders=true)
  (hB:(decide (pre.length + (post.length + 2)=l.length)&&qS l&&wo l.toArray&&qK ps l.toArray a b post (gW l.length false) pre)=true)
  (h:∀K:St->Prop,(∀s',Q .normal s'/\Sep s' ps->K s')->bZ c.P l (pick l pre) s λs1=>bZ c.P l (pick l (a::b::post)) s1 λs'=>K s'/\bZ c.P l (pick l (b::a::post)) s1 λGG=>Xu s.bx.length ps GG s'):
  av c (.region id l.toArray true) Q s:=by
 intro act w hr;simp only[c_,decide_eq_true_eq]at hB;obtain⟨⟨⟨hlen,hk⟩,hw⟩,ht⟩:=hB;have h0:c.β0.length<=s.bx.length:=by
  obtain⟨g,hg⟩:=hr;rw[<-hg.lβ];rcases ft g.β.length c.β0.length with aG|iS
  ·have:=hg.df.gD g.β.length _ (bS aG);rw[pM (aY _)]at this;cases this
  ·exact iS
 let K:St->Prop:=λs'=>(∃sf,Q .normal sf/\(tw s' sf\/(s.bx.length + 1 < s'.bx.length/\tw (s'.sw s.bx.length) sf)))/\Sep s' ps
 have fW:qS l.toArray.toList=true:=by simpa using hk
 have k1:=Dx fW pre;have k2:=Dx fW (a::b::post);have k3:=Dx fW (b::a::post);have h1:=h (λs'=>Q .normal s'/\Sep s' ps) (λ_ h=>h);have h2:rh c.P l.toArray.toList (pick l.toArray.toList pre) s (λs1=>rh c.P l.toArray.toList (pick l.toArray.toList (a::b::post)) s1 K/\rh c.P l.toArray.toList (pick l.toArray.toList (b::a::post)) s1 K):=by
  refine Iq k1 (λs1 mi=> ?_) (Ip k1 (by simpa using h1));obtain⟨s',⟨⟨q1,q2⟩,q3⟩,q4⟩:=VD k2 (Ip k2 (by simpa using mi));refine⟨Iq k2 (λx hx=> ?_) q4,Iq k3 (λx hx=> ?_) (Ip k3 (by simpa using q3))⟩
  ·rw[hx];exact⟨⟨s',q1, .inl ⟨rfl,aa6,rfl,rfl⟩⟩,q2⟩
  ·exact⟨⟨s',q1, .inr hx.2⟩,hx.1⟩
 refine wpIn_region_any hm (IU (K:=K) (λs' a w hr hq=> ?_) _ _ s _ _ (RG.BH hr) ?_)
 ·obtain⟨⟨sf,hq,hs⟩,_⟩:=hq;rcases hs with hs|⟨hl,hs⟩
  ·exact⟨sf,hr.sle hs,hq⟩
  ·obtain⟨g,hg⟩:=hr;exact⟨sf,R.sle ⟨_,hg.sw hl h0⟩ hs,hq⟩
 ·have:=WK (P:=c.P) (ops:=l.toArray) (ps:=ps) (K:=K) fW hw (λs hs=>hs.2.at) (a:=a) (b:=b) (post:=post) pre (gW l.length false) s ht h2;rw[hlen]at this;simpa using this
end
theorem Xf {c:Ctx}{Q:Exit->St->Prop}{s:St}{l:Nat}(h:Q .normal s):av c (.label l) Q s:=λ_ _ hr=>wpIn_label ⟨s,hr,h⟩
def sM (Q:Exit->St->Prop):Exit->St->Prop
 | .goto _,_=>False
 |e,s=>Q e s
theorem W_ {c:Ctx}{Q:Exit->St->Prop}{s:St}{x:Code}(h:av c x (sM Q) s):av c (.scope x) Q s:=by
 intro a w hr;refine Pa (wpIn_mono (h a w hr) ?_);rintro e a' w' ⟨s',r,q⟩;cases e<;>first|exact⟨s',r,q⟩|exact q.elim
attribute[go_sem] ig rE mO uX
@[go_sem] theorem am8 {m:Nat}{ps:List (Tmp×Tmp)}{n n':Nat}{sl rF:Nat->D}{bx aB:List Bx}{rw aD:List Row}:
  Xu m ps ⟨n,sl,bx,rw⟩ ⟨n',rF,aB,aD⟩=(Sep ⟨n,sl,bx,rw⟩ ps/\m + 1 < bx.length/\tw ⟨n,yw m sl,swp m (bx.map (uX m)),rw⟩ ⟨n',rF,aB,aD⟩):=rfl
@[go_sem] theorem am2 {m n:Nat}{f:Nat->D}{v:D}:yw m (Ab.put f n v)=Ab.put (yw m f) n (ig m v):=by
 funext t;simp only[yw,Ab.put];split<;>rfl
@[go_sem] theorem am3 {m:Nat}:yw m dJ=dJ:=by funext t;simp[yw,dJ,ig]
@[go_sem] theorem am1 {α:Type}{m:Nat}{l:List α}:swp m l=match l[m]?,l[m + 1]? with|some x,some y=>(l.set m y).set (m + 1) x|_,_=>l:=rfl
@[congr] theorem anJ {a a' b b':St}(h:a=a')(h':b=b'):tw a b=tw a' b':=by rw[h,h']
end Go.Ab
