import Derived.Test.YtopobgihpdaggaaGreatDoorZ11
set_option linter.unusedVariables false
set_option linter.unusedSimpArgs false
open Array renaming getElem?_eq_some_iff->bJ,getElem?_setIfInBounds->sB
open List renaming all_eq_true->ic,getElem?_append_left->cZ,getElem?_append_right->gk,getElem?_map->dO,map_cons->jI,mem_cons->eX,mem_cons_of_mem->fE,mem_cons_self->ey,mem_filter->Cn,mem_map_of_mem->gP,mem_range->ld,nodup_cons->tY,range->dB
open Option renaming map_eq_some_iff->cS
open Option.some renaming injEq->fe
open Go.Region renaming binds->eF,ready->kO,wanted->d_
section
namespace Go.Ab
open Go.RowKit
section
variable {P:Program}
def Rn (n m:Nat):D->D->Prop
 | .box i o, .box j o'=>i≠j\/o + n<=o'\/o' + m<=o
 |_,_=>True
def IQ (s:St):List (Tmp×Nat×Tmp×Nat)->Prop
 |[]=>True
 |(x,n,y,m)::l=>Rn n m (s.sl x) (s.sl y)/\IQ s l
theorem IQ.at {s:St}:∀{l:List (Tmp×Nat×Tmp×Nat)},IQ s l->∀x n y m,(x,n,y,m)∈l->Rn n m (s.sl x) (s.sl y)
 |(x',n',y',m')::l,h,x,n,y,m,hm=>by
  rcases eX.1 hm with e|hm
  ·cases e;exact h.1
  ·exact h.2.at x n y m hm
end
end Go.Ab
end
section
namespace Go.Ab
open Go.RowKit
abbrev dX:=List (Nat×Nat×((Nat->Bool)->D))
abbrev more (L:Nat->Bool)(k:Nat):Nat->Bool:=λq=>decide (q=k)||L q
def aI (F V:Nat->Bool):dX->(Nat->D)->Nat->D
 |[],b=>b
 |e::T,b=>bif F e.1 then put (aI F V T b) e.2.1 (e.2.2 V)else aI F V T b
theorem Gc (L:Nat->Bool)(k:Nat):more L k k=true:=by simp[more]
theorem OT (L:Nat->Bool){k q:Nat}(h:q≠k):more L k q=L q:=by simp[more,h]
theorem yi {L V:Nat->Bool}{k:Nat}{b:Nat->D}:∀{T:dX},k∉T.map (·.1)->aI (more L k) V T b=aI L V T b
 |[],_=>rfl
 |e::T,h=>by
  simp only[jI,eX,not_or]at h;simp only[aI,yi h.2,OT L (Ne.symm h.1)]
theorem dM {L V:Nat->Bool}{k m:Nat}{v:(Nat->Bool)->D}{b:Nat->D}(hk:L k=false):∀{T:dX},(T.map (·.1)).Nodup->(T.map (·.2.1)).Nodup->(k,m,v)∈T->aI (more L k) V T b=put (aI L V T b) m (v V)
 |[],_,_,h=>by cases h
 |e::T,h1,h2,h=>by
  simp only[jI,tY]at h1 h2;rcases eX.1 h with rfl|h
  ·simp only[aI,Gc,hk,cond_true,cond_false,yi h1.1]
  ·have qP:k∈T.map (·.1):=gP (f:=(·.1)) h;have ga:m∈T.map (·.2.1):=gP (f:=(·.2.1)) h;have n1:e.1≠k:=λe'=>h1.1 (e'▸qP);have n2:e.2.1≠m:=λe'=>h2.1 (e'▸ga);simp only[aI,dM hk h1.2 h2.2 h,OT L n1];cases L e.1 with
   |false=>rfl
   |true=>
    simp only[cond_true]
    funext q
    simp only[put];by_cases a1:q=e.2.1
    ·rw[if_pos a1,if_neg ag,if_pos a1]
    ·rw[if_neg a1];by_cases a2:q=m
     ·rw[if_pos a2,if_pos a2]
     ·rw[if_neg a2,if_neg a2,if_neg a1]
theorem br {L V:Nat->Bool}{k m:Nat}{v:(Nat->Bool)->D}{b:Nat->D}(hk:L k=true):∀{T:dX},(T.map (·.2.1)).Nodup->(k,m,v)∈T->aI L V T b m=v V
 |[],_,h=>by cases h
 |e::T,h2,h=>by
  simp only[jI,tY]at h2;rcases eX.1 h with rfl|h
  ·simp only[aI,hk,cond_true,put,if_true]
  ·have ga:m∈T.map (·.2.1):=gP (f:=(·.2.1)) h;have n2:e.2.1≠m:=λe'=>h2.1 (e'▸ga);simp only[aI];cases L e.1 with
   |false=>simp only[cond_false];exact br hk h2.2 h
   |true=>simp only[cond_true,put];rw[if_neg (Ne.symm n2)];exact br hk h2.2 h
theorem CR {L V:Nat->Bool}{m:Nat}{b:Nat->D}:∀{T:dX},m∉T.map (·.2.1)->aI L V T b m=b m
 |[],_=>rfl
 |e::T,h=>by
  simp only[jI,eX,not_or]at h;simp only[aI];cases L e.1 with
  |false=>exact CR h.2
  |true=>simp only[cond_true,put];rw[if_neg h.1];exact CR h.2
theorem eL {L V V':Nat->Bool}{b:Nat->D}:∀{T:dX},(∀e∈T,e.2.2 V=e.2.2 V')->aI L V T b=aI L V' T b
 |[],_=>rfl
 |e::T,h=>by
  have h1:=h e (ey ..);have h2:=eL (L:=L) (b:=b) λx hx=>h x (fE _ hx);simp only[aI,h1,h2]
theorem mP {L V V':Nat->Bool}{r:Nat}{b:Nat->D}(hb:jz r b=b):∀{T:dX},(∀e∈T,L e.1=true->gI r (e.2.2 V)=e.2.2 V')->jz r (aI L V T b)=aI L V' T b
 |[],_=>hb
 |e::T,h=>by
  have h1:=h e (ey ..);have h2:=mP (L:=L) hb λx hx=>h x (fE _ hx);simp only[aI];cases hL:L e.1 with
  |false=>simp only[cond_false];exact h2
  |true=>
   simp only[cond_true];rw[<-h2,<-h1 hL]
   funext q
   simp only[jz,put];split<;>rfl
theorem gS {L V:Nat->Bool}{b:Nat->D}:∀{T:dX},(∀e∈T,L e.1=true)->aI L V T b=T.foldr (λe f=>put f e.2.1 (e.2.2 V)) b
 |[],_=>rfl
 |e::T,h=>by
  have h1:=h e (ey ..);have h2:=gS (L:=L) (V:=V) (b:=b) λx hx=>h x (fE _ hx);simp only[aI,h1,h2,cond_true,List.foldr]
theorem gR {L V:Nat->Bool}{b:Nat->D}:∀{T:dX},(∀e∈T,L e.1=false)->aI L V T b=b
 |[],_=>rfl
 |e::T,h=>by
  have h1:=h e (ey ..);have h2:=gR (L:=L) (V:=V) (b:=b) λx hx=>h x (fE _ hx);simp only[aI,h1,h2,cond_false]
theorem aO.of_eq {c:Ctx}{s s':St}(h:s=s'):aO c s s':=h▸aO.refl
theorem aZ.rE {c:Ctx}{o:Oper}{s:St}{K:St->Prop}(hg:o.guard=none)(h:cq c.P [] [o] s K):aZ c o s K:=by
 refine aZ.of ?_;simp only[cq,hg]at h;exact h
theorem la {c:Ctx}{id:Nat}{l:List Oper}{Q:Exit->St->Prop}(hm:c.P.follows .mixedOrders=true)(hc:c.l=none)(hB:BM l.toArray=true)(n:Nat)(T:dX)(b:Nat->D)(B:(Nat->Bool)->List Bx)(W:(Nat->Bool)->List Row)
  (step:∀L j o,oe l.toArray L->l[j]? =some o->L j=false->(∀e∈o.after,eF .any e=true->L e.on=true)->
   aZ c o ⟨n,aI L L T b,B L,W L⟩ (λs'=>aO c s' ⟨n,aI (more L j) (more L j) T b,B (more L j),W (more L j)⟩))
  (done:∀L,(∀j,j < l.length->L j=true)->Q .normal ⟨n,aI L L T b,B L,W L⟩):az c (.region id l.toArray true) Q ⟨n,aI (λ_=>false) (λ_=>false) T b,B λ_=>false,W λ_=>false⟩:=by
 refine agI hm hc hB (λ(_:Unit) L=>⟨n,aI L L T b,B L,W L⟩) (λ_ _=>True) () trivial aO.refl (λ_ L j o hC _ ho hL hd=> ?_) (λ_ L _ hL=>done L hL);have h:=step L j o hC ho hL hd;exact λa w N' Q' hr hN=>h a w N' Q' hr λs1 a1 w1 hH ba=>hN s1 a1 w1 hH ⟨(),trivial,ba⟩
end Go.Ab
end
section
namespace Go.Ab
open Go.RowKit
def BL (ops:Array Oper):Bool:=(dB ops.size).all λi=>match ops[i]? with|some o=>o.after.all (λe=> !eF .any e||decide (e.on < i))|none=>true
theorem HK {ops:Array Oper}(h:BL ops=true){i:Nat}{o:Oper}(ho:ops[i]? =some o):∀e∈o.after,eF .any e=true->e.on < i:=by
 have hi:=(bJ.1 ho).1;have h1:=ic.1 h i (ld.2 hi);rw[ho]at h1;intro e he hb;have:=Array.all_eq_true'.1 h1 e he;simpa[hb]using this
def qh (F:Fence)(P:Program)(ops:Array Oper)(o:Oper)(a:Act)(w:World)(N:Act->World->Prop)(Q:Exit->Act->World->Prop):Prop:=
 if d_ o (Go.yielded ops a.tmps)then o.wpIn F 0 P a w N Q else(∀f,o.about P w a.eval=some f->F.fn f)/\N (a.put o.dst undef) w
theorem T5 {F:Fence}{P:Program}{ops:Array Oper}{o:Oper}{a:Act}{w:World}{N N':Act->World->Prop}{Q:Exit->Act->World->Prop}(hn:∀a w,N a w->N' a w)(h:qh F P ops o a w N Q):qh F P ops o a w N' Q:=by
 unfold qh at *;split
 ·rename_i hw;rw[if_pos hw]at h;exact Oper.wpIn_mono hn h
 ·rename_i hw;rw[if_neg hw]at h;exact⟨h.1,hn _ _ h.2⟩
theorem Io {P:Program}{ops:Array Oper}{Q:Exit->Act->World->Prop}(Inv:(Nat->Bool)->Act->World->Prop)
  (wB:∀(i:Nat) (o:Oper),ops[i]? =some o->∀e∈o.after,eF .any e=true->e.on < i)
  (step:∀(L:Nat->Bool) (i:Nat) (o:Oper),ops[i]? =some o->L i=false->(∀e∈o.after,eF .any e=true->L e.on=true)->∀a w,Inv L a w->
   qh Fence.wide P ops o a w (Inv (λj=>decide (j=i)||L j)) Q)
  (done:∀(L:Nat->Bool) a w,(∀i,i < ops.size->L i=true)->Inv L a w->Q .normal a w):
  ∀(fuel:Nat) (listed:Array Bool) (a:Act) (w:World),listed.size=ops.size->((dB ops.size).filter λj=> !listed.getD j false).length<=fuel->Inv (λj=>listed.getD j false) a w->
   wpAnyIn Fence.wide 0 P .any ops Q fuel listed a w:=by
 have iW:∀(listed:Array Bool) (j:Nat),listed.size=ops.size->j < ops.size->listed.getD j true=listed.getD j false:=λlisted j hs hj=>by
  simp[hs,hj]
 have bu:∀listed:Array Bool,listed.size=ops.size->kO .any ops listed=[]->∀i,i < ops.size->listed.getD i false=true:=λlisted hs hr=>by
  intro i;induction i using Nat.strongRecOn with
  |_ i ih=>
   intro hi;cases hl:listed.getD i false with
   |true=>rfl
   |false=>
    exfalso;have:i∈kO .any ops listed:=mem_ready.2 ⟨by rw[iW listed i hs hi];exact hl,ops[i],by simp[hi],λe he hb=>ih e.on (wB i _ (by simp[hi]) e he hb) (Nat.lt_trans (wB i _ (by simp[hi]) e he hb) hi)⟩;rw[hr]at this;cases this
 intro fuel;induction fuel with
 |zero=>
  intro listed a w hs hc hI;have nX:((dB ops.size).filter λj=> !listed.getD j false)=[]:=List.length_eq_zero_iff.1 (Nat.le_zero.1 hc);have hL:∀i,i < ops.size->listed.getD i false=true:=λi hi=>by
   cases hl:listed.getD i false with
   |true=>rfl
   |false=>
    have:i∈((dB ops.size).filter λj=> !listed.getD j false):=Cn.2 ⟨ld.2 hi,by rw[hl];rfl⟩;rw[nX]at this;cases this
  refine⟨?_,done _ a w hL hI⟩;refine List.eq_nil_iff_forall_not_mem.2 λi hi=> ?_;obtain⟨h1,o,ho,_⟩:=mem_ready.1 hi;have fk:=(bJ.1 ho).1;rw[iW listed i hs fk,hL i fk]at h1;cases h1
 |succ fuel ih=>
  intro listed a w hs hc hI;refine⟨λh0=>done _ a w (bu listed hs h0) hI,λi hi=> ?_⟩;obtain⟨h1,o,ho,h2⟩:=mem_ready.1 hi;have fk:=(bJ.1 ho).1;have hl:listed.getD i false=false:=by rw[<-iW listed i hs fk];exact h1
  unfold wpOpIn;rw[ho];simp only;refine T5 (ops:=ops) (λa' w' HC=> ?_) (step (λj=>listed.getD j false) i o ho hl (λe he hb=>h2 e he hb) a w hI);refine ih (listed.setIfInBounds i true) a' w' (by simpa using hs) ?_ ?_
  ·have aU:((dB ops.size).filter λj=> !(listed.setIfInBounds i true).getD j false).length < ((dB ops.size).filter λj=> !listed.getD j false).length:=by
    have wx:((dB ops.size).filter λj=> !(listed.setIfInBounds i true).getD j false)=(((dB ops.size).filter λj=> !listed.getD j false).filter λj=>decide (j≠i)):=by
     rw[List.filter_filter];refine List.filter_congr λj hj=> ?_;by_cases bd:j=i
     ·subst bd;simp[hs,fk]
     ·simp[sB,Ne.symm bd,bd]
    rw[wx];refine List.length_filter_lt_length_iff_exists.2 ⟨i,Cn.2 ⟨ld.2 fk,by rw[hl];rfl⟩,by simp⟩
   omega
  ·have e:(λj=>(listed.setIfInBounds i true).getD j false)=λj=>decide (j=i)||listed.getD j false:=by
    funext j
    by_cases bd:j=i
    ·subst bd;simp[hs,fk]
    ·simp[sB,Ne.symm bd,bd]
   rw[e];exact HC
def ee (c:Ctx)(ops:List Oper)(o:Oper)(s:St)(K:St->Prop):Prop:=
 ∀(a:Act) (w:World) (N':Act->World->Prop) (Q':Exit->Act->World->Prop),R c s a w->(∀s a w,R c s a w->K s->N' a w)->qh c.F c.P ops.toArray o a w N' Q'
section
variable {c:Ctx} {s:St}
theorem ee.j4 {ops:List Oper}{o:Oper}{K:St->Prop}(hg:o.guard=none)(h:aZ c o s K):ee c ops o s K:=λa w N' Q' hr hN=>by
 unfold qh;rw[if_pos (by simp[d_,hg])];exact h a w N' Q' hr hN
theorem ee.rE {ops:List Oper}{o:Oper}{K:St->Prop}(h:cq c.P ops [o] s K):ee c ops o s K:=λa w N' Q' hr hN=>by
 obtain⟨g,hg⟩:=hr;have next:∀{s1:St},c_ c.P o s1 (λs'=>cq c.P ops [] s' K)->s1=s->o.wpIn c.F 0 c.P a w N' Q':=λbD e=>by
  subst e;refine gK (sL bD) ?_;exact Oper.wp_mono (λa' w' ⟨s',cH,fS⟩=>hN s' a' w' cH fS) (ru hg bD)
 unfold qh;unfold cq at h;split at h
 ·rename_i cK;rw[if_pos (by simp[d_,cK])];exact next h rfl
 ·rename_i j want cK;obtain⟨t,ht,h⟩:=cE h;have wv:iD ops.toArray.toList j=some t:=by simpa using ht
  cases hb:s.sl t<;>rw[hb]at h<;>simp only[wG]at h
  case skp=>
   have hy:=R.v7 hg wv hb;rw[if_neg (by simp[d_,cK,hy])];exact⟨λ_ _=>trivial,hN _ _ _ ⟨g,hg.put h.1 (.skp _)⟩ h.2⟩
  rename_i b;have hy:=R.yielded hg wv hb;by_cases e_:b=want
  ·subst e_;rw[if_pos (by simp[d_,cK,hy])];exact next (h.1 rfl) (nL hb)
  ·have nh:b= !want:=by cases b<;>cases want<;>simp_all
   rw[if_neg (by simp[d_,cK,hy,e_])];obtain⟨hd,h2⟩:=h.2 nh;rw[<-nh,nL hb]at h2;exact⟨λ_ _=>trivial,hN _ _ _ ⟨g,hg.put hd (.skp _)⟩ h2⟩
theorem ee.on {ops:List Oper}{o:Oper}{K:St->Prop}{j t:Nat}{want:Bool}(cK:o.guard=some (j,want))(ht:iD ops j=some t)(hb:s.sl t= .bool want)(h:aZ c o s K):ee c ops o s K:=λa w N' Q' hr hN=>by
 obtain⟨g,hg⟩:=hr;have hy:=R.yielded (ops:=ops.toArray) hg (by simpa using ht) hb;unfold qh;rw[if_pos (by simp[d_,cK,hy])];exact h a w N' Q' ⟨g,hg⟩ hN
theorem ee.off {ops:List Oper}{o:Oper}{K:St->Prop}{j t:Nat}{want b:Bool}(cK:o.guard=some (j,want))(ht:iD ops j=some t)(hb:s.sl t= .bool b)(e_:b≠want)(hd:bp s o.dst)(h:K (s.put o.dst .skp)):ee c ops o s K:=λa w N' Q' hr hN=>by
 obtain⟨g,hg⟩:=hr;have hy:=R.yielded (ops:=ops.toArray) hg (by simpa using ht) hb;unfold qh;rw[if_neg (by simp[d_,cK,hy,e_])];exact⟨λ_ _=>trivial,hN _ _ _ ⟨g,hg.put hd (.skp _)⟩ h⟩
end
theorem Ey {c:Ctx}{id:Nat}{l:List Oper}{Q:Exit->St->Prop}(hm:c.P.follows .mixedOrders=true)(hc:c.l=none)(hB:BL l.toArray=true)(n:Nat)(T:dX)(b:Nat->D)(B:(Nat->Bool)->List Bx)(W:(Nat->Bool)->List Row)
  (step:∀L j o,oe l.toArray L->l[j]? =some o->L j=false->(∀e∈o.after,eF .any e=true->L e.on=true)->
   ee c l o ⟨n,aI L L T b,B L,W L⟩ (λs'=>aO c s' ⟨n,aI (more L j) (more L j) T b,B (more L j),W (more L j)⟩))
  (done:∀L,(∀j,j < l.length->L j=true)->Q .normal ⟨n,aI L L T b,B L,W L⟩):az c (.region id l.toArray true) Q ⟨n,aI (λ_=>false) (λ_=>false) T b,B λ_=>false,W λ_=>false⟩:=by
 intro a w hr;have hF:c.F=Fence.wide:=by unfold Ctx.F;rw[hc];rfl
 rw[hF];refine wpIn_region_any hm (Io (λL a w=>oe l.toArray L/\R c ⟨n,aI L L T b,B L,W L⟩ a w) (λi o ho=>HK hB ho) (λL i o ho hL aa a w hI=> ?_) (λL a w hL hI=>⟨_,hI.2,done L (by simpa using hL)⟩) l.toArray.size _ a _ ay ?_ ?_)
 ·have h:=step L i o hI.1 (by simpa using ho) hL aa a w (λa w=>oe l.toArray (λj=>decide (j=i)||L j)/\R c ⟨n,aI (λj=>decide (j=i)||L j) (λj=>decide (j=i)||L j) T b,B (λj=>decide (j=i)||L j),W (λj=>decide (j=i)||L j)⟩ a w) (λe a w=>∃s',R c s' a w/\Q e s') hI.2 (λs' a' w' cH hk=>⟨λj oj hj kJ e he hb=> ?_,hk _ _ cH⟩)
  ·rw[hF]at h;exact h
  ·simp only[Bool.or_eq_true,decide_eq_true_eq]at kJ⊢;rcases kJ with rfl|kJ
   ·rw[ho]at hj;cases hj
    exact .inr (aa e he hb)
   ·exact .inr (hI.1 j oj hj kJ e he hb)
 ·exact Nat.le_trans (List.length_filter_le _ _) ay
 ·have e:(λj=>(Array.replicate l.toArray.size false).getD j false)=λ_=>false:=by
   funext j
   by_cases hj:j < l.length<;>simp[hj]
  rw[e];exact⟨λj o _ h=>(by cases h),RG.ve hr⟩
end Go.Ab
end
section
namespace Go.Ab
open Go.RowKit
mutual
def vw (bx:List Bx)(rw:List Row):Nat->D->Option D
 |0,_=>none
 |n + 1, .own r=>match rw[r]? with|some row=>some (.list row.xs)|none=>none
 |n + 1, .box i off=>match bx[i]? with
  |some (.mu cs)=>(mM bx rw n cs).map λl=> .ro (l.drop off)
  |some (.fz cs)=>some (.ro (cs.drop off))
  |_=>none
 |n + 1, .agg cs=>(mM bx rw n cs).map .agg
 |n + 1, .aD f cs=>(mM bx rw n cs).map (.aD f)
 |_ + 1, .aQ _=>none
 |_ + 1, .dq _ _=>none
 |_ + 1, .a_ _ _ _ _=>none
 |_ + 1, .bz _=>some .any
 |_ + 1, .val (.slice none 0 0)=>some (.list [])
 |_ + 1,d=>some d
def mM (bx:List Bx)(rw:List Row):Nat->List D->Option (List D)
 |_,[]=>some []
 |0,_::_=>none
 |n + 1,d::ds=>match vw bx rw n d with|some d'=>(mM bx rw (n + 1) ds).map (d'::·)|none=>none
end
theorem z_ {bx:List Bx}{aL:List Row}{n:Nat}:∀{ds cu:List D},mM bx aL n ds=some cu->cu.length=ds.length/\∀(q:Nat) (d':D),cu[q]? =some d'->∃d k,ds[q]? =some d/\k < n/\vw bx aL k d=some d'
 |[],cu,h=>by cases n<;>(simp only[mM,fe]at h;subst h;simp)
 |d::ds,cu,h=>by
  cases n with
  |zero=>simp[mM]at h
  |succ n=>
   simp only[mM]at h;split at h
   ·rename_i d1 h1;simp only[cS]at h;obtain⟨l,hl,rfl⟩:=h;obtain⟨e1,e2⟩:=z_ hl;refine⟨by simp[e1],λq d' hq=> ?_⟩;cases q with
    |zero=>simp at hq;subst hq;exact⟨d,n,rfl,Nat.lt_succ_self n,h1⟩
    |succ q=>exact e2 q d' (by simpa using hq)
   ·cases h
abbrev so (w:World):Addr->Prop:=λx=>∃u,w.cell? x=some u
section
variable {c:Ctx} {s:St} {a:Act} {w:World} {g:Gh}
theorem RG.CH (h:RG c s a w g){v:Value}{d:D}(hr:Rel w g.er v d):Rel w ⟨so w,[],[],g.M⟩ v d:=
 hr.bb ⟨λ_ _=>rfl,λx hx=>h.bt x hx,λ_ _ h=>h,λ_ _ h=>h,λ_ _ h=>h⟩
theorem M8 (h:RG c s a w g):∀(n:Nat) {v:Value} {d d':D},Rel w g v d->vw s.bx s.rw n d=some d'->Rel w ⟨so w,[],[],g.M⟩ v d'
 |0,_,_,_,_,hp=>by simp[vw]at hp
 |n + 1,v,d,d',hr,hp=>by
  have ih:∀k,k < n + 1->∀{v:Value} {d d':D},Rel w g v d->vw s.bx s.rw k d=some d'->Rel w ⟨so w,[],[],g.M⟩ v d':=λk hk=>M8 h k;cases d with
  |own r=>
   simp only[vw]at hp;split at hp
   ·rename_i row qK;simp only[fe]at hp;subst hp;cases hr with
    |own _ _ _ h'=>
     obtain⟨v',e1,e2,_⟩:=(h.rw _ row qK).ex;rw[e1]at h';cases h'
     exact h.CH (e2.erase trivial)
   ·cases hp
  |box i off=>
   simp only[vw]at hp;split at hp
   ·rename_i cs aE;simp only[cS]at hp;obtain⟨l,hl,rfl⟩:=hp;obtain⟨f1,f2⟩:=z_ hl;cases hr with
    |box _ _ _ b hb=>
     obtain⟨b',vs,t,e1,e2,e3,_,_,_⟩:=(h.bx i cs aE).ex;rw[e1]at hb;cases hb
     have e3:fF w g vs cs:=e3;have e4:fF w ⟨so w,[],[],g.M⟩ vs l:=⟨by rw[e3.1,f1],λq x hx=>by
      obtain⟨y,k,hy,hk,hv⟩:=f2 q x hx;exact⟨ih k ag (e3.2 q y hy).1 hv,(e3.2 q y hy).2⟩⟩
     obtain⟨h1,h2⟩:=q7 e2 e4 off;exact .ro _ _ _ (λq=>vs.getD (off + q) Go.undef) (λq hq=>⟨(h1 q hq).1,⟨_,(h1 q hq).1⟩,(h1 q hq).2⟩) (λq d hd=>h2 q d hd)
   ·rename_i cs aE;simp only[fe]at hp;subst hp;cases hr with
    |box _ _ _ b hb=>
     obtain⟨b',vs,t,e1,e2,e3,_,_,_⟩:=(h.fz i cs aE).ex;rw[e1]at hb;cases hb
     have e4:fF w ⟨so w,[],[],g.M⟩ vs cs:=⟨e3.1,λq x hx=>⟨h.CH (by have:=(e3.2 q x hx).1;exact this),(e3.2 q x hx).2⟩⟩;obtain⟨h1,h2⟩:=q7 e2 e4 off;exact .ro _ _ _ (λq=>vs.getD (off + q) Go.undef) (λq hq=>⟨(h1 q hq).1,⟨_,(h1 q hq).1⟩,(h1 q hq).2⟩) (λq d hd=>h2 q d hd)
   ·cases hp
  |agg cs=>
   simp only[vw,cS]at hp;obtain⟨l,hl,rfl⟩:=hp;obtain⟨f1,f2⟩:=z_ hl;obtain⟨vs,rfl,kH,cH⟩:=hr.q8;refine .agg _ _ _ (by simp[kH,f1]) (λq hq=> ?_) (λq x hx=> ?_)
   ·obtain⟨y,k,hy,_⟩:=f2 q _ (List.getElem?_eq_getElem hq);simpa using(cH q y hy).2
   ·obtain⟨y,k,hy,hk,hv⟩:=f2 q x hx;exact ih k ag (by simpa using(cH q y hy).1) hv
  |aD f cs=>
   simp only[vw,cS]at hp;obtain⟨l,hl,rfl⟩:=hp;obtain⟨f1,f2⟩:=z_ hl;cases hr with
   |aD _ f vs cs kH cH=>
    refine .aD _ _ vs l (by rw[kH,f1]) (λq x hx=> ?_);obtain⟨y,k,hy,hk,hv⟩:=f2 q x hx;exact ih k ag (cH q y hy) hv
  |aQ _=>simp[vw]at hp
  |dq _ _=>simp[vw]at hp
  |a_ _ _ _ _=>simp[vw]at hp
  |bz _=>
   simp only[vw,fe]at hp;subst hp;cases hr with
   |bz _ _ b hb=>exact .any _ _ rfl
  |val x=>
   by_cases hx:x= .slice none 0 0
   ·subst hx;simp only[vw,fe]at hp;subst hp;cases hr with
    |val=>exact Rel.nil _ _
   ·have:vw s.bx s.rw (n + 1) (.val x)=some (.val x):=by
     unfold vw;split<;>first|rfl|(simp_all;done)
    rw[this]at hp;simp only[fe]at hp;subst hp;exact h.CH (hr.erase trivial)
  |_=>
   simp only[vw,fe]at hp;subst hp;exact h.CH (hr.erase trivial)
def R9:D->Bool
 | .int _ _=>true
 | .bool _=>true
 | .str _=>true
 | .aQ ds=>ds.all λd=>match d with| .int _ _=>true| .bool _=>true| .str _=>true|_=>false
 |_=>false
theorem af8 {w':World}{g1 g2:Gh}{v:Value}{d:D}(hd:R9 d=true)(hr:Rel w' g1 v d):Rel w' g2 v d:=by
 cases hr with
 |int=>exact .int _ _ _
 |bool=>exact .bool _ _
 |str=>exact .str _ _
 |aQ _ vs ds hl hr=>
  refine .aQ _ vs ds hl λq d hq=> ?_;have h1:=ic.1 hd d (List.mem_of_getElem? hq);have h2:=hr q d hq;cases d<;>first|(exact absurd h1 Bool.false_ne_true)|skip
  ·generalize vs.getD q undef=x at h2;cases h2;exact .int _ _ _
  ·generalize vs.getD q undef=x at h2;cases h2;exact .bool _ _
  ·generalize vs.getD q undef=x at h2;cases h2;exact .str _ _
 |_=>exact absurd hd Bool.false_ne_true
theorem aZ.sV {K:St->Prop}{fx:Operand}{xs:Array Operand}{dst:Option Tmp}{at_:Array TypeId}{ty:TypeId}{pos:String}{aft:Array Edge}{gd:Option (Nat×Bool)}{f:FuncId}{cs ds:List D}{d:D}(n:Nat)(hc:ax c.P f ds d)(jF:R9 d=true)(hd:bp s dst)
  (hx:s.ev fx= .aD f cs)(hv:mM s.bx s.rw n (xs.toList.map s.ev++cs)=some ds)(hk:K (s.put dst d)):aZ c ⟨dst, .call ⟨.value fx,xs,at_⟩,ty,pos,aft,gd⟩ s K:=by
 rintro a w N' Q' ⟨g,h⟩ hN;obtain⟨qW,aE⟩:=hc;obtain⟨e1,e2⟩:=z_ hv;have eg:=h.ev fx;rw[hx]at eg;generalize GM:a.eval fx=vx at eg;cases eg with
 |aD _ _ vs _ hl hr=>
 refine gK (by intro cl h;cases h) ?_;have bg:(execOp a.eval ⟨dst, .call ⟨.value fx,xs,at_⟩,ty,pos,aft,gd⟩).run c.P w= .ok (.enter f (xs.toList.map a.eval++vs.toList).toArray) w:=by
  simp[execOp,resolve,GM,Deferred.ofValue,invoke];rw[qW];simp
 have hlen:(xs.toList.map a.eval++vs.toList).length=ds.length:=by
  rw[e1];simp[hl]
 have bE:=aE (so w) g.M w (xs.toList.map a.eval++vs.toList) (h.df.fj.at h.below) (λx hx=>hx) h.df.cb hlen (λq x hx=>by
  obtain⟨y,k,hy,_,ta⟩:=e2 q x hx;refine M8 h k ?_ ta;rw[List.getD_eq_getElem?_getD];rcases Nat.lt_or_ge q (xs.toList.map s.ev).length with hq|hq
  ·rw[cZ hq]at hy;simp only[dO,cS]at hy;obtain⟨z,hz,rfl⟩:=hy;rw[cZ (by simpa using hq)];simp only[dO,hz,Option.map_some,Option.getD_some];exact h.ev z
  ·rw[gk hq]at hy;have:=hr _ y hy;rw[gk (by simpa using hq)];simpa using this)
 unfold Oper.wp;rw[bg];refine bE.mono ?_;rintro e w' ⟨v,S',M',rfl,hg,h3,b9⟩;have fy:Grow w g.S g.M w' g.S M':=⟨hg.below,λ_ h=>h,λ_ h=> .inl h,hg.m1,hg.m2,hg.cb⟩;have h4:Good w' g.S:=λx hx=>by
  obtain⟨u,hu⟩:=h.bt x hx;exact⟨u,(fy.bt h.df.cb h.bt x hx).trans hu⟩
 exact hN _ _ _ ⟨_,(h.grow fy h4).put hd (af8 jF b9)⟩ hk
end
end Go.Ab
end
section
namespace Go.Ab
open Go.RowKit
section
variable {c:Ctx} {s:St}
theorem Gi {ops l:List Oper}{QQ:Exit->Act->World->Prop}(n:Nat){dst:Option Tmp}{op:Op}{ty:TypeId}{pos:String}{aft:Array Edge}{j:Nat}{want:Bool}(At:(St->Prop)->St->Prop)(hy:∀(N:St->Prop) (s1:St),At N s1->aZ c ⟨dst,op,ty,pos,aft,some (j,want)⟩ s1 N)
  (hl:l=l.take n++⟨dst,op,ty,pos,aft,some (j,want)⟩::l.drop (n + 1))(Rest:St->Prop)
  (hR:∀s3 a3 w3,R c s3 a3 w3->Rest s3->wpListIn c.F 0 c.P ops.toArray QQ (l.drop (n + 1)) a3 w3)
  (h:∀K1:St->Prop,(∀s1,vl ops j want dst At Rest s1->K1 s1)->cq c.P ops (l.take n) s K1){a:Act}{w:World}(hr:R c s a w):wpListIn c.F 0 c.P ops.toArray QQ l a w:=by
 rw[hl];generalize l.take n=l1 at *;generalize l.drop (n + 1)=l2 at *;refine pQ (c:=c) (ops:=ops.toArray) (λs1 a1 w1 hH ba=> ?_) l1 s a w hr (h _ (λs1 h1=>h1));obtain⟨y,wo⟩:∃y:Oper,y=⟨dst,op,ty,pos,aft,some (j,want)⟩:=⟨_,rfl⟩;rw[<-wo]at hy⊢;have cK:y.guard=some (j,want):=by rw[wo]
 show wpListIn c.F 0 c.P _ _ (y::l2) a1 w1;unfold wpListIn;obtain⟨t,ht,ba⟩:=cE ba;obtain⟨g1,bM⟩:=hH;have oQ:y.dst=dst:=by rw[wo]
 cases hb:s1.sl t<;>rw[hb]at ba<;>simp only[wG]at ba
 case skp=>
  have pF:=R.v7 (ops:=ops.toArray) bM (by simpa using ht) hb;rw[if_neg (by simp[d_,cK,pF])];refine⟨λ_ _=>trivial, ?_⟩;rw[oQ];exact hR _ _ _ ⟨g1,bM.put ba.1 (.skp _)⟩ ba.2
 rename_i b;have pF:=R.yielded (ops:=ops.toArray) bM (by simpa using ht) hb;by_cases e_:b=want
 ·subst e_;rw[if_pos (by simp[d_,cK,pF])];exact hy _ s1 (ba.1 rfl) a1 w1 _ _ ⟨g1,bM⟩ hR
 ·have nh:b= !want:=by cases b<;>cases want<;>simp_all
  rw[if_neg (by simp[d_,cK,pF,e_])];obtain⟨hd,h2⟩:=ba.2 nh;refine⟨λ_ _=>trivial, ?_⟩;rw[oQ];exact hR _ _ _ ⟨g1,bM.put hd (.skp _)⟩ h2
theorem agF {Q:Exit->St->Prop}{id:Nat}{l:List Oper}(n m:Nat){dst:Option Tmp}{op:Op}{ty:TypeId}{pos:String}{aft:Array Edge}{j:Nat}{want:Bool}{wZ:Option Tmp}{AH:Op}{Aa:TypeId}{AD:String}{B3:Array Edge}{j2:Nat}{vH:Bool}
  (At:(St->Prop)->St->Prop)(hy:∀(N:St->Prop) (s1:St),At N s1->aZ c ⟨dst,op,ty,pos,aft,some (j,want)⟩ s1 N)
  (xY:(St->Prop)->St->Prop)(wq:∀(N:St->Prop) (s1:St),xY N s1->aZ c ⟨wZ,AH,Aa,AD,B3,some (j2,vH)⟩ s1 N)
  (hl:l=l.take n++⟨dst,op,ty,pos,aft,some (j,want)⟩::l.drop (n + 1))
  (fH:l.drop (n + 1)=(l.drop (n + 1)).take m++⟨wZ,AH,Aa,AD,B3,some (j2,vH)⟩::(l.drop (n + 1)).drop (m + 1))
  (h:∀K1:St->Prop,(∀s1,vl l j want dst At (λs2=>∀K2:St->Prop,(∀s3,vl l j2 vH wZ xY (λs4=>cq c.P l ((l.drop (n + 1)).drop (m + 1)) s4 (λs5=>Q .normal s5)) s3->K2 s3)->cq c.P l ((l.drop (n + 1)).take m) s2 K2) s1->K1 s1)->cq c.P l (l.take n) s K1):
  az c (.region id l.toArray false) Q s:=by
 intro a w hr;refine wpIn_region_lit ?_;refine Gi (c:=c) n At hy hl _ (λs3 a3 w3 kz mZ=> ?_) h hr;refine Gi (c:=c) m xY wq fH _ (λs4 a4 w4 oU pL=> ?_) mZ kz;exact n9 (c:=c) (K:=λs2=>Q .normal s2) (λs5 a5 w5 GX Hc=>⟨s5,GX,Hc⟩) _ _ _ _ oU pL
end
end Go.Ab
end
