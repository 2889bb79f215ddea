import Derived.Test.YtopobgihpdaggaaGreatDoorZ02
import Derived.Laws.IdiomCopy
import Derived.Laws.MakeOwn
set_option linter.unusedVariables false
set_option linter.unusedSimpArgs false
open Array renaming getD_eq_getD_getElem?->lL,getElem?_eq_getElem->Fe,getElem?_eq_some_iff->bJ,getElem?_modify->ug,getElem?_push->zX,getElem?_setIfInBounds->sB,getElem_modify->ag9,mem_of_getElem?->zV,mem_toList_iff->Fb,toList_push->Ts
open Bool renaming and_eq_true->dZ
open Go.Builtin renaming append_->uf,copy_->Tp,firstCells->I',lenOf->E'
open Go renaming undef->bH
open Go.Instr renaming checkKey->su,findKey->xT,findNow->vB,keyThatStays->E5,lookup->uc,mapUpdate->Ct,sameBits->Cs,sameNow->E4
open List renaming all_eq_true->ic,append_assoc->rh,eq_nil_of_length_eq_zero->zN,getD_eq_getElem?_getD->rf,getElem?_append_left->cZ,getElem?_append_right->gk,getElem?_eq_getElem->cX,getElem?_eq_some_iff->bm,getElem?_map->dO,getElem?_set_ne->gz,getElem?_set_self->je,getElem?_take->ib,getElem?_toArray->S_,getElem_of_mem->xH,length_append->ia,length_cons->mH,mem_append->gY,mem_cons->eX,mem_cons_of_mem->fE,mem_cons_self->ey,mem_iff_getElem?->po,mem_map->iH,mem_of_getElem?->fM,range->dB,replicate->bP
open Go.MapKept renaming run_getObj_map->qc,run_setObj_map->IW
open Nat renaming add_mul->pk,eq_zero_or_pos->IV,le_refl->cx,lt_or_ge->fL,mul_le_mul_right->xA,zero_add->jd
open Ne renaming symm->eJ
open Go.Oper renaming wp->fC
open Option renaming getD_some->fV,map_eq_some_iff->cS
open Option.some renaming inj->jb,injEq->fe
open Go.Value renaming int->gX,ownBlock->jr
open Go.World renaming alloc_heap_new->zA,cell?->sq,cell?_of_block->nz
section
namespace Go.Ab
open Go.RowKit
section
variable {c:Ctx} {s:St} {a:Act} {w:World} {g:Gh}
theorem W9 (w:World)(b:Nat)(cs:Array Value):w.grownBy (w.setRow b cs) (some b):=
 ⟨rfl,rfl,rfl,by simp[World.setRow],λk _ hk=>setRow_other w b k cs (λe=>hk (by rw[e]))⟩
theorem mK.grown {p:Nat->Prop}{B:Nat}{a w w':World}{row:Option Nat}(h:mK p B a w)(hg:w.grownBy w' row)(hr:∀k,row=some k->p k)(hB:B<=a.heap.size:=by exact Nat.le_refl _):mK p B a w':=
 ⟨hg.os.trans h.os,hg.tape.trans h.tape,hg.output.trans h.output,Nat.le_trans h.size hg.size,λk hk hn=>(hg.block k (by have:=h.size;omega) (λe=>hn (hr k e.symm))).trans (h.block k hk hn)⟩
theorem acO {n:Nat}{b:Bool}{k:Nat}(hk:k < n):(decide ((nk n b).1<=k)&&decide (k < (nk n b).2))=false:=by
 cases b with
 |false=>simp[nk]
 |true=>
  have:¬n<=k:=ag;simp[nk,this]
theorem Am (P:Program)(g o:Nat)(t:TypeId)(b:Bool):∀(vs:List Value) (i:Nat) (cur:Array Value) (w:World),w.heap[g]? =some (.cells cur t (nk cur.size b))->o + i + vs.length<=cur.size->(∀v∈vs,v.oneCell'=true)->
  (storeCells ⟨g,o,none⟩ vs i).run P w= .ok () (w.setRow g (cur.toList.take (o + i)++vs++cur.toList.drop (o + i + vs.length)).toArray)
 |[],i,cur,w,hg,_,_=>by
  simp only[storeCells,List.append_nil,List.length_nil,Nat.add_zero,List.take_append_drop,Array.toArray_toList];rw[setRow_self w g cur t _ hg];rfl
 |v::rest,i,cur,w,hg,hl,h1=>by
  have hi:o + i < cur.size:=by simp only[mH]at hl;omega
  have acn:(⟨g,o,none⟩:Addr).add i=⟨g,o + i,none⟩:=lH g o i;have fI:w.cell? ⟨g,o + i,none⟩=some cur[o + i]:=by simp[sq,hg,hi]
  have abW:w.frozen? ⟨g,o + i,none⟩=false:=by
   have:=acO (b:=b) hi;unfold World.frozen?;simp only[hg];exact this
  have bD:(store ((⟨g,o,none⟩:Addr).add i) v).run P w= .ok () (w.setRow g (cur.setIfInBounds (o + i) v)):=by
   rw[acn,run_store P w _ v _ (h1 v ay),fI];simp[abW,setCell_eq_setRow w g (o + i) cur t _ v hg]
  have bo:(cur.setIfInBounds (o + i) v).size=cur.size:=by simp
  have ih:=Am P g o t b rest (i + 1) (cur.setIfInBounds (o + i) v) (w.setRow g (cur.setIfInBounds (o + i) v)) (by rw[bo];exact setRow_heap w g cur _ t _ hg) (by simp only[mH]at hl;rw[bo];omega) (λx hx=>h1 x (by simp[hx]));simp only[storeCells,Sem.run_bind,bD,Result.andThen_ok,ih,setRow_setRow]
  congr 3
  have e:=list_seg_step cur.toList (o + i) v rest (by simp only[mH]at hl;simp;omega);simpa[Array.toList_setIfInBounds,Nat.add_assoc]using e
theorem XB (P:Program)(w:World)(dT sT ty elem:TypeId)(g o Rs aeE:Nat)(a:Addr)(ry Al:Nat)(cur:Array Value)(t:TypeId)(b:Bool)(cs:List Value)
  (hu:P.underlying dT=some (.slice elem))(hs:(P.info? elem).map (·.size)=some 1)
  (hg:w.heap[g]? =some (.cells cur t (nk cur.size b)))(hn:cs.length=Nat.min ry Rs)
  (GQ:∀j v,cs[j]? =some v->w.cell? (a.add j)=some v)(u5:o + cs.length<=cur.size)(h1:∀v∈cs,v.oneCell'=true):
  (Tp #[dT,sT] ty #[.slice (some ⟨g,o,none⟩) Rs aeE, .slice (some a) ry Al]).run P w=
   .ok (goInt cs.length) (w.setRow g (cur.toList.take o++cs++cur.toList.drop (o + cs.length)).toArray):=by
 have hl:=run_loadCells_list (P:=P) w a cs GQ;have bD:=Am P g o t b cs 0 cur w hg (by simpa using u5) h1;cases hq:P.info? elem with
 |none=>simp[hq]at hs
 |some i=>
  have hi:i.size=1:=by simpa[hq]using hs
  simp[Tp,run_underlying hu,E',I',sizeOf,typeInfo,hq,hi,<-hn,hl,bD]
theorem RG.store {i off b:Nat}{cs ds:List D}{vs:Array Value}(h:RG c s a w g)(hi:s.bx[i]? =some (.mu cs))(hb:g.β[i]? =some b)(hd:fF w g vs ds)(hle:off + ds.length<=cs.length):
  ∃(cur:Array Value) (t:TypeId×Bool),w.heap[b]? =some (.cells cur t.1 (nk cur.size t.2))/\cur.size=cs.length/\
   RG c {s with bx:=s.bx.set i (.mu (cs.take off++ds++cs.drop (off + ds.length)))} a (w.setRow b (cur.toList.take off++vs.toList++cur.toList.drop (off + vs.size)).toArray) g:=by
 obtain⟨b',cur,t,e1,e2,e3,e4,e5,e6⟩:=(h.bx i cs hi).ex;rw[e1]at hb;cases hb
 refine⟨cur,t,e2,e3.1, ?_⟩;generalize hw:w.setRow b (cur.toList.take off++vs.toList++cur.toList.drop (off + vs.size)).toArray=w';have k5:w.grownBy w' (some b):=by rw[<-hw];exact W9 w b _
 have bS:∀x,g.S x->x.block≠b:=e5 rfl;have fI:∀x:Addr,x.block < w.heap.size->x.block≠b->w'.cell? x=w.cell? x:=λx hx ig=>
  nz (k5.block x.block hx (by simpa using ig))
 have k:ep w g w' g:=⟨λx hx=>fI x (h.bt.lt hx) (bS x hx),λ_ h=>h,λ_ _ h=>h,λ_ _ h=>h,λ_ _ h=>h⟩;have en:i < s.bx.length:=(bm.1 hi).1;obtain⟨κ,k1,k2⟩:=h.ap;have hκ:κ b= .inl i:=k1 i _ b hi rfl e1;have hold:∀(j:Nat) (x:Bx),(s.bx.set i (.mu (cs.take off++ds++cs.drop (off + ds.length))))[j]? =some x->(j=i/\x= .mu (cs.take off++ds++cs.drop (off + ds.length)))\/(j≠i/\s.bx[j]? =some x):=λj x hj=>by
  by_cases bd:j=i
  ·subst bd;rw[je en]at hj;exact .inl ⟨rfl,(jb hj).symm⟩
  ·rw[gz (eJ bd)]at hj;exact .inr ⟨bd,hj⟩
 have wA:∀(j:Nat) (x:Bx) (b':Nat),j≠i->s.bx[j]? =some x->x.live=true->g.β[j]? =some b'->b'≠b:=λj x b' bd hj hl bT e=>by
  subst e;have:=k1 j x b' hj hl bT;rw[hκ]at this;injection this with this;exact bd this.symm
 have wP:fF w g (cur.toList.take off++vs.toList++cur.toList.drop (off + vs.size)).toArray (cs.take off++ds++cs.drop (off + ds.length)):=by
  have uO:=hd.1;have hcu:=e3.1;refine RV e3 hd hle (by simp;omega) (λm hm=> ?_);by_cases hc:off<=m/\m < off + vs.size
  ·rw[if_pos hc];simp only[lL,S_];rw[rh,gk (by simp;omega),cZ (by simp;omega)];have:m - (cur.toList.take off).length=m - off:=by simp;omega
   rw[this];simp
  ·rw[if_neg hc];simp only[lL,S_];rcases fL m off with h2|h2
   ·rw[rh,cZ (by simp;omega),ib,if_pos h2];simp
   ·rw[gk (by simp;omega),List.getElem?_drop];have:off + vs.size + (m - (cur.toList.take off++vs.toList).length)=m:=by simp;omega
    rw[this];simp
 refine⟨h.df.bb (λk o hk ho=> ?_) (λx hx=>k.cell x (h.S0 x hx)),h.sz, ?_,h.cY,λx hx=> ?_,h.eD,h.S0,h.fU,by simp[h.lβ],h.lρ,λn=>(h.sl n).bb k, ?_, ?_, ?_, ?_,λj es hj=>by
  rcases hold j _ hj with⟨_,e⟩|⟨bd,hj⟩
  ·cases e
  ·obtain⟨b2,hm⟩:=h.mp j es hj;refine⟨b2, ?_⟩;exact hm.bb k (k5.block b2 hm.lt (by simpa using wA j _ b2 bd hj rfl hm.β)) hm.nm⟩
 ·refine(k5.block k (bJ.1 hk).1 (λe=> ?_)).trans hk;cases e;rw[e2]at hk;cases hk;cases ho
 ·exact h.below.grown k5 (λq hq=>by cases hq;exact .inl e4)
 ·obtain⟨u,hu⟩:=h.bt x hx;exact⟨u,(k.cell x hx).trans hu⟩
 ·intro j cu hj;rcases hold j _ hj with⟨rfl,e⟩|⟨bd,hj⟩
  ·cases e;have abq:(cur.toList.take off++vs.toList++cur.toList.drop (off + vs.size)).toArray.size=cur.size:=by
    have uO:=hd.1;have hcu:=e3.1;simp;omega
   refine⟨b,_,t,e1,by rw[<-hw,abq];exact setRow_heap w b cur _ t.1 _ e2,wP.bb k,e4,λ_=>bS,λh=>by cases h⟩
  ·obtain⟨b',iJ,t',f1,f2,f3,f4,f5,f6⟩:=(h.bx j cu hj).ex;have aU:b' < w.heap.size:=(bJ.1 f2).1;exact⟨b',iJ,t',f1,(k5.block b' aU (by simpa using wA j _ b' bd hj rfl f1)).trans f2,f3.bb k,f4,f5,f6⟩
 ·intro j cu hj;rcases hold j _ hj with⟨rfl,e⟩|⟨bd,hj⟩
  ·cases e
  ·obtain⟨b',iJ,t',f1,f2,f3,f4,f5,f6⟩:=(h.fz j cu hj).ex;have aU:b' < w.heap.size:=(bJ.1 f2).1;exact⟨b',iJ,t',f1,(k5.block b' aU (by simpa using wA j _ b' bd hj rfl f1)).trans f2,f3.bb k.er,f4,f5,f6⟩
 ·intro r row hr;obtain⟨v,f1,f2,f3⟩:=(h.rw r row hr).ex;refine⟨v,f1,f2.bb k,λhl=> ?_⟩;obtain⟨⟨vals,bG⟩,bE,hS⟩:=f3 hl;refine⟨⟨vals,bG.kept k5 ?_⟩,bE,hS⟩;right;intro e;have:=k2 r row v b hr hl f1 e;rw[hκ]at this;cases this
 ·refine⟨κ,λj x b' hj hx bT=> ?_,k2⟩;rcases hold j _ hj with⟨rfl,e⟩|⟨bd,hj⟩
  ·rw[e1]at bT;cases bT;exact hκ
  ·exact k1 j x b' hj hx bT
def qj (P:Program)(s:St)(t:TypeId)(x d:D)(K:St->Prop):Prop:=match x with
 | .box i off=>match s.bx[i]? with
  |some (.mu cs)=>aJ P t≠0/\d.cells.length=aJ P t/\d.cells.all D.one=true/\off + d.cells.length<=cs.length/\
    K {s with bx:=s.bx.set i (.mu (cs.take off++d.cells++cs.drop (off + d.cells.length)))}
  |_=>False
 |_=>False
theorem Xf {o:Oper}{t:TypeId}{x y:Operand}{K:St->Prop}{Q:Exit->Act->World->Prop}(h:RG c s a w g)(ho:o.op= .store t x y)(hd:o.dst=none)
  (hk:qj c.P s t (s.ev x) (s.ev y) K):o.wp c.P a w (λa' w'=>∃s',R c s' a' w'/\K s') Q:=by
 unfold qj at hk;split at hk
 ·rename_i i off hx;split at hk
  ·rename_i cs aE;obtain⟨hz,hl,h1,hle,hk⟩:=hk;have eg:=h.ev x;rw[hx]at eg;generalize hv:a.eval x=vx at eg;cases eg with
   |box _ _ _ b hb=>
    have hc:=(h.ev y).BU h.hρ h1;obtain⟨cur,tb,e1,e2,e3⟩:=h.store aE hb hc hle;have bo:(a.eval y).cells.size=aJ c.P t:=by rw[hc.1,hl]
    have oX:∀v∈(a.eval y).cells.toList,v.oneCell'=true:=λv hv=>by
     obtain⟨q,hq,rfl⟩:=xH hv;have ec:q < (s.ev y).cells.length:=by rw[<-hc.1];simpa using hq
     have:=(hc.2 q _ (cX ec)).2;simp at hq;simpa[hq]using this
    have bg:=Am c.P b off tb.1 tb.2 (a.eval y).cells.toList 0 cur w e1 (by have:=hc.1;simp;omega) oX;simp only[Nat.add_zero,Array.length_toList]at bg;have hex:(execOp a.eval o).run c.P w= .ok .skip (w.setRow b (cur.toList.take off++(a.eval y).cells.toList++cur.toList.drop (off + (a.eval y).cells.size)).toArray):=by
     simp[execOp,ho,hv,Instr.storeAt,Instr.sureAddr,storeVar,run_sizeOf hz,bo,bg]
    unfold fC;rw[hex];simp only[Oper.upon,hd,Act.put];exact⟨_,⟨g,e3⟩,hk⟩
  ·exact hk.elim
 ·exact hk.elim
theorem Xr {o:Oper}{t:TypeId}{K:St->Prop}{Q:Exit->Act->World->Prop}(h:RG c s a w g)(ho:o.op= .alloc t)(hd:bp s o.dst)
  (hk:bn (bX c.P t) λzs=>K (St.put {s with bx:=s.bx++[.mu zs]} o.dst (.box s.bx.length 0))):o.wp c.P a w (λa' w'=>∃s',R c s' a' w'/\K s') Q:=by
 obtain⟨zs,hz,hk⟩:=cE hk;obtain⟨z,fQ,iV,_⟩:=vF hz w g;have hr:=h.alloc (t:=t) iV;have hex:(execOp a.eval o).run c.P w= .ok (.value (.pointer (some ⟨w.heap.size,0,none⟩))) (w.alloc (.cells z.cells t)):=by
  simp[execOp,ho,Instr.alloc,fQ,newVar,newRow]
 unfold fC;rw[hex];refine⟨_,⟨_,hr.put ?_ (.box _ _ _ w.heap.size ?_)⟩,hk⟩
 ·exact hd
 ·simp[<-h.lβ]
theorem Xp {o:Oper}{t:TypeId}{x:Operand}{K:St->Prop}{Q:Exit->Act->World->Prop}(h:RG c s a w g)(ho:o.op= .box t x)(hd:bp s o.dst)
  (hk:(s.ev x).cells.all D.one=true/\K (St.put {s with bx:=s.bx++[.mu (s.ev x).cells]} o.dst (.box s.bx.length 0))):o.wp c.P a w (λa' w'=>∃s',R c s' a' w'/\K s') Q:=by
 obtain⟨h1,hk⟩:=hk;have hc:=(h.ev x).BU h.hρ h1;have hr:=h.alloc (t:=t) hc;have hex:(execOp a.eval o).run c.P w= .ok (.value (.pointer (some ⟨w.heap.size,0,none⟩))) (w.alloc (.cells (a.eval x).cells t)):=by
  simp[execOp,ho,Instr.box,newVar,newRow]
 unfold fC;rw[hex];refine⟨_,⟨_,hr.put ?_ (.box _ _ _ w.heap.size ?_)⟩,hk⟩
 ·exact hd
 ·simp[<-h.lβ]
def BY (P:Program)(t:TypeId):Nat:=((P.info? t).map (·.bytes)).getD 0
def vI (bx:List Bx)(d:D)(k:List D->Prop):Prop:=match d with
 | .a_ i off n _=>lO bx i λcs=>off + n<=cs.length/\k ((cs.drop off).take n)
 | .list xs=>k xs
 |_=>False
theorem MU {v:Value}{d:D}{k:List D->Prop}(h:RG c s a w g)(hr:Rel w g v d)(hk:vI s.bx d k):
  ∃(ys:List D) (A:Option Addr) (cp:Nat) (u:Nat->Value),k ys/\v= .slice A ys.length cp/\(ys.all D.one=true->∀q,q < ys.length->∃ad,A=some ad/\w.cell? (ad.add q)=some (u q)/\(u q).oneCell'=true)/\(ys.all D.one=true->∀q d,ys[q]? =some d->Rel w g (u q) d):=by
 unfold vI at hk;split at hk
 ·rename_i i off n cp;obtain⟨cs,aE,hle,hk⟩:=z7 hk;obtain⟨b,vs,tb,e1,e2,e3⟩:=h.mem.bx i cs aE;cases hr with
  |a_ _ _ _ _ _ b' bT=>
   obtain rfl:b'=b:=by rw[e1]at bT;exact(jb bT).symm
   obtain⟨h1,h2⟩:=q7 e2 e3 off;have hlen:((cs.drop off).take n).length=n:=by simp;omega
   refine⟨_,some ⟨b',off,none⟩,cp,λq=>vs.getD (off + q) bH,hk,by rw[hlen],λ_ q hq=>⟨_,rfl,h1 q (by simp;omega)⟩,λ_ q d hd=>h2 q d ?_⟩;rw[ib]at hd;split at hd
   ·exact hd
   ·cases hd
 rotate_left
 ·exact hk.elim
 ·rename_i xs;have gU:=hr;obtain⟨A,cp,sz,u,hv,_,hm,qJ⟩:=gU.qq;have gV:∀l:List D,l.all D.one=true->flat l=l:=λl hl=>by
   induction l with
   |nil=>rfl
   |cons d l ih=>
    simp only[List.all_cons,dZ]at hl;have e:d.cells=[d]:=by have:=hl.1;cases d<;>first|rfl|(cases this)
    show d.cells++flat l=_;rw[e,ih hl.2];rfl
  refine⟨xs,A,cp,u,hk,hv,λho q hq=> ?_,λho q d hd=> ?_⟩
  ·obtain⟨ad,e1,e2,_,e4⟩:=hm q (by rw[gV _ ho];exact hq);exact⟨ad,e1,e2,e4⟩
  ·exact(qJ q d (by rw[gV _ ho];exact hd)).bb (rL _ _)
def CD (P:Program)(bx:List Bx)(t:TypeId)(dx dy:D)(k:List Bx×D->Prop):Prop:=match dx with
 | .a_ i off n _=>bn (elemOf P t) λe=>aJ P e=1/\vI bx dy λys=>ys.all D.one=true/\match bx[i]? with
   |some (.mu cs)=>off + n<=cs.length/\k (bx.set i (.mu (cs.take off++ys.take n++cs.drop (off + (ys.take n).length))), .int .i64 (ys.take n).length)
   |_=>False
 |_=>False
def CE (P:Program)(s:St)(dst:Option Tmp)(t:TypeId)(dx dy:D)(K:St->Prop):Prop:=CD P s.bx t dx dy λr=>K (St.put {s with bx:=r.1} dst r.2)
theorem Xm {o:Oper}{x y:Operand}{t t':TypeId}{K:St->Prop}{Q:Exit->Act->World->Prop}(h:RG c s a w g)
  (ho:o.op= .call {callee:= .builtin .copy,args:=#[x,y],argTypes:=#[t,t']})(hd:bp s o.dst)(hk:CE c.P s o.dst t (s.ev x) (s.ev y) K):
  o.wp c.P a w (λa' w'=>∃s',R c s' a' w'/\K s') Q:=by
 unfold CE CD at hk;split at hk
 case h_2=>exact hk.elim
 rename_i i off n cp hx;obtain⟨e,he,hz,hk⟩:=cE hk;obtain⟨ys,A,H6,u,⟨PY,hk⟩,hv,hm,hr⟩:=MU h (h.ev y) hk;have hm:=hm PY;have hr:=hr PY;split at hk
 case h_2=>exact hk.elim
 rename_i cs aE;obtain⟨hle,hk⟩:=hk;have eg:=h.ev x;rw[hx]at eg;generalize qH:a.eval x=vx at eg;cases eg with
 |a_ _ _ _ _ _ b hb=>
 have hu:=k7 he;have gL:(c.P.info? e).map (·.size)=some 1:=by
  unfold aJ Program.cellsOf at hz;cases hi:c.P.info? e with
  |none=>rw[hi]at hz;simp at hz
  |some i=>rw[hi]at hz;simpa using hz
 have Be:(ys.take n).length=Nat.min ys.length n:=by simp[Nat.min_comm]
 obtain⟨vals,uP⟩:∃vals:List Value,vals=(dB (ys.take n).length).map u:=⟨_,rfl⟩;have kX:vals.length=(ys.take n).length:=by rw[uP];simp
 have HD:fF w g vals.toArray (ys.take n):=by
  refine⟨by simpa using kX,λq d hd=> ?_⟩;have hq:=(bm.1 hd).1;have ec:q < ys.length:=by simp at hq;omega
  have e1:(vals.toArray).getD q bH=u q:=by
   rw[uP];simp at hq⊢;simp[hq]
  rw[e1];obtain⟨ad,_,_,h1⟩:=hm q ec;refine⟨hr q d ?_,h1⟩;rw[ib]at hd;split at hd
  ·exact hd
  ·cases hd
 obtain⟨cur,tb,e1,e2,e3⟩:=h.store (off:=off) (vs:=vals.toArray) aE hb HD (by rw[Be];have h9:Nat.min ys.length n<=n:=Nat.min_le_right ys.length n;omega);have oX:∀v∈vals,v.oneCell'=true:=λv hv=>by
  rw[uP]at hv;obtain⟨q,hq,rfl⟩:=iH.1 hv;obtain⟨ad,_,_,h1⟩:=hm q (by simp at hq;omega);exact h1
 have bg:(Tp #[t,t'] o.type #[.slice (some ⟨b,off,none⟩) n cp, .slice A ys.length H6]).run c.P w= .ok (goInt (ys.take n).length) (w.setRow b (cur.toList.take off++vals++cur.toList.drop (off + vals.length)).toArray):=by
  by_cases h0:(ys.take n).length=0
  ·have mV:vals=[]:=by rw[<-List.length_eq_zero_iff,kX,h0]
   rw[h0,mV];rw[run_copy_none w t t' o.type e (some ⟨b,off,none⟩) A n cp ys.length H6 hu gL (by rw[<-Be,h0])];have:(cur.toList.take off++([]:List Value)++cur.toList.drop (off + ([]:List Value).length)).toArray=cur:=by simp
   rw[this,setRow_self w b cur tb.1 _ e1];rfl
  ·obtain⟨ad,rfl,_⟩:=hm 0 (by rcases IV ys.length with h9|h9;exact absurd (by rw[Be,h9];exact Nat.zero_min n) h0;exact h9);rw[<-kX];refine XB c.P w t t' o.type e b off n cp ad ys.length H6 cur tb.1 tb.2 vals hu gL e1 (by rw[kX,Be]) (λj v hj=> ?_) (by rw[kX,e2,Be];have h9:Nat.min ys.length n<=n:=Nat.min_le_right ys.length n;omega) oX;rw[uP]at hj;have eu:=(bm.1 hj).1;simp at eu;simp[eu]at hj;obtain⟨xg,e4,e5,_⟩:=hm j ag;cases e4;rw[<-hj];exact e5
 have hex:(execOp a.eval o).run c.P w= .ok (.value (goInt (ys.take n).length)) (w.setRow b (cur.toList.take off++vals++cur.toList.drop (off + vals.length)).toArray):=by
  simp only[List.length_take]at bg;simp[execOp,ho,resolve,invoke,builtin,qH,hv,bg]
 unfold fC;rw[hex];refine⟨_,⟨g,RG.put (s:={s with bx:=s.bx.set i (.mu (cs.take off++ys.take n++cs.drop (off + (ys.take n).length)))}) (dst:=o.dst) (d:= .int .i64 (ys.take n).length) (v:=goInt (ys.take n).length) (by simpa using e3) hd (.int _ _ _)⟩,hk⟩
def CB (P:Program)(s:St)(dst:Option Tmp)(t:TypeId)(dl dc:D)(K:St->Prop):Prop:=
 bn (elemOf P t) λe=>iI dl dc λ_ n m=>n=m/\0<=n/\n<=9223372036854775807/\(BY P e:Int) * n<=140737488355328/\bn (bX P e) λzs=>zs≠[]/\
  K (St.put {s with bx:=s.bx++[.mu (bP n.toNat zs).flatten]} dst (.a_ s.bx.length 0 n.toNat n.toNat))
theorem Xh {o:Oper}{t:TypeId}{x y:Operand}{K:St->Prop}{Q:Exit->Act->World->Prop}(h:RG c s a w g)(ho:o.op= .makeSlice t x y)(hd:bp s o.dst)
  (hk:CB c.P s o.dst t (s.ev x) (s.ev y) K):o.wp c.P a w (λa' w'=>∃s',R c s' a' w'/\K s') Q:=by
 obtain⟨e,he,hk⟩:=cE hk;obtain⟨q,n,m,h1,h2,rfl,h0,kK,mh,hk⟩:=nH (h.ev x) (h.ev y) hk;obtain⟨zs,gD,bS,hk⟩:=cE hk;obtain⟨z,fQ,iV,i,hi,qR⟩:=vF gD w g;obtain⟨z',yE,lv⟩:∃z',i.zero=some z'/\z'.cells=z.cells:=by
  unfold bX at gD;rw[hi]at gD;cases j_:i.zero with
  |none=>simp[j_]at gD
  |some z'=>
   refine⟨z',rfl, ?_⟩;have:(zeroValue e).run c.P w= .ok z' w:=by simp[zeroValue,typeInfo,hi,j_]
   rw[this]at fQ;injection fQ with fQ;rw[fQ]
 have hb:BY c.P e=i.bytes:=by simp[BY,hi]
 rw[hb]at mh;have bg:=run_make (P:=c.P) (w:=w) t e i z' (k7 he) hi yE q q n n h0 (Int.le_refl _) ag kK;have HD:fF w g (madeCells z'.cells (n.toNat * i.size)) (bP n.toNat zs).flatten:=by
  have Dq:zs.length=i.size:=qR.symm;have PE:z'.cells.size=zs.length:=by rw[lv];exact iV.1
  have lC:0 < zs.length:=List.length_pos_iff.2 bS;refine⟨by rw[size_madeCells];simp[Dq],λp d hd=> ?_⟩;have hp:p < n.toNat * zs.length:=by have:=(bm.1 hd).1;simpa using this
  have bM:(madeCells z'.cells (n.toNat * i.size)).getD p bH=z'.cells.getD (p % zs.length) bH:=by
   have hm:p % zs.length < z'.cells.size:=by rw[PE];exact Nat.mod_lt _ lC
   have jN:p < n.toNat * i.size:=by rw[<-Dq];exact hp
   simp only[madeCells,PE];simp[jN,hm]
  have fy:∀(m p:Nat),p < m * zs.length->(bP m zs).flatten[p]? =zs[p % zs.length]? :=by
   intro m;induction m with
   |zero=>intro p hp;omega
   |succ m ih=>
    intro p hp;rw[List.replicate_succ,List.flatten_cons];rcases fL p zs.length with h1|h1
    ·rw[cZ h1,Nat.mod_eq_of_lt h1]
    ·rw[gk h1,ih _ (by rw[pk]at hp;omega)]
     congr 1
     rw[Nat.mod_eq_sub_mod h1]
  rw[bM,lv];rw[fy _ _ hp]at hd;exact iV.2 _ d hd
 have hr:=h.alloc (t:=e) HD;have hex:(execOp a.eval o).run c.P w= .ok (.value (.slice (some ⟨w.heap.size,0,none⟩) n.toNat n.toNat)) (w.alloc (.cells (madeCells z'.cells (n.toNat * i.size)) e)):=by
  simp[execOp,ho,h1,h2,bg]
 unfold fC;rw[hex];refine⟨_,⟨_,hr.put ?_ (.a_ _ _ _ _ _ w.heap.size ?_)⟩,hk⟩
 ·exact hd
 ·simp[<-h.lβ]
mutual
def D.oL (r:Nat):D->Bool
 | .own r'=>r' == r
 | .agg cs=>pE r cs
 | .aQ cs=>pE r cs
 | .aD _ cs=>pE r cs
 | .dq _ cs=>pE r cs
 |_=>false
def pE (r:Nat):List D->Bool
 |[]=>false
 |d::ds=>d.oL r||pE r ds
end
theorem AM {r:Nat}:∀{ds:List D},pE r ds=false->∀d∈ds,d.oL r=false
 |[],_,d,hd=>by cases hd
 |x::ds,h,d,hd=>by
  simp only[pE,Bool.or_eq_false_iff]at h;rcases eX.1 hd with rfl|hd
  ·exact h.1
  ·exact AM h.2 d hd
theorem Rel.Pe {w':World}{r:Nat}{v:Value}{d:D}(h:Rel w g v d):∀{g':Gh},(∀x,g.S x->w'.cell? x=w.cell? x)->(∀x,g.S x->g'.S x)->(∀(i b:Nat),g.β[i]? =some b->g'.β[i]? =some b)->
  (∀(i:Nat) (b:Value),i≠r->g.ρ[i]? =some b->g'.ρ[i]? =some b)->(∀(b:Nat) (f:nE),g.M b=some f->g'.M b=some f)->d.oL r=false->Rel w' g' v d:=by
 induction h with
 |undef g v=>intros;exact .undef _ _
 |int g k n=>intros;exact .int _ _ _
 |bool g b=>intros;exact .bool _ _
 |str g s=>intros;exact .str _ _
 |val g v=>intros;exact .val _ _
 |list g A n c xs sz u hn bo fA hm hr ih=>
  intro g' h1 h2 h3 h4 iK _;have k:ep w g.er w' g'.er:=⟨h1,h2,λi b h=>by simp[Gh.er]at h,λi b h=>by simp[Gh.er]at h,iK⟩;refine .list _ A n c xs sz u hn bo fA (λq hq=> ?_) (λq d hd=>(hr q d hd).bb k);obtain⟨ad,rfl,hc,hS,gu⟩:=hm q hq;exact⟨ad,rfl,(h1 _ hS).trans hc,h2 _ hS,gu⟩
 |agg g vs cs hl gu hr ih=>
  intro g' h1 h2 h3 h4 iK hm;exact .agg _ vs cs hl gu (λq d hd=>ih q d hd h1 h2 h3 h4 iK (AM hm d (fM hd)))
 |aQ g vs ds hl hr ih=>
  intro g' h1 h2 h3 h4 iK hm;exact .aQ _ vs ds hl (λq d hd=>ih q d hd h1 h2 h3 h4 iK (AM hm d (fM hd)))
 |box g i off b hb=>intro g' h1 h2 h3 h4 iK _;exact .box _ i off b (h3 _ _ hb)
 |ro g ad cs u hm hr ih=>
  intro g' h1 h2 h3 h4 iK _;have k:ep w g.er w' g'.er:=⟨h1,h2,λi b h=>by simp[Gh.er]at h,λi b h=>by simp[Gh.er]at h,iK⟩;refine .ro _ ad cs u (λq hq=> ?_) (λq d hd=>(hr q d hd).bb k);obtain⟨hc,hS,gu⟩:=hm q hq;exact⟨(h1 _ hS).trans hc,h2 _ hS,gu⟩
 |eN g b f h=>intro g' h1 h2 h3 h4 iK _;exact .eN _ b f (iK _ _ h)
 |skp g=>intros;exact .skp _
 |any g v h1=>intros;exact .any _ v h1
 |bz g i b hb=>intro g' h1 h2 h3 h4 iK _;exact .bz _ i b (h3 _ _ hb)
 |dq g f vs cs hl hr ih=>
  intro g' h1 h2 h3 h4 iK hm;exact .dq _ f vs cs hl (λq d hd=>ih q d hd h1 h2 h3 h4 iK (AM hm d (fM hd)))
 |a_ g i off n c b hb=>intro g' h1 h2 h3 h4 iK _;exact .a_ _ i off n c b (h3 _ _ hb)
 |own g r' v h=>
  intro g' h1 h2 h3 h4 iK hm;simp only[D.oL,beq_eq_false_iff_ne,ne_eq]at hm;exact .own _ r' v (h4 _ _ hm h)
 |aD g f vs cs hl hr ih=>
  intro g' h1 h2 h3 h4 iK hm;exact .aD _ f vs cs hl (λq d hd=>ih q d hd h1 h2 h3 h4 iK (AM hm d (fM hd)))
end
end Go.Ab
end
section
namespace Go.Ab
open Go.RowKit
section
variable {c:Ctx} {s:St} {a:Act} {w:World} {g:Gh}
def gI (r:Nat)(d:D):D:=match d.oL r with|true=> .undef|false=>d
def iT (r:Nat):Bx->Bx
 | .mu cs=> .mu (cs.map (gI r))
 |x=>x
theorem YH {w':World}{g':Gh}{r:Nat}{v:Value}{d:D}(h:Rel w g v d)(h1:∀x,g.S x->w'.cell? x=w.cell? x)(h2:∀x,g.S x->g'.S x)(h3:∀(i b:Nat),g.β[i]? =some b->g'.β[i]? =some b)
  (h4:∀(i:Nat) (b:Value),i≠r->g.ρ[i]? =some b->g'.ρ[i]? =some b)(h5:∀(b:Nat) (f:nE),g.M b=some f->g'.M b=some f):Rel w' g' v (gI r d):=by
 unfold gI;cases hm:d.oL r with
 |true=>exact .undef _ _
 |false=>exact h.Pe h1 h2 h3 h4 h5 hm
theorem RG.yp (h:RG c s a w g)(e:TypeId)(sz:Nat):RG c {s with rw:=s.rw++[⟨true,e,sz,[]⟩]} a w ⟨g.S,g.β,g.ρ++[.slice none 0 0],g.M⟩:=by
 have k:ep w g w ⟨g.S,g.β,g.ρ++[.slice none 0 0],g.M⟩:=⟨λ_ _=>rfl,λ_ h=>h,λ_ _ h=>h,λi b hi=>by
  rw[cZ (bm.1 hi).1];exact hi,λ_ _ h=>h⟩
 have hold:∀(i:Nat) (x:Row),(s.rw++[⟨true,e,sz,[]⟩])[i]? =some x->s.rw[i]? =some x/\i < s.rw.length\/x=⟨true,e,sz,[]⟩/\i=s.rw.length:=λi x hi=>by
  rcases fL i s.rw.length with aU|il
  ·rw[cZ aU]at hi;exact .inl ⟨hi,aU⟩
  ·rw[gk il]at hi;have:i - s.rw.length=0:=by have:=(bm.1 hi).1;simp at this;omega
   rw[this]at hi;simp at hi;exact .inr ⟨hi.symm,ag⟩
 have hn:(g.ρ++[Value.slice none 0 0])[s.rw.length]? =some (.slice none 0 0):=by rw[<-h.lρ];simp
 refine⟨h.df.gh rfl,h.sz,h.below,h.cY,h.bt,h.eD,h.S0,h.fU,h.lβ,by simp[h.lρ],λn=>(h.sl n).bb k, ?_, ?_, ?_, ?_,λi es hi=>(h.mp i es hi).imp λb hm=>hm.bb k rfl hm.nm⟩
 ·intro i cs hi;obtain⟨b,vs,t,e1,e2,e3,e4,e5,e6⟩:=(h.bx i cs hi).ex;exact⟨b,vs,t,e1,e2,e3.bb k,e4,e5,e6⟩
 ·intro i cs hi;obtain⟨b,vs,t,e1,e2,e3,e4,e5,e6⟩:=(h.fz i cs hi).ex;exact⟨b,vs,t,e1,e2,e3,e4,e5,e6⟩
 ·intro r row hr;rcases hold r _ hr with⟨hr,_⟩|⟨rfl,rfl⟩
  ·obtain⟨v,e1,e2,e3⟩:=(h.rw r row hr).ex;exact⟨v,k.ρ _ _ e1,e2.bb k,e3⟩
  ·exact⟨_,hn, .nil _ _,λ_=>⟨⟨[],World.ownsRow_nil w _ e sz⟩,by simp,λgb aW=>by simp[jr]at aW⟩⟩
 ·obtain⟨κ,k1,k2⟩:=h.ap;refine⟨κ,k1,λr row v gb hr hl hv aW=> ?_⟩;rcases hold r _ hr with⟨hr,aU⟩|⟨rfl,rfl⟩
  ·rw[cZ (by rw[h.lρ];exact aU)]at hv;exact k2 r row v gb hr hl hv aW
  ·rw[hn]at hv;cases hv
   simp[jr]at aW
def St.appended (s:St)(r:Nat)(row:Row):St:=
 {s with sl:=λn=>gI r (s.sl n),bx:=s.bx.map (iT r),rw:=s.rw.set r row}
theorem NK (P:Program)(base:Nat)(t ty e:TypeId)(i:TypeInfo)(size:Nat)(ht:P.underlying t=some (.slice e))(hi:P.info? e=some i)
  (v:Value)(n:Nat)(xs:List Value)(bG:w.ownsRow base e size v n xs)(q:Nat):(uf #[t,t] ty #[v, .slice none 0 q]).run P w= .ok v w:=by
 rcases bG.2 with⟨rfl,rfl⟩|⟨g,cap,cur,rfl,_,_,rY,_⟩
 ·simp[uf,run_underlying ht,sizeOf,typeInfo,hi,E',I']
 ·simp[uf,run_underlying ht,sizeOf,typeInfo,hi,E',I',rY,storeCells]
theorem NL (P:Program)(base:Nat)(t ty e:TypeId)(i:TypeInfo)(z:Value)(size bytes:Nat)(ht:P.underlying t=some (.slice e))(hi:P.info? e=some i)(hz:i.zero=some z)
  (qI:i.size=size)(mh:i.bytes=bytes)(gD:z.cells.size=size)(bo:0 < size)
  (v:Value)(n:Nat)(xs:List Value)(bG:w.ownsRow base e size v n xs)
  (A:Option Addr)(m q:Nat)(news:List Value)(hl:news.length=m * size)(hr:0 < m->∃ad,A=some ad/\∀j u,news[j]? =some u->w.cell? (ad.add j)=some u)(h1:∀u∈news,u.oneCell'=true)
  (kK:n + m<=maxLen)(DU:(n + m) * bytes<=140737488355328)(ach:base<=w.heap.size):
  ∃v' w',(uf #[t,t] ty #[v, .slice A m q]).run P w= .ok v' w'/\w'.ownsRow base e size v' (n + m) (xs++news)/\w.grownBy w' v.ownBlock/\
   (v'.ownBlock=v.ownBlock\/(v'.ownBlock=some w.heap.size/\w.grownBy w' none)):=by
 rcases A with _|ad
 ·have hm:m=0:=by
   rcases IV m with h0|h0
   ·exact h0
   ·obtain⟨ad,h,_⟩:=hr h0;cases h
  subst hm;have hn:news=[]:=zN (by simpa using hl);subst hn;exact⟨v,w,NK P base t ty e i size ht hi v n xs bG q,by simpa using bG,⟨rfl,rfl,rfl,cx _,λ_ _ _=>rfl⟩, .inl rfl⟩
 ·have wP:∀j u,news[j]? =some u->w.cell? (ad.add j)=some u:=by
   intro j u hu;rcases IV m with h0|h0
   ·subst h0;have hn:news=[]:=zN (by simpa using hl);subst hn;simp at hu
   ·obtain⟨xg,h,hc⟩:=hr h0;injection h with h;subst h;exact hc j u hu
  obtain⟨v',w',bg,h2,h3,_,h5⟩:=run_append_own_at (P:=P) w base t ty e i z size bytes ht hi hz qI mh gD bo v n xs bG ad m q news hl wP h1 kK DU ach;refine⟨v',w',bg,h2,h3, ?_⟩;rcases h5 with h5|h5
  ·exact .inl h5
  ·refine .inr ⟨h5, ?_⟩;have lD:=bG;rcases bG.2 with⟨rfl,_⟩|⟨g,cap,cur,rfl,_,hg,rY,_,_,_⟩
   ·exact h3
   ·by_cases qL:n + m<=cap
    ·exfalso;have u5:n * i.size + news.length<=cur.size:=by
      have aE:cur.size=cap * size:=by
       rcases lD.2 with⟨hx,_⟩|⟨g2,aoE,aoD,he2,_,fy,_,_,nf,_⟩
       ·cases hx
       ·cases he2;rw[hg]at fy;cases fy;exact nf
      rw[hl,aE,qI,<-pk];exact xA _ qL
     have eR:=run_append_room (P:=P) w t ty e i ht hi g n cap cur hg ad m q news (by rw[qI];exact hl) wP h1 qL u5;rw[eR]at bg;cases bg;have:g=w.heap.size:=by simpa[jr]using h5
     have:=(bJ.1 hg).1;omega
    ·have holds:∀j u,xs[j]? =some u->w.cell? ((⟨g,0,none⟩:Addr).add j)=some u:=lD.cells (g:=g) rfl;have eR:=run_append_grow (P:=P) w t ty e i z ht hi hz ⟨g,0,none⟩ n cap xs (by rw[qI];exact lD.1) holds ad m q news (by rw[qI];exact hl) wP ag
      (by simp only[maxLen]at kK;omega) (growslice_fits ag (by rw[mh];exact DU))
     rw[eR]at bg;cases bg;exact⟨rfl,rfl,rfl,by simp,λk hk _=>Below.heap_alloc w.drew _ k hk⟩
def bytesOf (P:Program)(t:TypeId):Nat:=((P.info? t).map (·.bytes)).getD 0
theorem acW (xs ys:List D):flat (xs++ys)=flat xs++flat ys:=by simp[flat]
theorem RG.append {r:Nat}{row:Row}{v vy:Value}{ys:List D}{t ty:TypeId}(h:RG c s a w g)(hr:s.rw[r]? =some row)(hl:row.live=true)(hv:g.ρ[r]? =some v)
  (hy:Rel w g vy (.list ys))(he:elemOf c.P t=some row.e)(mU:aJ c.P row.e=row.sz)(hz:aJ c.P row.e≠0)(lv:(bX c.P row.e).isSome=true)
  (j7:∀y∈ys,y.cells.length=row.sz)(kK:row.xs.length + ys.length<=9223372036854775807)(DU:(row.xs.length + ys.length) * bytesOf c.P row.e<=140737488355328):
  ∃v' w' g',(uf #[t,t] ty #[v,vy]).run c.P w= .ok v' w'/\RG c (s.appended r ⟨true,row.e,row.sz,row.xs++ys⟩) a w' g'/\g'.ρ[r]? =some v':=by
 obtain⟨v0,e1,e2,e3⟩:=(h.rw r row hr).ex;rw[e1]at hv;cases hv
 obtain⟨⟨vals,bG⟩,gU,y0⟩:=e3 hl;obtain⟨A,cy,Ft,uy,rfl,GN,ma,s9⟩:=hy.qq;obtain⟨zs,gD⟩:=Option.isSome_iff_exists.1 lv;have⟨i,z,hi,j_,iV,qR⟩:∃i z,c.P.info? row.e=some i/\i.zero=some z/\z.cells.size=row.sz/\i.size=row.sz:=by
  unfold bX at gD;split at gD
  ·rename_i i hi;split at gD
   ·rename_i z yE;split at gD
    ·rename_i hc;simp only[dZ,beq_iff_eq]at hc;have:i.size=row.sz:=by rw[<-mU];simp[aJ,Program.cellsOf,hi]
     exact⟨i,z,hi,yE,by rw[hc.2,this],this⟩
    ·cases gD
   ·cases gD
  ·cases gD
 have PN:0 < row.sz:=by rw[<-mU];omega
 have pM:=o8 row.sz ys j7
 let news:=(dB (flat ys).length).map uy
 have dC:news.length=ys.length * row.sz:=by simp[news,pM]
 have qN:0 < ys.length->∃ad,A=some ad/\∀j u,news[j]? =some u->w.cell? (ad.add j)=some u:=λlC=>by
  have h0:0 < (flat ys).length:=by rw[pM];exact Nat.mul_pos lC PN
  obtain⟨ad,rfl,_⟩:=ma 0 h0;refine⟨ad,rfl,λj u hj=> ?_⟩;simp only[news,dO,cS]at hj;obtain⟨j',hj,rfl⟩:=hj;have eu:=(bm.1 hj).1;have m_:=(bm.1 hj).2;simp at eu m_;subst m_;obtain⟨xg,e,hc,_⟩:=ma j eu;cases e;exact hc
 have P3:∀u∈news,u.oneCell'=true:=λu hu=>by
  simp only[news,iH,List.mem_range]at hu;obtain⟨j,hj,rfl⟩:=hu;obtain⟨_,_,_,_,h1⟩:=ma j hj;exact h1
 obtain⟨v',w',bg,lD,k5,wQ⟩:=NL (w:=w) c.P 0 t ty row.e i z row.sz (bytesOf c.P row.e) (k7 he) hi j_ qR (by simp[bytesOf,hi]) iV PN
  v row.xs.length vals bG A ys.length cy news dC qN P3 (by simp only[maxLen];exact kK) DU (Nat.zero_le _)
 have kX:vals.length=row.xs.length * row.sz:=bG.1;have fI:∀x,g.S x->w'.cell? x=w.cell? x:=λx hx=>by
  obtain⟨u,hu⟩:=h.bt x hx;have qF:=h.bt.lt hx;by_cases hb:v.ownBlock=some x.block
  ·
   have abI:=(y0 _ hb).2 x hx rfl;have GR:x.spot=none:=by
    cases hs:x.spot with
    |none=>rfl
    |some q=>simp[sq,hs]at hu;split at hu<;>simp_all
   rcases wQ with bT|bT
   ·have hold:=bG.cells hb;have jD:=lD.cells (bT.trans hb);have aU:x.off < vals.length:=by rw[kX];exact abI
    have ex:(⟨x.block,0,none⟩:Addr).add x.off=x:=by rw[lH];cases x;simp_all
    have o1:=hold x.off _ (cX aU);have o2:=jD x.off vals[x.off] (by rw[cZ aU];exact cX aU);rw[ex]at o1 o2;rw[o1,o2]
   ·exact nz (bT.2.block x.block qF ay)
  ·exact nz (k5.block x.block qF (λe=>hb e.symm))
 obtain⟨κ,k1,k2⟩:=h.ap
 let S':Addr->Prop:=λx=>g.S x\/∃gb q,v'.ownBlock=some gb/\x=⟨gb,q,none⟩/\q < (row.xs.length + ys.length) * row.sz
 let g':Gh:=⟨S',g.β,g.ρ.set r v',g.M⟩
 have oT:r < g.ρ.length:=by rw[h.lρ];exact(bm.1 hr).1
 have GB:g'.ρ[r]? =some v':=by simp[g',oT]
 have GC:∀(i:Nat) (b:Value),i≠r->g.ρ[i]? =some b->g'.ρ[i]? =some b:=λi b hi hb=>by
  simp only[g'];rw[gz (eJ hi)];exact hb
 have abf:∀(i:Nat) (b:Value),i≠r->g'.ρ[i]? =some b->g.ρ[i]? =some b:=λi b hi hb=>by
  simp only[g']at hb;rw[gz (eJ hi)]at hb;exact hb
 have Hz:∀x,g.S x->S' x:=λx hx=> .inl hx;have uP:(vals++news).length=(row.xs.length + ys.length) * row.sz:=lD.1;have Bz:∀gb,v'.ownBlock=some gb->v.ownBlock=some gb\/(gb=w.heap.size/\w.grownBy w' none):=λgb aW=>by
  rcases wQ with e|⟨e,hn⟩
  ·exact .inl (e▸aW)
  ·rw[e]at aW;cases aW;exact .inr ⟨rfl,hn⟩
 have PU:∀gb,v'.ownBlock=some gb->c.own gb:=λgb aW=>by
  rcases Bz gb aW with e|⟨e,_⟩
  ·exact(y0 gb e).1
  ·rw[e];exact h.cY _ h.below.size
 have kg:∀{v:Value} {d:D},Rel w g v d->Rel w' g' v (gI r d):=λb9=>YH b9 fI Hz (λ_ _ h=>h) GC (λ_ _ h=>h);have Gp:ep w g.er w' g'.er:=⟨fI,Hz,λi b h=>by simp[Gh.er]at h,λi b h=>by simp[Gh.er]at h,λ_ _ h=>h⟩;have oX:∀x,S' x->∃u,w'.cell? x=some u:=λx hx=>by
  rcases hx with hx|⟨gb,q,aW,rfl,hq⟩
  ·obtain⟨u,hu⟩:=h.bt x hx;exact⟨u,(fI x hx).trans hu⟩
  ·have:=lD.cells aW q _ (cX (by rw[uP];exact hq));rw[lH,jd]at this;exact⟨_,this⟩
 have abK:Rel w' g' v' (.list (row.xs++ys)):=by
  have bu:∀x∈row.xs++ys,x.cells.length=row.sz:=λx hx=>by
   rcases gY.1 hx with hx|hx
   ·exact gU x hx
   ·exact j7 x hx
  have gV:=o8 row.sz _ bu;have r5:=o8 row.sz row.xs gU;obtain⟨A0,c0,sz0,u0,mV,_,iK,A8⟩:=e2.qq;have abX:∃A' c',v'= .slice A' (row.xs++ys).length c'/\(row.xs++ys).length<=c'/\(0 < (flat (row.xs++ys)).length->∃gb,v'.ownBlock=some gb/\A'=some ⟨gb,0,none⟩):=by
   rcases lD.2 with⟨rfl,h0⟩|⟨gb,cap,cur,rfl,_,_,fA,_⟩
   ·refine⟨none,0,by rw[ia,h0],by rw[ia,h0];exact cx _,λhp=> ?_⟩;rw[gV,ia,h0]at hp;simp at hp
   ·exact⟨some ⟨gb,0,none⟩,cap,by rw[ia],by rw[ia];exact fA,λ_=>⟨gb,rfl,rfl⟩⟩
  obtain⟨A',c',abn,ab',lC⟩:=abX;rw[abn];refine .list _ A' _ c' _ row.sz (λq=>(vals++news).getD q bH) rfl bu ab' (λq hq=> ?_) (λq d hd=> ?_)
  ·obtain⟨gb,aW,rfl⟩:=lC ag;have ec:q < (vals++news).length:=by rw[uP,<-ia,<-gV];exact hq
   have hc:=lD.cells aW q _ (cX ec);refine⟨_,rfl,by rw[hc,rf,cX ec];rfl, .inr ⟨gb,q,aW,by rw[lH,jd],by rw[uP]at ec;exact ec⟩, ?_⟩;rw[rf];rcases fL q vals.length with aU|il
   ·rw[cZ aU];have qM:q < (flat row.xs).length:=by rw[r5,<-kX];exact aU
    obtain⟨xf,tF,ng,_,h1⟩:=iK q qM;have mi:v.ownBlock=some xf.block:=by rw[mV,tF];rfl
    have ho:=bG.cells mi q _ (cX aU);have Hw:xf=⟨xf.block,0,none⟩:=by
     rcases bG.2 with⟨hx,_⟩|⟨g2,_,_,hx,_⟩
     ·rw[mV,tF]at hx;cases hx
     ·rw[mV,tF]at hx;cases hx;rfl
    rw[<-Hw]at ho;rw[ho]at ng;rw[<-jb ng]at h1;simpa[cX aU]using h1
   ·rw[gk il];have wF:q - vals.length < news.length:=by rw[ia]at ec;omega
    simp only[cX wF,fV];exact P3 _ (List.getElem_mem _)
  ·rw[acW]at hd;have Dt:vals.length=(flat row.xs).length:=by rw[r5,kX]
   show Rel w' g'.er ((vals++news).getD q bH) d;rw[rf];rcases fL q vals.length with aU|il
   ·rw[cZ (by rw[<-Dt];exact aU)]at hd;rw[cZ aU];obtain⟨xf,tF,ng,_,_⟩:=iK q (by rw[<-Dt];exact aU);have mi:v.ownBlock=some xf.block:=by rw[mV,tF];rfl
    have ho:=bG.cells mi q _ (cX aU);have Hw:xf=⟨xf.block,0,none⟩:=by
     rcases bG.2 with⟨hx,_⟩|⟨g2,_,_,hx,_⟩
     ·rw[mV,tF]at hx;cases hx
     ·rw[mV,tF]at hx;cases hx;rfl
    rw[<-Hw]at ho;rw[ho]at ng;have:=(A8 q d hd).bb Gp;rw[<-jb ng]at this;simpa[cX aU]using this
   ·rw[gk (by rw[<-Dt];exact il),<-Dt]at hd;rw[gk il];have wF:q - vals.length < (flat ys).length:=(bm.1 hd).1;have:=(s9 _ d hd).bb Gp;simpa[news,wF]using this
 refine⟨v',w',g',bg, ?_,GB⟩;have Dz:∀(i:Nat) (x:Bx),(s.bx.map (iT r))[i]? =some x->∃x0,s.bx[i]? =some x0/\x=iT r x0:=λi x hx=>by
  simp only[dO,cS]at hx;obtain⟨x0,h0,rfl⟩:=hx;exact⟨x0,h0,rfl⟩
 have Bf:∀x:Bx,(iT r x).live=x.live:=λx=>by cases x<;>rfl
 have DV:∀(i:Nat) (x:Bx) (b:Nat),s.bx[i]? =some x->x.live=true->g.β[i]? =some b->v.ownBlock≠some b:=λi x b hi hx hb e=>by
  have q1:=k1 i x b hi hx hb;have q2:=k2 r row v b hr hl e1 e;rw[q1]at q2;cases q2
 have Hr:∀b,b < w.heap.size->v.ownBlock≠some b->w'.heap[b]? =w.heap[b]? :=λb hb bS=>k5.block b hb (λe=>bS e.symm);have QA:∀x,S' x->∀b,b < w.heap.size->v.ownBlock≠some b->x.block=b->g.S x:=λx hx b hb bS ig=>by
  rcases hx with hx|⟨gb,q,aW,rfl,_⟩
  ·exact hx
  ·simp at ig;subst ig
   rcases Bz gb aW with e|⟨e,_⟩
   ·exact absurd e bS
   ·omega
 refine⟨(h.df.bb (λk o hk ho=>(k5.block k (bJ.1 hk).1 (λe=>by
   rcases bG.2 with⟨rfl,_⟩|⟨g2,_,_,rfl,_,fy,_⟩
   ·simp[jr]at e
   ·simp[jr]at e;subst e;rw[fy]at hk;cases hk;cases ho)).trans hk) (λx hx=>fI x (h.S0 x hx))).gh rfl,h.sz,h.below.grown k5 (λq hq=> .inl (h.oG hr hl e1 hq).2),h.cY,oX,λx hx=> ?_,λx hx=> .inl (h.S0 x hx),h.fU,by simp[St.appended,g',h.lβ],
  by simp[St.appended,g',h.lρ],λn=>kg (h.sl n), ?_, ?_, ?_, ?_,λi es hi=>by
   obtain⟨x0,gp,hx⟩:=Dz i _ hi;cases x0 with
   |mp nn=>
    cases hx;obtain⟨b,hm⟩:=h.mp i es gp;refine⟨b, ?_⟩;have km:ep w g.mg w' g'.mg:=⟨fI,λ_ h=> .inl h,λ_ _ h=>h,λ_ _ h=>h,λ_ _ h=>h⟩;exact hm.Dh km (Hr b hm.lt (DV i _ b gp rfl hm.β)) hm.nm
   |mu iF=>cases hx
   |fz iF=>cases hx
   |dead=>cases hx⟩
 ·rcases hx with hx|⟨gb,q,aW,rfl,_⟩
  ·exact h.eD x hx
  ·exact .inr (PU gb aW)
 ·intro i cs hi;obtain⟨x0,gp,hx⟩:=Dz i _ hi;cases x0 with
  |mu iF=>
   cases hx;obtain⟨b,vs,tb,f1,f2,f3,f4,f5,f6⟩:=(h.bx i iF gp).ex;have aU:b < w.heap.size:=(bJ.1 f2).1;have bS:=DV i _ b gp rfl f1;refine⟨b,vs,tb,f1,(Hr b aU bS).trans f2,⟨by simpa using f3.1,λq d hd=> ?_⟩,f4,λ_ x hx ig=> ?_,λh=>by cases h⟩
   ·simp only[dO,cS]at hd;obtain⟨d0,jn,rfl⟩:=hd;exact⟨kg (f3.2 q d0 jn).1,(f3.2 q d0 jn).2⟩
   ·exact f5 rfl x (QA x hx b aU bS ig) ig
  |fz iF=>cases hx
  |mp nn=>cases hx
  |dead=>cases hx
 ·intro i cs hi;obtain⟨x0,gp,hx⟩:=Dz i _ hi;cases x0 with
  |fz iF=>
   cases hx;obtain⟨b,vs,tb,f1,f2,f3,f4,f5,f6⟩:=(h.fz i cs gp).ex;have aU:b < w.heap.size:=(bJ.1 f2).1;have bS:=DV i _ b gp rfl f1;exact⟨b,vs,tb,f1,(Hr b aU bS).trans f2,f3.bb Gp,f4,(λh=>by cases h),λ_ q hq=> .inl (f6 rfl q hq)⟩
  |mu iF=>cases hx
  |mp nn=>cases hx
  |dead=>cases hx
 ·intro r2 Ap eR;by_cases qJ:r2=r
  ·subst qJ;simp only[St.appended]at eR;rw[je (bm.1 hr).1]at eR;cases eR;refine⟨v',GB,abK,λ_=>⟨⟨vals++news,by simpa using lD⟩,λx hx=> ?_,λgb aW=>⟨?_,λx hx ig=> ?_⟩⟩⟩
   ·rcases gY.1 hx with hx|hx
    ·exact gU x hx
    ·exact j7 x hx
   ·exact PU gb aW
   ·simp only[ia];rcases hx with hx|⟨gb',q,anO,rfl,hq⟩
    ·rcases Bz gb aW with e|⟨e,_⟩
     ·have:=(y0 gb e).2 x hx ig;have:row.xs.length * row.sz<=(row.xs.length + ys.length) * row.sz:=xA _ (Nat.le_add_right _ _);omega
     ·have:=h.bt.lt hx;omega
    ·exact hq
  ·simp only[St.appended]at eR;rw[gz (eJ qJ)]at eR;obtain⟨v2,f1,f2,f3⟩:=(h.rw r2 Ap eR).ex;refine⟨v2,GC _ _ qJ f1,f2.Pe fI Hz (λ_ _ h=>h) GC (λ_ _ h=>h) rfl,λfH=> ?_⟩;obtain⟨⟨Uq,tc⟩,Hl,Qz⟩:=f3 fH;have P1:∀gb,v2.ownBlock=some gb->v.ownBlock≠some gb:=λgb aW e=>by
    have q1:=k2 r2 Ap v2 gb eR fH f1 aW;have q2:=k2 r row v gb hr hl e1 e;rw[q1]at q2;injection q2 with q2;exact qJ q2
   refine⟨⟨Uq,tc.kept k5 ?_⟩,Hl,λgb aW=>⟨(Qz gb aW).1,λx hx ig=> ?_⟩⟩
   ·cases j8:v2.ownBlock with
    |none=>exact .inl rfl
    |some gb=>exact .inr (λe=>P1 gb j8 e.symm)
   ·exact(Qz gb aW).2 x (QA x hx gb (tc.lt gb aW).2 (P1 gb aW) ig) ig
 ·refine⟨λb=>if v'.ownBlock=some b then .inr r else κ b,λi x b hi hx hb=> ?_,λr2 Ap v2 gb eR fH j8 aW=> ?_⟩
  ·obtain⟨x0,gp,rfl⟩:=Dz i _ hi;rw[Bf]at hx;have aU:=(h.om gp hx hb).1;have bS:=DV i x0 b gp hx hb;simp only;rw[if_neg (λe=>by
    rcases Bz b e with e|⟨e,_⟩
    ·exact bS e
    ·omega)]
   exact k1 i x0 b gp hx hb
  ·by_cases qJ:r2=r
   ·subst qJ;rw[GB]at j8;cases j8
    simp only;rw[if_pos aW]
   ·simp only[St.appended]at eR;rw[gz (eJ qJ)]at eR;have PI:=abf _ _ qJ j8;have q1:=k2 r2 Ap v2 gb eR fH PI aW;have aU:=(h.oG eR fH PI aW).1;simp only;rw[if_neg (λe=>by
     rcases Bz gb e with e|⟨e,_⟩
     ·have q2:=k2 r row v gb hr hl e1 e;rw[q1]at q2;injection q2 with q2;exact qJ q2
     ·omega)]
    exact q1
end
end Go.Ab
end
section
namespace Go.Ab
open Go.RowKit
def mapOf (P:Program)(t:TypeId):Option (TypeId×TypeId):=match P.underlying t with|some (.map k e)=>some (k,e)|_=>none
def zeroV (P:Program)(t:TypeId):Option D:=match P.info? t with
 |some i=>match i.zero with
  |some (.agg vs)=>if vs.all (·.oneCell')then some (.agg (vs.toList.map tJ))else none
  |some v=>some (tJ v)
  |none=>none
 |none=>none
def uI:Bool->D->Option (List Int)
 |true, .agg cs=>jk cs
 |false, .int .i64 n=>some [n]
 |_,_=>none
structure ua (P:Program)(kt:TypeId)(ka:Bool)(n:Nat):Prop where
 check:∀(e:Bool) (xs:List Int) (w:World),xs.length=n->(su e 10000 kt (dQ ka xs)).run P w= .ok () w
 find:∀(xs:List Int) (es:List MapEntry) (w:World),xs.length=n->(∀e∈es,∃ys:List Int,ys.length=n/\e.key=dQ ka ys)->
  ∃r,(xT kt (dQ ka xs) es).run P w= .ok r w/\((r=none/\∀e∈es,e.key≠dQ ka xs)\/∃i e,es[i]? =some e/\e.key=dQ ka xs/\r=some (i,e.val))
 inj:∀(xs ys:List Int),xs.length=n->ys.length=n->dQ ka xs=dQ ka ys->xs=ys
theorem Fw {P:Program}(ka:Bool)(xs:List Int)(w:World):(E5 (dQ ka xs) (dQ ka xs)).run P w= .ok (dQ ka xs) w:=by
 have:Cs 10000 (dQ ka xs) (dQ ka xs)=true:=by
  cases ka with
  |false=>simp[dQ,Cs]
  |true=>
   simp only[dQ,Cs,dZ,beq_self_eq_true,true_and];have:∀l:List Int,(((l.map (gX .i64)).zip (l.map (gX .i64))).all λ(x,y)=>Cs 9999 x y)=true:=by
    intro l;induction l with
    |nil=>rfl
    |cons x l ih=>simp only[List.map_cons,List.zip_cons_cons,List.all_cons,ih,Bool.and_true];simp[Cs]
   exact this xs
 simp[E5,this]
section
variable {c:Ctx} {s:St} {a:Act} {w:World} {g:Gh}
theorem Gm {ka:Bool}{v:Value}{d:D}{xs:List Int}(h:Rel w g v d)(hk:uI ka d=some xs):v=dQ ka xs:=by
 cases ka<;>cases d<;>simp only[uI,reduceCtorEq]at hk
 ·rename_i k n;cases k<;>simp only[fe,reduceCtorEq]at hk
  subst hk;cases h;rfl
 ·obtain⟨vs,rfl,l1,r1⟩:=h.q8;rw[yC _ vs xs hk l1 (λq d hd=>(r1 q d hd).1)];rfl
theorem OY (w:World)(g:Gh)(va:Bool)(xs:List Int):Rel w g (dQ va xs) (AL va xs):=by
 cases va with
 |false=>exact .int _ _ _
 |true=>
  refine .agg _ _ _ ay (λq hq=> ?_) (λq d hd=> ?_)
  ·have:q < xs.length:=by simpa using hq
   simp[this,Value.oneCell']
  ·simp only[dO,cS]at hd;obtain⟨x,hx,rfl⟩:=hd;have hl:=(bm.1 hx).1;have he:=(bm.1 hx).2;simp[hl,he];exact .int _ _ _
theorem NW {va:Bool}{v:Value}{xs:List Int}(h:Rel w g v (AL va xs)):v=dQ va xs:=by
 cases va with
 |false=>cases h;rfl
 |true=>
  have h':Rel w g v (.agg (xs.map (D.int .i64))):=h;obtain⟨vs,rfl,l1,r1⟩:=h'.q8;have hi:∀l:List Int,jk (l.map (D.int .i64))=some l:=by
   intro l;induction l with
   |nil=>rfl
   |cons x l ih=>simp[jk,ih]
  rw[yC _ vs xs (hi xs) l1 (λq d hd=>(r1 q d hd).1)];rfl
theorem OX (w:World)(g:Gh)(va:VK)(xs:List Int):Rel w g (rJ va xs) (uG va xs):=by
 cases va with
 |num=>exact OY w g false xs
 |arr=>exact OY w g true xs
 |yes=>exact .bool _ _
theorem XY {va:VK}{v:Value}{xs:List Int}(h:Rel w g v (uG va xs)):v=rJ va xs:=by
 cases va with
 |num=>exact NW (va:=false) h
 |arr=>exact NW (va:=true) h
 |yes=>cases h;rfl
theorem Fg {P:Program}{t:TypeId}{d:D}(h:zeroV P t=some d)(w:World)(g:Gh):∃z,(zeroValue t).run P w= .ok z w/\Rel w g z d:=by
 unfold zeroV at h;split at h
 ·rename_i i hi;split at h
  ·rename_i vs hz;split at h
   ·rename_i bu;cases h;refine⟨.agg vs,by simp[zeroValue,typeInfo,hi,hz], .agg _ _ _ ay (λq hq=> ?_) (λq d hd=> ?_)⟩
    ·have ec:q < vs.size:=by simpa using hq
     have:=Array.all_eq_true.1 bu q ec;simpa[ec]using this
    ·simp only[dO,Array.getElem?_toList,cS]at hd;obtain⟨v,hv,rfl⟩:=hd;obtain⟨hl,he⟩:=bJ.1 hv;simp[hl,he];exact CX _ _ _
   ·cases h
  ·rename_i v hz;cases h;exact⟨_,by simp[zeroValue,typeInfo,hi,hz],CX _ _ _⟩
  ·cases h
 ·cases h
theorem RG.ZK {b:Nat}{m:nE}{es:Array MapEntry}{cl:Nat}(h:RG c s a w g)(hb:g.M b=some m)(gF:∀e∈es.toList,∃xs:List Int,xs.length=m.n/\e.key=dQ m.ka xs/\e.val=rJ m.va (m.f xs))(hdm:∀k∈m.tI,∃e∈es.toList,e.key=dQ m.ka k):
  RG c s a {w with heap:=w.heap.setIfInBounds b (.map es cl)} g:=by
 have hh:∀k,k≠b->(w.heap.setIfInBounds b (.map es cl))[k]? =w.heap[k]? :=λk hk=>by
  rw[sB,if_neg (eJ hk)]
 obtain⟨nn,cl0,h1,_⟩:=h.df.cb b m hb;have aU:=(bJ.1 h1).1;have wJ:Good {w with heap:=w.heap.setIfInBounds b (.map es cl)} g.S:=λx hx=>by
  obtain⟨u,hu⟩:=h.bt x hx;obtain⟨cs,t,fz,hc⟩:=si hu;refine⟨u,(nz (w:=w) (hh x.block (λe=> ?_))).trans hu⟩;rw[e,h1]at hc;cases hc
 refine h.grow (S':=g.S) (M':=g.M) ⟨⟨rfl,rfl,rfl,by simp,λk hk hn=>hh k (λe=>by subst e;rw[hb]at hn;exact hn ay)⟩,λ_ h=>h,λ_ h=> .inl h,λ_ _ h=>h,λ_ _ h=> .inl h,λb' m' bT=> ?_⟩ wJ;by_cases e:b'=b
 ·subst e;rw[hb]at bT;cases bT
  exact⟨es,cl,by simp[aU],gF,hdm⟩
 ·obtain⟨kd,jq,gu,HF⟩:=h.df.cb b' m' bT;exact⟨kd,jq,(hh b' e).trans gu,HF⟩
theorem RG.ZM {m:nE}(h:RG c s a w g)(iK:m.tI=[]):∃M',RG c s a (w.alloc (.map #[] 0)) ⟨g.S,g.β,g.ρ,M'⟩/\M' w.heap.size=some m:=by
 have hb:=vh w (.map #[] 0);have jD:(w.alloc (.map #[] 0)).heap[w.heap.size]? =some (.map #[] 0):=zA w _;refine⟨λk=>if k=w.heap.size then some m else g.M k,h.grow ⟨.of hb,λ_ h=>h,λ_ h=> .inl h,λb f hf=> ?_,λb f hf=> ?_,λb f hf=> ?_⟩ (h.bt.below hb),by simp⟩
 ·have:b≠w.heap.size:=λe=>by
   subst e;obtain⟨_,_,h1,_⟩:=h.df.cb _ f hf;have:=(bJ.1 h1).1;omega
  simp only[this,if_false];exact hf
 ·by_cases e:b=w.heap.size
  ·exact .inr ag
  ·simp only[e,if_false]at hf;exact .inl hf
 ·by_cases e:b=w.heap.size
  ·subst e;cases(by simpa using hf:m=f);exact⟨#[],0,jD,λe he=>by simp at he,λk hk=>by rw[iK]at hk;cases hk⟩
  ·simp only[e,if_false]at hf;obtain⟨es,cl,h1,h2⟩:=h.df.cb b f hf;exact⟨es,cl,(hb.block b (bJ.1 h1).1).trans h1,h2⟩
def vK (P:Program)(t:TypeId)(x dk:D)(K:D->Prop):Prop:=match x with
 | .eN m=>bn (mapOf P t) λke=>bn (uI m.ka dk) λxs=>xs.length=m.n/\ua P ke.1 m.ka m.n/\bn (zeroV P ke.2) λz=>K (.aQ [uG m.va (m.f xs), .bool true])/\(xs∉m.tI->K (.aQ [z, .bool false]))
 |_=>False
def Fl (P:Program)(t:TypeId)(x dk:D)(K:D->Prop):Prop:=match x with
 | .eN m=>bn (mapOf P t) λke=>bn (uI m.ka dk) λxs=>xs.length=m.n/\ua P ke.1 m.ka m.n/\bn (zeroV P ke.2) λz=>K (uG m.va (m.f xs))/\(xs∉m.tI->K z)
 |_=>False
def vJ (P:Program)(t:TypeId)(x dk dv:D)(K:Prop):Prop:=match x with
 | .eN m=>bn (mapOf P t) λke=>bn (uI m.ka dk) λxs=>xs.length=m.n/\ua P ke.1 m.ka m.n/\dv=uG m.va (m.f xs)/\K
 |_=>False
theorem yy {P:Program}{t k e:TypeId}(h:mapOf P t=some (k,e)):P.underlying t=some (.map k e):=by
 unfold mapOf at h;split at h<;>simp_all
theorem Xl {o:Oper}{t:TypeId}{x y:Operand}{K:St->Prop}{Q:Exit->Act->World->Prop}(h:RG c s a w g)(ho:o.op= .lookup t x y true)(hd:bp s o.dst)
  (hk:vK c.P t (s.ev x) (s.ev y) λd=>K (s.put o.dst d)):o.wp c.P a w (λa' w'=>∃s',R c s' a' w'/\K s') Q:=by
 unfold vK at hk;split at hk
 ·rename_i m hx;obtain⟨⟨kt,e⟩,hm,hk⟩:=cE hk;obtain⟨xs,gU,hl,hK,hk⟩:=cE hk;obtain⟨z,hz,h1,h2⟩:=cE hk;have eg:=h.ev x;rw[hx]at eg;generalize hv:a.eval x=vx at eg;cases eg with
  |eN _ b _ hb=>
   obtain⟨es,cl,gF,bu,yQ⟩:=h.df.cb b m hb;have nY:=Gm (h.ev y) gU;obtain⟨r,hr,tz⟩:=hK.find xs es.toList w hl (λe he=>by obtain⟨ys,h1,h2,_⟩:=bu e he;exact⟨ys,h1,h2⟩);obtain⟨zv,fQ,yD⟩:=Fg hz w g;have hu:=yy hm;have key:∀v d,(uc t (.map (some b)) (dQ m.ka xs) true).run c.P w= .ok v w->Rel w g v d->K (s.put o.dst d)->o.wp c.P a w (λa' w'=>∃s',R c s' a' w'/\K s') Q:=λv d bg b9 hk=>by
    have hex:(execOp a.eval o).run c.P w= .ok (.value v) w:=by
     simp[execOp,ho,hv,nY,bg]
    unfold fC;rw[hex];exact⟨_,⟨g,h.put hd b9⟩,hk⟩
   have lF:=λe=>hK.check e xs w hl;rcases tz with⟨rfl,rU⟩|⟨i,e0,u9,u1,rfl⟩
   ·refine key (.tuple #[zv, .bool false]) _ ?_ (.aQ _ _ _ rfl (λq d hd=> ?_)) (h2 (λhh=>by obtain⟨e,he,hk⟩:=yQ xs hh;exact rU e he hk))
    ·simp[uc,run_underlying hu,qc gF,lF,hr,fQ]
    ·match q,hd with
     |0,hd=>cases hd;exact yD
     |1,hd=>cases hd;exact .bool _ _
   ·have yM:e0∈es.toList:=fM u9;obtain⟨ys,GI,wq,GH⟩:=bu e0 yM;have:ys=xs:=hK.inj ys xs GI hl (wq.symm.trans u1);subst this;refine key (.tuple #[e0.val, .bool true]) _ ?_ (.aQ _ _ _ rfl (λq d hd=> ?_)) h1
    ·simp[uc,run_underlying hu,qc gF,lF,hr]
    ·match q,hd with
     |0,hd=>cases hd;rw[show(#[e0.val,Value.bool true]:Array Value).getD 0 bH=e0.val from rfl,GH];exact OX _ _ _ _
     |1,hd=>cases hd;exact .bool _ _
 ·exact hk.elim
theorem Xk {o:Oper}{t:TypeId}{x y:Operand}{K:St->Prop}{Q:Exit->Act->World->Prop}(h:RG c s a w g)(ho:o.op= .lookup t x y false)(hd:bp s o.dst)
  (hk:Fl c.P t (s.ev x) (s.ev y) λd=>K (s.put o.dst d)):o.wp c.P a w (λa' w'=>∃s',R c s' a' w'/\K s') Q:=by
 unfold Fl at hk;split at hk
 ·rename_i m hx;obtain⟨⟨kt,e⟩,hm,hk⟩:=cE hk;obtain⟨xs,gU,hl,hK,hk⟩:=cE hk;obtain⟨z,hz,h1,h2⟩:=cE hk;have eg:=h.ev x;rw[hx]at eg;generalize hv:a.eval x=vx at eg;cases eg with
  |eN _ b _ hb=>
   obtain⟨es,cl,gF,bu,yQ⟩:=h.df.cb b m hb;have nY:=Gm (h.ev y) gU;obtain⟨r,hr,tz⟩:=hK.find xs es.toList w hl (λe he=>by obtain⟨ys,h1,h2,_⟩:=bu e he;exact⟨ys,h1,h2⟩);obtain⟨zv,fQ,yD⟩:=Fg hz w g;have hu:=yy hm;have key:∀v d,(uc t (.map (some b)) (dQ m.ka xs) false).run c.P w= .ok v w->Rel w g v d->K (s.put o.dst d)->o.wp c.P a w (λa' w'=>∃s',R c s' a' w'/\K s') Q:=λv d bg b9 hk=>by
    have hex:(execOp a.eval o).run c.P w= .ok (.value v) w:=by
     simp[execOp,ho,hv,nY,bg]
    unfold fC;rw[hex];exact⟨_,⟨g,h.put hd b9⟩,hk⟩
   have lF:=λe=>hK.check e xs w hl;rcases tz with⟨rfl,rU⟩|⟨i,e0,u9,u1,rfl⟩
   ·refine key zv _ ?_ yD (h2 (λhh=>by obtain⟨e,he,hk⟩:=yQ xs hh;exact rU e he hk));simp[uc,run_underlying hu,qc gF,lF,hr,fQ]
   ·have yM:e0∈es.toList:=fM u9;obtain⟨ys,GI,wq,GH⟩:=bu e0 yM;have:ys=xs:=hK.inj ys xs GI hl (wq.symm.trans u1);subst this;refine key e0.val _ ?_ (by rw[GH];exact OX _ _ _ _) h1;simp[uc,run_underlying hu,qc gF,lF,hr]
 ·exact hk.elim
theorem Xg {o:Oper}{t:TypeId}{x y z:Operand}{K:St->Prop}{Q:Exit->Act->World->Prop}(h:RG c s a w g)(ho:o.op= .mapUpdate t x y z)(hd:o.dst=none)
  (hk:vJ c.P t (s.ev x) (s.ev y) (s.ev z) (K s)):o.wp c.P a w (λa' w'=>∃s',R c s' a' w'/\K s') Q:=by
 unfold vJ at hk;split at hk
 ·rename_i m hx;obtain⟨⟨kt,e⟩,hm,hk⟩:=cE hk;obtain⟨xs,gU,hl,hK,hdv,hk⟩:=cE hk;have eg:=h.ev x;rw[hx]at eg;generalize hv:a.eval x=vx at eg;cases eg with
  |eN _ b _ hb=>
   obtain⟨es,cl,gF,bu,yQ⟩:=h.df.cb b m hb;have nY:=Gm (h.ev y) gU;have hzv:a.eval z=rJ m.va (m.f xs):=XY (hdv▸h.ev z);obtain⟨r,hr,tz⟩:=hK.find xs es.toList w hl (λe he=>by obtain⟨ys,h1,h2,_⟩:=bu e he;exact⟨ys,h1,h2⟩);have hu:=yy hm;have lF:=λe=>hK.check e xs w hl;have key:∀kd jq,(Ct t (.map (some b)) (dQ m.ka xs) (rJ m.va (m.f xs))).run c.P w= .ok () {w with heap:=w.heap.setIfInBounds b (.map kd jq)}->
     (∀e∈kd.toList,∃xs:List Int,xs.length=m.n/\e.key=dQ m.ka xs/\e.val=rJ m.va (m.f xs))->(∀k∈m.tI,∃e∈kd.toList,e.key=dQ m.ka k)->o.wp c.P a w (λa' w'=>∃s',R c s' a' w'/\K s') Q:=λkd jq bg ab1 ab9=>by
    have hex:(execOp a.eval o).run c.P w= .ok .skip {w with heap:=w.heap.setIfInBounds b (.map kd jq)}:=by
     simp[execOp,ho,hv,nY,hzv,bg]
    unfold fC;rw[hex];refine⟨s,⟨g, ?_⟩,hk⟩;have:=h.ZK (cl:=jq) hb ab1 ab9;rw[hd];exact this
   rcases tz with⟨rfl,rU⟩|⟨i,e0,u9,u1,rfl⟩
   ·refine key (es.push {key:=dQ m.ka xs,val:=rJ m.va (m.f xs),born:=cl}) (cl + 1) ?_ (λe he=> ?_) (λk hk=>by obtain⟨e,he,hk⟩:=yQ k hk;exact⟨e,by simp only[Ts,gY];exact .inl he,hk⟩)
    ·simp[Ct,run_underlying hu,qc gF,lF,hr,IW _ gF]
    ·simp only[Ts,gY,List.mem_singleton]at he;rcases he with he|rfl
     ·exact bu e he
     ·exact⟨xs,hl,rfl,rfl⟩
   ·have hi:es[i]? =some e0:=by simpa using u9
    have bD:=Fw (P:=c.P) m.ka xs w;refine key (es.modify i λe=>{e with key:=dQ m.ka xs,val:=rJ m.va (m.f xs)}) cl ?_ (λe he=> ?_) (λk hk=>by
     obtain⟨e,he,hk⟩:=yQ k hk;obtain⟨q,hq,rfl⟩:=xH he;have ec:q < es.size:=by simpa using hq
     refine⟨(es.modify i λe=>{e with key:=dQ m.ka xs,val:=rJ m.va (m.f xs)})[q]'(by simpa using ec),Fb.2 (Array.getElem_mem _), ?_⟩
     simp only[ag9];split
     ·rename_i e;subst e
      have:es.toList[i]=e0:=by have:=(bm.1 u9).2;exact this
      rw[<-hk,this,u1]
     ·simpa using hk)
    ·simp[Ct,run_underlying hu,qc gF,lF,hr,hi,u1,bD,IW _ gF]
    ·obtain⟨q,hq,rfl⟩:=xH he;have ec:q < es.size:=by simpa using hq
     simp only[Array.getElem_toList,ag9];split
     ·exact⟨xs,hl,rfl,rfl⟩
     ·exact bu _ ay
 ·exact hk.elim
theorem Xj {o:Oper}{t:TypeId}{K:St->Prop}{Q:Exit->Act->World->Prop}(h:RG c s a w g)(ho:o.op= .makeMap t none)(hd:bp s o.dst)
  (hk:∃m:nE,m.tI=[]/\K (s.put o.dst (.eN m))):o.wp c.P a w (λa' w'=>∃s',R c s' a' w'/\K s') Q:=by
 obtain⟨m,iK,hk⟩:=hk;obtain⟨M',h',hM⟩:=h.ZM (m:=m) iK;have hex:(execOp a.eval o).run c.P w= .ok (.value (.map (some w.heap.size))) (w.alloc (.map #[] 0)):=by
  simp[execOp,ho,Instr.makeMap]
 unfold fC;rw[hex];exact⟨_,⟨_,h'.put hd (.eN _ _ _ hM)⟩,hk⟩
end
end Go.Ab
end
section
namespace Go.Ab
open Go.RowKit
mutual
def dA (nb nr:Nat):D->Bool
 | .agg cs=>db nb nr cs
 | .aQ cs=>db nb nr cs
 | .aD _ cs=>db nb nr cs
 | .dq _ cs=>db nb nr cs
 | .box i _=>decide (i < nb)
 | .own r=>decide (r < nr)
 | .a_ i _ _ _=>decide (i < nb)
 | .bz i=>decide (i < nb)
 |_=>true
def db (nb nr:Nat):List D->Bool
 |[]=>true
 |d::ds=>dA nb nr d&&db nb nr ds
end
mutual
theorem sZ {nb nr:Nat}:∀(d:D),dA nb nr d=true->Names nb nr d
 | .undef,_=> .undef
 | .int _ _,_=> .int _ _
 | .bool _,_=> .bool _
 | .str _,_=> .str _
 | .list _,_=> .list _
 | .agg cs,h=> .agg _ (yx cs (by simpa[dA]using h))
 | .aQ cs,h=> .aQ _ (yx cs (by simpa[dA]using h))
 | .box _ _,h=> .box _ _ (by simpa[dA]using h)
 | .ro _,_=> .ro _
 | .own _,h=> .own _ (by simpa[dA]using h)
 | .aD _ cs,h=> .aD _ _ (yx cs (by simpa[dA]using h))
 | .val _,_=> .val _
 | .eN _,_=> .eN _
 | .skp,_=> .skp
 | .any,_=> .any
 | .bz _,h=> .bz _ (by simpa[dA]using h)
 | .dq _ cs,h=> .dq _ _ (yx cs (by simpa[dA]using h))
 | .a_ _ _ _ _,h=> .a_ _ _ _ _ (by simpa[dA]using h)
theorem yx {nb nr:Nat}:∀(ds:List D),db nb nr ds=true->∀d∈ds,Names nb nr d
 |[],_=>λd hd=>by cases hd
 |x::ds,h=>by
  have h':dA nb nr x=true/\db nb nr ds=true:=by simpa[db]using h
  exact List.forall_mem_cons.2 ⟨sZ x h'.1,yx ds h'.2⟩
end
inductive ri where|num|str|arr (n:Nat)
 deriving DecidableEq
def ri.is:ri->Value->Prop
 | .num,v=>∃n:Int,v= .int .i64 n
 | .str,v=>∃s:ByteArray,v= .string s
 | .arr n,v=>∃xs:List Int,xs.length=n/\v=dQ true xs
def kV:D->Option ri
 | .int .i64 _=>some .num
 | .str _=>some .str
 | .agg cs=>(jk cs).map λxs=> .arr xs.length
 |_=>none
def gC:D->Value
 | .int .i64 n=> .int .i64 n
 | .str s=> .string s
 | .agg cs=>dQ true ((jk cs).getD [])
 |_=>bH
def uL:List D->List D->Bool
 |[],[]=>true
 | .int .i64 a::as, .int .i64 b::bs=>decide (a=b)&&uL as bs
 |_,_=>false
def kx:D->D->Bool
 | .int .i64 a, .int .i64 b=>decide (a=b)
 | .str a, .str b=>a.toList == b.toList
 | .agg a, .agg b=>uL a b
 |_,_=>false
def lU (k:D):List (D×D)->Option D
 |[]=>none
 |p::es=>bif kx p.1 k then some p.2 else lU k es
def nS (k v:D):List (D×D)->List (D×D)
 |[]=>[(k,v)]
 |p::es=>bif kx p.1 k then(k,v)::es else p::nS k v es
structure xN (P:Program)(kt:TypeId)(sh:ri):Prop where
 check:∀(e:Bool) (v:Value) (w:World),sh.is v->(su e 10000 kt v).run P w= .ok () w
 find:∀(v:Value) (es:List MapEntry) (w:World),sh.is v->(∀e∈es,sh.is e.key)->
  ∃r,(xT kt v es).run P w= .ok r w/\((r=none/\∀e∈es,e.key≠v)\/∃i e,es[i]? =some e/\e.key=v/\r=some (i,e.val))
theorem aan {P:Program}{kt:TypeId}{n:Nat}(h:ua P kt true n):xN P kt (.arr n) where
 check e v w hv:=by obtain⟨xs,hl,rfl⟩:=hv;exact h.check e xs w hl
 find v es w hv he:=by
  obtain⟨xs,hl,rfl⟩:=hv;exact h.find xs es w hl (λe hm=>he e hm)
theorem Ig (s t:ByteArray):(s == t)=decide (s=t):=by
 obtain⟨a⟩:=s;obtain⟨b⟩:=t;have h:((⟨a⟩:ByteArray) == ⟨b⟩)=(a == b):=rfl;rw[h];by_cases e:a=b
 ·subst e;simp
 ·have:¬(ByteArray.mk a=ByteArray.mk b):=λh=>e (by injection h);simp[e,this]
theorem af7 {a b:ByteArray}:a.toList=b.toList↔a=b:=by
 constructor
 ·intro h;rw[ByteArray.toList_eq,ByteArray.toList_eq]at h;obtain⟨a⟩:=a;obtain⟨b⟩:=b;simp only at h;rw[Array.toList_inj.1 h]
 ·rintro rfl;rfl
theorem QW (s:ByteArray):∀(es:List MapEntry) (i0:Nat),(∀e∈es,ri.str.is e.key)->
  ∃r,vB .string (.string s) es i0=some r/\((r=none/\∀e∈es,e.key≠ .string s)\/∃i e,es[i]? =some e/\e.key= .string s/\r=some (i0 + i,e.val))
 |[],i0,_=>⟨none,rfl, .inl ⟨rfl,λe he=>by cases he⟩⟩
 |e::es,i0,h=>by
  obtain⟨t,ht⟩:=h e (ey ..);by_cases hs:s=t
  ·subst hs;exact⟨some (i0,e.val),by simp[vB,E4,ht,Ig], .inr ⟨0,e,rfl,ht,rfl⟩⟩
  ·obtain⟨r,h1,h2⟩:=QW s es (i0 + 1) (λe he=>h e (fE _ he));refine⟨r,by simp[vB,E4,ht,hs,h1,Ig], ?_⟩;rcases h2 with⟨h2,h3⟩|⟨i,e',h3,h4,h5⟩
   ·exact .inl ⟨h2,λe' iq=>by
     rcases eX.1 iq with rfl|iq
     ·rw[ht];intro hh;injection hh with hh;exact hs hh.symm
     ·exact h3 e' iq⟩
   ·exact .inr ⟨i + 1,e',by simpa using h3,h4,by rw[h5];congr 2;omega⟩
theorem aal {P:Program}{kt:TypeId}(h:P.underlying kt=some .string):xN P kt .str where
 check e v w hv:=by
  obtain⟨s,rfl⟩:=hv
  suffices hh:∀d,(su e (d + 1) kt (.string s)).run P w= .ok () w from hh 9999
  intro d;rw[su];simp[run_underlying h]
 find v es w hv he:=by
  obtain⟨s,rfl⟩:=hv;obtain⟨r,h1,h2⟩:=QW s es 0 he;refine⟨r,by simp[xT,run_underlying h,h1], ?_⟩;rcases h2 with h2|⟨i,e,h3,h4,h5⟩
  ·exact .inl h2
  ·exact .inr ⟨i,e,h3,h4,by simpa using h5⟩
theorem aam {P:Program}{sh:ri}{v:Value}(w:World)(h:sh.is v):(E5 v v).run P w= .ok v w:=by
 cases sh with
 |num=>obtain⟨n,rfl⟩:=h;exact Fw false [n] w
 |str=>obtain⟨s,rfl⟩:=h;simp[E5,Cs,Ig]
 |arr n=>obtain⟨xs,_,rfl⟩:=h;exact Fw true xs w
theorem AY {d:D}{cs:List D}{xs:List Int}(h:jk (d::cs)=some xs):∃n ys,d= .int .i64 n/\jk cs=some ys/\xs=n::ys:=by
 unfold jk at h;split at h
 ·rename_i e;cases e
 ·rename_i n dp e;injection e with e1 e2;subst e1;subst e2
  obtain⟨ys,h1,h2⟩:=cS.1 h;exact⟨n,ys,rfl,h1,h2.symm⟩
 ·cases h
theorem Ph:∀{as bs:List D} {xs ys:List Int},jk as=some xs->jk bs=some ys->(uL as bs=true↔xs=ys)
 |[],[],xs,ys,h1,h2=>by simp only[jk,fe]at h1 h2;subst h1;subst h2;simp[uL]
 |[],b::bs,xs,ys,h1,h2=>by
  obtain⟨n,zs,rfl,h3,rfl⟩:=AY h2;simp only[jk,fe]at h1;subst h1;simp[uL]
 |a::as,[],xs,ys,h1,h2=>by
  obtain⟨n,zs,rfl,h3,rfl⟩:=AY h1;simp only[jk,fe]at h2;subst h2;simp[uL]
 |a::as,b::bs,xs,ys,h1,h2=>by
  obtain⟨n,zs,rfl,h3,rfl⟩:=AY h1;obtain⟨m,zs',rfl,h4,rfl⟩:=AY h2;simp[uL,Ph h3 h4]
theorem ZH {xs ys:List Int}(h:dQ true xs=dQ true ys):xs=ys:=by
 have h':(xs.map (gX .i64)).toArray=(ys.map (gX .i64)).toArray:=by simpa[dQ]using h
 have:=congrArg Array.toList h';simp only at this;exact(List.map_inj_right (λa b h=>by cases h;rfl)).1 this
theorem AR {d:D}{sh:ri}(h:kV d=some sh):(∃n,d= .int .i64 n/\sh= .num)\/(∃s,d= .str s/\sh= .str)\/∃cs xs,d= .agg cs/\jk cs=some xs/\sh= .arr xs.length:=by
 unfold kV at h;split at h
 ·cases h;exact .inl ⟨_,rfl,rfl⟩
 ·cases h;exact .inr (.inl ⟨_,rfl,rfl⟩)
 ·rename_i cs;obtain⟨xs,h1,h2⟩:=cS.1 h;exact .inr (.inr ⟨cs,xs,rfl,h1,h2.symm⟩)
 ·cases h
theorem AQ {d:D}{sh:ri}(h:kV d=some sh):sh.is (gC d):=by
 rcases AR h with⟨n,rfl,rfl⟩|⟨s,rfl,rfl⟩|⟨cs,xs,rfl,h1,rfl⟩
 ·exact⟨n,rfl⟩
 ·exact⟨s,rfl⟩
 ·exact⟨xs,rfl,by simp[gC,h1]⟩
theorem AW {a b:D}{sh:ri}(ha:kV a=some sh)(hb:kV b=some sh):kx a b=true↔gC a=gC b:=by
 rcases AR ha with⟨n,rfl,rfl⟩|⟨s,rfl,rfl⟩|⟨cs,xs,rfl,h1,rfl⟩<;>rcases AR hb with⟨m,rfl,e⟩|⟨t,rfl,e⟩|⟨ds,ys,rfl,h2,e⟩<;>first|(cases e;done)|skip
 ·simp[kx,gC]
 ·simp[kx,gC,af7]
 ·simp only[kx,Ph h1 h2,gC,h1,h2,fV];exact⟨λe=>by rw[e],ZH⟩
section
variable {c:Ctx} {s:St} {a:Act} {w:World} {g:Gh}
theorem AP (w:World)(g:Gh):ep w g.mg w g:=⟨λ_ _=>rfl,λ_ h=>h,λ_ _ h=>h,λi b h=>by simp[Gh.mg]at h,λ_ _ h=>h⟩
theorem Di {v:Value}{d:D}{sh:ri}(h:Rel w g v d)(hk:kV d=some sh):v=gC d:=by
 rcases AR hk with⟨n,rfl,rfl⟩|⟨s,rfl,rfl⟩|⟨cs,xs,rfl,h1,rfl⟩
 ·cases h;rfl
 ·cases h;rfl
 ·obtain⟨vs,rfl,l1,r1⟩:=h.q8;rw[yC _ vs xs h1 l1 (λq d hd=>(r1 q d hd).1)];simp[gC,h1,dQ]
theorem Rel.ON {v:Value}{d:D}(h:Rel w g v d)(hn:dA g.β.length 0 d=true):Rel w g.mg v d:=by
 have:=h.cut (nb:=g.β.length) (nr:=0) (sZ d hn);rw[List.take_length,List.take_zero]at this;exact this
theorem Ext.Dh {w':World}{b:Nat}(h:Ext c a w g){ms:Array MapEntry}{cl:Nat}(hb:w.heap[b]? =some (.map ms cl))(hn:g.M b=none)(hk:∀(k:Nat),k≠b->w'.heap[k]? =w.heap[k]?)(hs:∀x,c.S0 x->w'.cell? x=w.cell? x):Ext c a w' g where
 cW:=⟨h.cW.1,λd hd=>by
  obtain⟨D,hB,e,hD⟩:=h.cW.2 d hd;exact⟨D,hB,e,(hk D (λe=>by subst e;rw[hb]at hD;cases hD)).trans hD⟩⟩
 cb b' f hf:=by
  obtain⟨es,cl,h1,h2⟩:=h.cb b' f hf;exact⟨es,cl,(hk b' (λe=>by subst e;rw[hn]at hf;cases hf)).trans h1,h2⟩
 m0:=h.m0
 fX:=h.fX
 eV:=h.eV
 iA x hx:=(hs x hx).trans (h.iA x hx)
 fj:=h.fj
theorem RG.ZS {i b:Nat}{es kd:List (D×D)}{ms jB:Array MapEntry}{cl jq:Nat}(h:RG c s a w g)(hi:s.bx[i]? =some (.mp es))(hm:mF c w g i b es)(h1:w.heap[b]? =some (.map ms cl))
  (hl:jB.size=kd.length)(hr:∀(q:Nat) (p:D×D) (m:MapEntry),kd[q]? =some p->jB[q]? =some m->Rel w g.mg m.key p.1/\Rel w g.mg m.val p.2)
  (hd:(∀(p q:Nat) (m m':MapEntry),jB[p]? =some m->jB[q]? =some m'->m.key=m'.key->p=q)/\∀m∈jB.toList,m.born < jq):
  RG c {s with bx:=s.bx.set i (.mp kd)} a {w with heap:=w.heap.setIfInBounds b (.map jB jq)} g:=by
 have e1:=hm.β;have n4:=hm.lt;generalize hw:({w with heap:=w.heap.setIfInBounds b (.map jB jq)}:World)=w';have hh:∀k,k≠b->w'.heap[k]? =w.heap[k]? :=λk hk=>by
  rw[<-hw];show(w.heap.setIfInBounds b (.map jB jq))[k]? =_;rw[sB,if_neg (eJ hk)]
 have kB:w'.heap[b]? =some (.map jB jq):=by
  rw[<-hw];show(w.heap.setIfInBounds b (.map jB jq))[b]? =_;simp[n4]
 have k5:w.grownBy w' (some b):=⟨by rw[<-hw],by rw[<-hw],by rw[<-hw],by rw[<-hw];simp,λk _ hk=>hh k (λe=>hk (by rw[e]))⟩;have bS:∀x,g.S x->x.block≠b:=λx hx e=>by
  obtain⟨u,hu⟩:=h.bt x hx;obtain⟨cs,t,fz,hc⟩:=si hu;rw[e,h1]at hc;cases hc
 have fI:∀x:Addr,x.block≠b->w'.cell? x=w.cell? x:=λx ig=>nz (hh x.block ig);have k:ep w g w' g:=⟨λx hx=>fI x (bS x hx),λ_ h=>h,λ_ _ h=>h,λ_ _ h=>h,λ_ _ h=>h⟩;have en:i < s.bx.length:=(bm.1 hi).1;obtain⟨κ,k1,k2⟩:=h.ap;have hκ:κ b= .inl i:=k1 i _ b hi rfl e1;have hold:∀(j:Nat) (x:Bx),(s.bx.set i (.mp kd))[j]? =some x->(j=i/\x= .mp kd)\/(j≠i/\s.bx[j]? =some x):=λj x hj=>by
  by_cases bd:j=i
  ·subst bd;rw[je en]at hj;exact .inl ⟨rfl,(jb hj).symm⟩
  ·rw[gz (eJ bd)]at hj;exact .inr ⟨bd,hj⟩
 have wA:∀(j:Nat) (x:Bx) (b':Nat),j≠i->s.bx[j]? =some x->x.live=true->g.β[j]? =some b'->b'≠b:=λj x b' bd hj hl bT e=>by
  subst e;have:=k1 j x _ hj hl bT;rw[hκ]at this;injection this with this;exact bd this.symm
 refine⟨h.df.Dh h1 hm.nm hh (λx hx=>k.cell x (h.S0 x hx)),h.sz, ?_,h.cY,λx hx=> ?_,h.eD,h.S0,h.fU,by simp[h.lβ],h.lρ,λn=>(h.sl n).bb k, ?_, ?_, ?_, ?_,λj es2 hj=> ?_⟩
 ·exact h.below.grown k5 (λq hq=>by cases hq;exact .inl hm.own)
 ·obtain⟨u,hu⟩:=h.bt x hx;exact⟨u,(k.cell x hx).trans hu⟩
 ·intro j cu hj;rcases hold j _ hj with⟨rfl,e⟩|⟨bd,hj⟩
  ·cases e
  ·obtain⟨b',iJ,t',f1,f2,f3,f4,f5,f6⟩:=(h.bx j cu hj).ex;exact⟨b',iJ,t',f1,(hh b' (wA j _ b' bd hj rfl f1)).trans f2,f3.bb k,f4,f5,f6⟩
 ·intro j cu hj;rcases hold j _ hj with⟨rfl,e⟩|⟨bd,hj⟩
  ·cases e
  ·obtain⟨b',iJ,t',f1,f2,f3,f4,f5,f6⟩:=(h.fz j cu hj).ex;exact⟨b',iJ,t',f1,(hh b' (wA j _ b' bd hj rfl f1)).trans f2,f3.bb k.er,f4,f5,f6⟩
 ·intro r row hr;obtain⟨v,f1,f2,f3⟩:=(h.rw r row hr).ex;refine⟨v,f1,f2.bb k,λhl=> ?_⟩;obtain⟨⟨vals,bG⟩,bE,hS⟩:=f3 hl;refine⟨⟨vals,bG.kept k5 ?_⟩,bE,hS⟩;right;intro e;have:=k2 r row v b hr hl f1 e;rw[hκ]at this;cases this
 ·refine⟨κ,λj x b' hj hx bT=> ?_,k2⟩;rcases hold j _ hj with⟨rfl,e⟩|⟨bd,hj⟩
  ·rw[e1]at bT;cases bT;exact hκ
  ·exact k1 j x b' hj hx bT
 ·rcases hold j _ hj with⟨rfl,e⟩|⟨bd,hj⟩
  ·cases e;refine⟨b,e1,⟨jB,jq,kB,hl,λq p m hp hq=>⟨(hr q p m hp hq).1.bb k.mg,(hr q p m hp hq).2.bb k.mg⟩⟩,hm.nm,hm.own,λms2 cl2 h2=> ?_⟩;rw[kB]at h2;cases h2
   exact hd
  ·obtain⟨b2,ga⟩:=h.mp j es2 hj;exact⟨b2,ga.bb k (hh b2 (wA j _ b2 bd hj rfl ga.β)) ga.nm⟩
theorem RG.allocMap (h:RG c s a w g):RG c {s with bx:=s.bx++[.mp []]} a (w.alloc (.map #[] 0)) ⟨g.S,g.β++[w.heap.size],g.ρ,g.M⟩:=by
 have hb:=vh w (.map #[] 0);have hw:=h.world hb (λ_ h=>h) (λ_ h=> .inl h) (h.bt.below hb);have k:ep (w.alloc (.map #[] 0)) ⟨g.S,g.β,g.ρ,g.M⟩ (w.alloc (.map #[] 0)) ⟨g.S,g.β++[w.heap.size],g.ρ,g.M⟩:=
  ⟨λ_ _=>rfl,λ_ h=>h,λi b hi=>by rw[cZ (bm.1 hi).1];exact hi,λ_ _ h=>h,λ_ _ h=>h⟩
 have jD:(w.alloc (.map #[] 0)).heap[w.heap.size]? =some (.map #[] 0):=zA w _;have hold:∀(i:Nat) (x:Bx),(s.bx++[Bx.mp []])[i]? =some x->s.bx[i]? =some x/\i < s.bx.length\/x= .mp []/\i=s.bx.length:=λi x hi=>by
  rcases fL i s.bx.length with aU|il
  ·rw[cZ aU]at hi;exact .inl ⟨hi,aU⟩
  ·rw[gk il]at hi;have:i - s.bx.length=0:=by have:=(bm.1 hi).1;simp at this;omega
   rw[this]at hi;simp at hi;exact .inr ⟨hi.symm,ag⟩
 have hβ:∀i,i < s.bx.length->∀b,(g.β++[w.heap.size])[i]? =some b->g.β[i]? =some b:=λi hi b hb=>by
  rw[cZ (by rw[h.lβ];exact hi)]at hb;exact hb
 have A1:(g.β++[w.heap.size])[s.bx.length]? =some w.heap.size:=by rw[<-h.lβ];simp
 have hM:g.M w.heap.size=none:=by
  cases hm:g.M w.heap.size with
  |none=>rfl
  |some f=>
   obtain⟨es,cl,h1,_⟩:=h.df.cb _ f hm;have:=(bJ.1 h1).1;omega
 refine⟨hw.df.gh rfl (λi b _ hi=>by show(g.β++[w.heap.size])[i]? =some b;rw[cZ (bm.1 hi).1];exact hi),hw.sz,hw.below,hw.cY,hw.bt,hw.eD,hw.S0,hw.fU,by simp[h.lβ],hw.lρ,λn=>(hw.sl n).bb k, ?_, ?_, ?_, ?_,λi es hi=> ?_⟩
 ·intro i ds hi;rcases hold i _ hi with⟨hi,hl⟩|⟨e,rfl⟩
  ·obtain⟨b,iJ,t',e1,e2,e3,e4,e5,e6⟩:=(hw.bx i ds hi).ex;exact⟨b,iJ,t',k.β _ _ e1,e2,e3.bb k,e4,e5,e6⟩
  ·cases e
 ·intro i ds hi;rcases hold i _ hi with⟨hi,hl⟩|⟨e,rfl⟩
  ·obtain⟨b,iJ,t',e1,e2,e3,e4,e5,e6⟩:=(hw.fz i ds hi).ex;exact⟨b,iJ,t',k.β _ _ e1,e2,e3,e4,e5,e6⟩
  ·cases e
 ·intro r row hr;obtain⟨v,e1,e2,e3⟩:=(hw.rw r row hr).ex;exact⟨v,e1,e2.bb k,e3⟩
 ·obtain⟨κ,k1,k2⟩:=h.ap;refine⟨λb=>if b=w.heap.size then .inl s.bx.length else κ b,λi x b hi hx hb=> ?_,λr row v gb hr hl hv aW=> ?_⟩
  ·rcases hold i _ hi with⟨hi,hl⟩|⟨rfl,rfl⟩
   ·have bT:=hβ i hl b hb;have:=(h.om hi hx bT).1;simp only;rw[if_neg ag];exact k1 i x b hi hx bT
   ·rw[A1]at hb;cases hb
    simp
  ·have:=(h.oG hr hl hv aW).1;simp only;rw[if_neg ag];exact k2 r row v gb hr hl hv aW
 ·rcases hold i _ hi with⟨hi,hl⟩|⟨e,rfl⟩
  ·obtain⟨b,hm⟩:=hw.mp i es hi;exact⟨b,hm.bb k rfl hm.nm⟩
  ·cases e;exact⟨w.heap.size,A1,⟨#[],0,jD,rfl,λq p m hp=>by simp at hp⟩,hM,h.cY _ h.below.size,λms cl hh=>by
    rw[jD]at hh;cases hh
    exact⟨λp q m m' hp=>by simp at hp,λm hm=>by simp at hm⟩⟩
def Gb (ok:Bool)(r:Option D)(z:D):D:=match ok,r with
 |true,some d=> .aQ [d, .bool true]
 |true,none=> .aQ [z, .bool false]
 |false,some d=>d
 |false,none=>z
def oE (bx:List Bx)(i:Nat)(k:List (D×D)->Prop):Prop:=match bx[i]? with|some (.mp es)=>k es|_=>False
theorem MX {bx:List Bx}{i:Nat}{k:List (D×D)->Prop}(h:oE bx i k):∃es,bx[i]? =some (.mp es)/\k es:=by
 unfold oE at h;split at h
 ·exact⟨_,by assumption,h⟩
 ·exact h.elim
def yc (P:Program)(t:TypeId)(es:List (D×D))(dk:D)(k:TypeId->Prop):Prop:=bn (mapOf P t) λke=>bn (kV dk) λsh=>xN P ke.1 sh/\(es.all λp=>decide (kV p.1=some sh))=true/\k ke.2
def sG (P:Program)(bx:List Bx)(t:TypeId)(x dk:D)(ok:Bool)(k:D->Prop):Prop:=match x with
 | .bz i=>oE bx i λes=>yc P t es dk λe=>bn (zeroV P e) λz=>k (Gb ok (lU dk es) z)
 |_=>False
def rm (P:Program)(bx:List Bx)(t:TypeId)(x dk dv:D)(k:List Bx×D->Prop):Prop:=match x with
 | .bz i=>oE bx i λes=>yc P t es dk λ_=>dA bx.length 0 dv=true/\k (bx.set i (.mp (nS dk dv es)), .undef)
 |_=>False
theorem QN {P:Program}{kt:TypeId}{sh:ri}{i b:Nat}{es:List (D×D)}{dk:D}(hm:mF c w g i b es){ms:Array MapEntry}{cl:Nat}(h1:w.heap[b]? =some (.map ms cl))(hK:xN P kt sh)(hk:kV dk=some sh)(he:(es.all λp=>decide (kV p.1=some sh))=true):
  (∀e∈ms.toList,sh.is e.key)/\((lU dk es=none/\(xT kt (gC dk) ms.toList).run P w= .ok none w/\∀e∈ms.toList,e.key≠gC dk)\/
   ∃q p m,es[q]? =some p/\ms[q]? =some m/\kx p.1 dk=true/\m.key=gC dk/\lU dk es=some p.2/\(xT kt (gC dk) ms.toList).run P w= .ok (some (q,m.val)) w):=by
 obtain⟨jB,jq,gu,h2,h3⟩:=hm.ex;rw[h1]at gu;cases gu
 have mW:∀(q:Nat) (p:D×D),es[q]? =some p->kV p.1=some sh:=λq p hp=>by
  have:=ic.1 he p (fM hp);simpa using this
 have DJ:∀(q:Nat) (p:D×D) (m:MapEntry),es[q]? =some p->ms[q]? =some m->m.key=gC p.1:=λq p m hp hq=>Di (h3 q p m hp hq).1 (mW q p hp);have bu:∀e∈ms.toList,sh.is e.key:=λe hm=>by
  obtain⟨q,hq⟩:=po.1 hm;have ec:ms[q]? =some e:=by simpa using hq
  have jm:q < es.length:=by rw[<-h2];exact(bJ.1 ec).1
  rw[DJ q es[q] e (cX jm) ec];exact AQ (mW q _ (cX jm))
 refine⟨bu, ?_⟩;have tv:∀(l:List (D×D)),(∀p∈l,kV p.1=some sh)->(∀p∈l,gC p.1≠gC dk)->lU dk l=none:=λl=>by
  induction l with
  |nil=>intros;rfl
  |cons p l ih=>
   intro ha hn;have:kx p.1 dk=false:=by
    cases hx:kx p.1 dk with
    |false=>rfl
    |true=>exact absurd ((AW (ha p (ey ..)) hk).1 hx) (hn p (ey ..))
   simp only[lU,this,cond_false];exact ih (λp hp=>ha p (fE _ hp)) (λp hp=>hn p (fE _ hp))
 have hfs:∀(l:List (D×D)) (q:Nat) (p:D×D),(∀p∈l,kV p.1=some sh)->l[q]? =some p->gC p.1=gC dk->(∀(r:Nat) (p':D×D),r < q->l[r]? =some p'->gC p'.1≠gC dk)->lU dk l=some p.2:=λl=>by
  induction l with
  |nil=>intro q p _ hp;simp at hp
  |cons p0 l ih=>
   intro q p ha hp hv hn;cases q with
   |zero=>
    simp at hp;subst hp
    have:kx p0.1 dk=true:=(AW (ha p0 (ey ..)) hk).2 hv;simp only[lU,this,cond_true]
   |succ q=>
    have:kx p0.1 dk=false:=by
     cases hx:kx p0.1 dk with
     |false=>rfl
     |true=>exact absurd ((AW (ha p0 (ey ..)) hk).1 hx) (hn 0 p0 ag rfl)
    simp only[lU,this,cond_false];exact ih q p (λp hp=>ha p (fE _ hp)) (by simpa using hp) hv (λr p' hr jP=>hn (r + 1) p' ag (by simpa using jP))
 obtain⟨r,hr,tz⟩:=hK.find (gC dk) ms.toList w (AQ hk) bu;have P6:∀p∈es,kV p.1=some sh:=λp hp=>by
  obtain⟨q,hq⟩:=po.1 hp;exact mW q p hq
 have DR:∀(q:Nat) (p:D×D),es[q]? =some p->∃m,ms[q]? =some m:=λq p hp=>by
  have:q < ms.size:=by rw[h2];exact(bm.1 hp).1
  exact⟨_,Fe this⟩
 rcases tz with⟨rfl,rU⟩|⟨q,m,hq,uY,rfl⟩
 ·refine .inl ⟨tv es P6 (λp hp e=> ?_),hr,rU⟩;obtain⟨q,hq⟩:=po.1 hp;obtain⟨m,ga⟩:=DR q p hq;exact rU m (fM (by simpa using ga)) ((DJ q p m hq ga).trans e)
 ·have ec:ms[q]? =some m:=by simpa using hq
  have jm:q < es.length:=by rw[<-h2];exact(bJ.1 ec).1
  have hp:es[q]? =some es[q]:=cX jm;have DH:gC es[q].1=gC dk:=(DJ q _ m hp ec).symm.trans uY;refine .inr ⟨q,es[q],m,hp,ec,(AW (mW q _ hp) hk).2 DH,uY,hfs es q _ P6 hp DH (λr p' hr jP e=> ?_),hr⟩;obtain⟨m',kD⟩:=DR r p' jP;have:=(hm.i_ ms cl h1).1 r q m' m kD ec ((DJ r p' m' jP kD).trans (e.trans uY.symm));omega
theorem TD {o:Oper}{t:TypeId}{x y:Operand}{ok:Bool}{dx dy:D}{k:D->Prop}(h:RG c s a w g)(ho:o.op= .lookup t x y ok)(hx:Rel w g (a.eval x) dx)(hy:Rel w g (a.eval y) dy)(hk:sG c.P s.bx t dx dy ok k):Yields c.P o a w g k:=by
 unfold sG at hk;split at hk
 case h_2=>exact hk.elim
 rename_i i;obtain⟨es,gF,hk⟩:=MX hk;obtain⟨⟨kt,e⟩,kY,hk⟩:=cE hk;obtain⟨sh,mW,hK,bu,hk⟩:=cE hk;obtain⟨z,hz,hk⟩:=cE hk;obtain⟨b,hm⟩:=h.mp i es gF;obtain⟨ms,cl,h1,h2,h3⟩:=hm.ex;generalize hv:a.eval x=vx at hx;cases hx with
 |bz _ _ b' bT=>
 have e1:=hm.β;rw[bT]at e1;cases e1
 have nY:=Di hy mW;obtain⟨zv,fQ,yD⟩:=Fg hz w g;have hu:=yy kY;obtain⟨_,hc⟩:=QN hm h1 hK mW bu;have lF:=λe=>hK.check e (gC dy) w (AQ mW);rcases hc with⟨e2,hr,_⟩|⟨q,p,m,hp,hq,_,uY,e2,hr⟩
 ·rw[e2]at hk;cases ok with
  |true=>
   refine⟨.tuple #[zv, .bool false],_, ?_, .aQ _ _ _ rfl (λq d hd=> ?_),hk⟩
   ·simp[execOp,ho,hv,nY,uc,run_underlying hu,qc h1,lF,hr,fQ]
   ·match q,hd with
    |0,hd=>cases hd;exact yD
    |1,hd=>cases hd;exact .bool _ _
  |false=>
   refine⟨zv,_, ?_,yD,hk⟩;simp[execOp,ho,hv,nY,uc,run_underlying hu,qc h1,lF,hr,fQ]
 ·rw[e2]at hk;have b9:=((h3 q p m hp hq).2).bb (AP w g);cases ok with
  |true=>
   refine⟨.tuple #[m.val, .bool true],_, ?_, .aQ _ _ _ rfl (λq d hd=> ?_),hk⟩
   ·simp[execOp,ho,hv,nY,uc,run_underlying hu,qc h1,lF,hr]
   ·match q,hd with
    |0,hd=>cases hd;exact b9
    |1,hd=>cases hd;exact .bool _ _
  |false=>
   refine⟨m.val,_, ?_,b9,hk⟩;simp[execOp,ho,hv,nY,uc,run_underlying hu,qc h1,lF,hr]
theorem Ga {dk dv:D}:∀{es:List (D×D)},lU dk es=none->nS dk dv es=es++[(dk,dv)]
 |[],_=>rfl
 |p::es,h=>by
  simp only[lU]at h;cases hk:kx p.1 dk with
  |true=>rw[hk]at h;cases h
  |false=>rw[hk]at h;simp only[nS,hk,cond_false,Ga (es:=es) h,List.cons_append]
theorem OS {dk dv:D}:∀{es:List (D×D)} {q:Nat} {p:D×D},es[q]? =some p->kx p.1 dk=true->(∀(r:Nat) (p':D×D),r < q->es[r]? =some p'->kx p'.1 dk=false)->nS dk dv es=es.set q (dk,dv)
 |[],q,p,h,_,_=>by simp at h
 |p0::es,0,p,h,hk,_=>by
  simp at h;subst h
  simp only[nS,hk,cond_true,List.set_cons_zero]
 |p0::es,q + 1,p,h,hk,hn=>by
  have:=hn 0 p0 ag rfl;simp only[nS,this,cond_false,List.set_cons_succ];rw[OS (es:=es) (q:=q) (p:=p) (by simpa using h) hk (λr p' hr jP=>hn (r + 1) p' ag (by simpa using jP))]
theorem NC {o:Oper}{t:TypeId}{x y z:Operand}{K:St->Prop}{Q:Exit->Act->World->Prop}(h:RG c s a w g)(ho:o.op= .mapUpdate t x y z\/o.op= .insert t x y z)(hd:o.dst=none)
  (hk:rm c.P s.bx t (s.ev x) (s.ev y) (s.ev z) λr=>K {s with bx:=r.1}):o.wp c.P a w (λa' w'=>∃s',R c s' a' w'/\K s') Q:=by
 unfold rm at hk;split at hk
 case h_2=>exact hk.elim
 rename_i i hx;obtain⟨es,gF,hk⟩:=MX hk;obtain⟨⟨kt,e⟩,kY,hk⟩:=cE hk;obtain⟨sh,mW,hK,bu,eT,hk⟩:=cE hk;obtain⟨b,hm⟩:=h.mp i es gF;obtain⟨ms,cl,h1,h2,h3⟩:=hm.ex;have eg:=h.ev x;rw[hx]at eg;generalize hv:a.eval x=vx at eg;cases eg with
 |bz _ _ b' bT=>
 have e1:=hm.β;rw[bT]at e1;cases e1
 have nY:=Di (h.ev y) mW;have Qa:Rel w g.mg (a.eval y) (s.ev y):=by
  have:=h.ev y;rcases AR mW with⟨n,e,_⟩|⟨t,e,_⟩|⟨cs,xs,e,hi,_⟩
  ·rw[e]at this⊢;generalize a.eval y=vy at this⊢;cases this;exact .int _ _ _
  ·rw[e]at this⊢;generalize a.eval y=vy at this⊢;cases this;exact .str _ _
  ·refine this.ON ?_;rw[e];have:∀{l:List D} {xs:List Int},jk l=some xs->db g.β.length 0 l=true:=λ{l}=>by
    induction l with
    |nil=>intros;rfl
    |cons d l ih=>
     intro xs hx;obtain⟨n,ys,rfl,h4,_⟩:=AY hx;simp only[db,dA,Bool.true_and];exact ih h4
   exact this hi
 have fQ:Rel w g.mg (a.eval z) (s.ev z):=(h.ev z).ON (by rw[h.lβ];exact eT);have hu:=yy kY;obtain⟨anN,hc⟩:=QN hm h1 hK mW bu;have lF:=λe=>hK.check e (gC (s.ev y)) w (AQ mW);have key:∀jB jq,(Ct t (.map (some b)) (gC (s.ev y)) (a.eval z)).run c.P w= .ok () {w with heap:=w.heap.setIfInBounds b (.map jB jq)}->
   jB.size=(nS (s.ev y) (s.ev z) es).length->(∀(q:Nat) (p:D×D) (m:MapEntry),(nS (s.ev y) (s.ev z) es)[q]? =some p->jB[q]? =some m->Rel w g.mg m.key p.1/\Rel w g.mg m.val p.2)->
   ((∀(p q:Nat) (m m':MapEntry),jB[p]? =some m->jB[q]? =some m'->m.key=m'.key->p=q)/\∀m∈jB.toList,m.born < jq)->o.wp c.P a w (λa' w'=>∃s',R c s' a' w'/\K s') Q:=λjB jq bg g1 g2 g3=>by
  have hex:(execOp a.eval o).run c.P w= .ok .skip {w with heap:=w.heap.setIfInBounds b (.map jB jq)}:=by
   rcases ho with ho|ho<;>simp[execOp,ho,hv,nY,bg]
  unfold fC;rw[hex];refine⟨_,⟨g, ?_⟩,hk⟩;have:=h.ZS (jq:=jq) gF hm h1 g1 g2 g3;rw[hd];exact this
 rcases hc with⟨e2,hr,fR⟩|⟨q,p,m,hp,hq,u1,uY,e2,hr⟩
 ·refine key (ms.push {key:=gC (s.ev y),val:=a.eval z,born:=cl}) (cl + 1) ?_ ?_ ?_ ?_
  ·simp[Ct,run_underlying hu,qc h1,lF,hr,IW _ h1]
  ·rw[Ga e2];simp[h2]
  ·rw[Ga e2];intro q p m hp hq;rcases fL q es.length with hl|hl
   ·rw[cZ hl]at hp;rw[zX,if_neg ag]at hq;exact h3 q p m hp hq
   ·rw[gk hl]at hp;have qM:q=es.length:=by have:=(bm.1 hp).1;simp at this;omega
    subst qM;rw[zX,if_pos h2.symm]at hq;simp at hp;subst hp
    cases hq;exact⟨nY▸Qa,fQ⟩
  ·refine⟨?_,λm kD=>by
    rw[Ts,gY]at kD;rcases kD with kD|kD
    ·have:=(hm.i_ ms cl h1).2 m kD;omega
    ·simp at kD;subst kD;exact Nat.lt_succ_self _⟩
   intro p q m m' hp hq he;rw[zX]at hp hq;split at hp<;>split at hq
   ·omega
   ·cases hp;exact absurd he.symm (fR m' (fM (by simpa using hq)))
   ·cases hq;exact absurd he (fR m (fM (by simpa using hp)))
   ·exact(hm.i_ ms cl h1).1 p q m m' hp hq he
 ·have jm:q < ms.size:=(bJ.1 hq).1;have hqe:ms[q]=m:=(bJ.1 hq).2;have bD:(E5 m.key (gC (s.ev y))).run c.P w= .ok (gC (s.ev y)) w:=by rw[uY];exact aam w (AQ mW)
  have uQ:nS (s.ev y) (s.ev z) es=es.set q (s.ev y,s.ev z):=OS hp u1 (λr p' hr jP=>by
   cases hx:kx p'.1 (s.ev y)with
   |false=>rfl
   |true=>
    have GR:∀(q:Nat) (p:D×D),es[q]? =some p->kV p.1=some sh:=λq p hp=>by
     have:=ic.1 bu p (fM hp);simpa using this
    have oR:=(AW (GR r p' jP) mW).1 hx;have oT:r < ms.size:=by rw[h2];exact(bm.1 jP).1
    have abQ:=Di (h3 r p' ms[r] jP (Fe oT)).1 (GR r p' jP);have:=(hm.i_ ms cl h1).1 r q ms[r] m (Fe oT) hq (abQ.trans (oR.trans uY.symm));omega)
  refine key (ms.modify q λe=>{e with key:=gC (s.ev y),val:=a.eval z}) cl ?_ ?_ ?_ ?_
  ·simp[Ct,run_underlying hu,qc h1,lF,hr,hq,bD,IW _ h1]
  ·rw[uQ];simp[h2]
  ·rw[uQ];intro r p' m' jP ec;rw[ug]at ec;by_cases s_:q=r
   ·subst s_;rw[if_pos rfl,hq]at ec;rw[je (by rw[<-h2];exact jm)]at jP;cases jP;cases ec
    exact⟨nY▸Qa,fQ⟩
   ·rw[if_neg s_]at ec;rw[gz s_]at jP;exact h3 r p' m' jP ec
  ·refine⟨?_,λm' kD=>by
    obtain⟨r,eR⟩:=Array.getElem?_of_mem (Fb.1 kD);rw[ug]at eR;by_cases s_:q=r
    ·subst s_;rw[if_pos rfl,hq]at eR;cases eR;exact(hm.i_ ms cl h1).2 m (Fb.2 (zV hq))
    ·rw[if_neg s_]at eR;exact(hm.i_ ms cl h1).2 m' (Fb.2 (zV eR))⟩
   intro p1 p2 m1 m2 yL jN he;have DI:∀(r:Nat) (m':MapEntry),(ms.modify q λe=>{e with key:=gC (s.ev y),val:=a.eval z})[r]? =some m'->∃m0,ms[r]? =some m0/\m'.key=m0.key:=λr m' cH=>by
    rw[ug]at cH;by_cases s_:q=r
    ·subst s_;rw[if_pos rfl,hq]at cH;cases cH;exact⟨m,hq,uY.symm⟩
    ·rw[if_neg s_]at cH;exact⟨m',cH,rfl⟩
   obtain⟨n1,f1,f2⟩:=DI p1 m1 yL;obtain⟨n2,f3,f4⟩:=DI p2 m2 jN;exact(hm.i_ ms cl h1).1 p1 p2 n1 n2 f1 f3 (by rw[<-f2,<-f4];exact he)
theorem Xi {o:Oper}{t:TypeId}{K:St->Prop}{Q:Exit->Act->World->Prop}(h:RG c s a w g)(ho:o.op= .makeMap t none)(hd:bp s o.dst)
  (hk:K (St.put {s with bx:=s.bx++[.mp []]} o.dst (.bz s.bx.length))):o.wp c.P a w (λa' w'=>∃s',R c s' a' w'/\K s') Q:=by
 have hr:=h.allocMap;have hex:(execOp a.eval o).run c.P w= .ok (.value (.map (some w.heap.size))) (w.alloc (.map #[] 0)):=by
  simp[execOp,ho,Instr.makeMap]
 unfold fC;rw[hex];refine⟨_,⟨_,hr.put ?_ (.bz _ _ w.heap.size ?_)⟩,hk⟩
 ·exact hd
 ·simp[<-h.lβ]
end
end Go.Ab
end
