import Derived.Test.YtafmfhkplgapjaaGreatDoorZ01
import Derived.Laws.IdiomCopy
import Derived.Laws.MakeOwn
set_option linter.unusedVariables false
set_option linter.unusedSimpArgs false
open Array renaming getD_eq_getD_getElem?->lJ,getElem?_eq_getElem->FZ,getElem?_eq_some_iff->bt,getElem?_modify->tE,getElem?_push->Cy,getElem?_setIfInBounds->yh,getElem_modify->alX,mem_of_getElem?->O5,mem_toList_iff->Cx,toList_push->XT
open Bool renaming and_eq_true->c_
open Go.Builtin renaming append_->wm,copy_->XO,firstCells->OZ,lenOf->JI
open Go renaming undef->bp
open Go.Instr renaming checkKey->FN,findKey->FJ,findNow->FI,keyThatStays->JD,lookup->wc,mapUpdate->FH,sameBits->FG,sameNow->OT
open List renaming all_eq_true->iD,append_assoc->kK,eq_nil_of_length_eq_zero->Cp,getD_eq_getElem?_getD->ic,getElem?_append_left->bQ,getElem?_append_right->dX,getElem?_eq_getElem->bS,getElem?_eq_some_iff->aQ,getElem?_map->cO,getElem?_set_ne->gj,getElem?_set_self->jg,getElem?_take->iM,getElem?_toArray->XC,getElem_of_mem->zV,length_append->eQ,length_cons->lV,length_eq_zero_iff->Cn,mem_append->fA,mem_cons->eK,mem_cons_of_mem->dW,mem_cons_self->dI,mem_iff_getElem?->v7,mem_map->eJ,mem_of_getElem?->ey,range->ct,replicate->cD
open Go.MapKept renaming run_getObj_map->tz,run_setObj_map->OK
open Nat renaming add_mul->ru,add_zero->xX,eq_zero_or_pos->Xz,le_refl->aY,lt_or_ge->ft,mul_le_mul_right->zQ,zero_add->fK
open Ne renaming symm->fq
open Go.Oper renaming wp->fo
open Option renaming getD_some->e8,map_eq_some_iff->cv
open Option.some renaming inj->iA,injEq->gE
open Go.Value renaming int->k7,ownBlock->je
open Go.World renaming alloc_heap_new->zK,cell?->qz,cell?_of_block->pJ
section
namespace Go.Ab
open Go.RowKit
section
variable {c:Ctx} {s:St} {a:Act} {w:World} {g:Gh}
theorem abn (w:World)(b:Nat)(cs:Array Value):w.grownBy (w.setRow b cs) (some b):=
 ⟨rfl,rfl,rfl,by simp[World.setRow],λk _ hk=>setRow_other w b k cs (λe=>hk (by rw[e]))⟩
theorem oV.grown {p:Nat->Prop}{B:Nat}{a w w':World}{row:Option Nat}(h:oV p B a w)(hg:w.grownBy w' row)(hr:∀k,row=some k->p k)(hB:B<=a.heap.size:=by exact Nat.le_refl _):oV p B a w':=
 ⟨hg.os.trans h.os,hg.tape.trans h.tape,hg.output.trans h.output,Nat.le_trans h.size hg.size,λk hk hn=>(hg.block k (by have:=h.size;omega) (λe=>hn (hr k e.symm))).trans (h.block k hk hn)⟩
theorem ahp {n:Nat}{b:Bool}{k:Nat}(hk:k < n):(decide ((pD n b).1<=k)&&decide (k < (pD n b).2))=false:=by
 cases b with
 |false=>simp[pD]
 |true=>
  have:¬n<=k:=ae;simp[pD,this]
theorem C3 (P:Program)(g o:Nat)(t:TypeId)(b:Bool):∀(vs:List Value) (i:Nat) (cur:Array Value) (w:World),w.heap[g]? =some (.cells cur t (pD cur.size b))->o + i + vs.length<=cur.size->(∀v∈vs,v.oneCell'=true)->
  (storeCells ⟨g,o,none⟩ vs i).run P w= .ok () (w.setRow g (cur.toList.take (o + i)++vs++cur.toList.drop (o + i + vs.length)).toArray)
 |[],i,cur,w,hg,_,_=>by
  simp only[storeCells,List.append_nil,List.length_nil,xX,List.take_append_drop,Array.toArray_toList];rw[setRow_self w g cur t _ hg];rfl
 |v::rest,i,cur,w,hg,hl,h1=>by
  have hi:o + i < cur.size:=by simp only[lV]at hl;omega
  have ag1:(⟨g,o,none⟩:Addr).add i=⟨g,o + i,none⟩:=nt g o i;have eX:w.cell? ⟨g,o + i,none⟩=some cur[o + i]:=by simp[qz,hg,hi]
  have agz:w.frozen? ⟨g,o + i,none⟩=false:=by
   have:=ahp (b:=b) hi;unfold World.frozen?;simp only[hg];exact this
  have aM:(store ((⟨g,o,none⟩:Addr).add i) v).run P w= .ok () (w.setRow g (cur.setIfInBounds (o + i) v)):=by
   rw[ag1,run_store P w _ v _ (h1 v aO),eX];simp[agz,setCell_eq_setRow w g (o + i) cur t _ v hg]
  have aR:(cur.setIfInBounds (o + i) v).size=cur.size:=by simp
  have ih:=C3 P g o t b rest (i + 1) (cur.setIfInBounds (o + i) v) (w.setRow g (cur.setIfInBounds (o + i) v)) (by rw[aR];exact setRow_heap w g cur _ t _ hg) (by simp only[lV]at hl;rw[aR];omega) (λx hx=>h1 x (by simp[hx]));simp only[storeCells,Sem.run_bind,aM,Result.andThen_ok,ih,setRow_setRow]
  congr 3
  have e:=list_seg_step cur.toList (o + i) v rest (by simp only[lV]at hl;simp;omega);simpa[Array.toList_setIfInBounds,Nat.add_assoc]using e
theorem abS (P:Program)(w:World)(dT sT ty elem:TypeId)(g o VY ajc:Nat)(a:Addr)(tO C2:Nat)(cur:Array Value)(t:TypeId)(b:Bool)(cs:List Value)
  (hu:P.underlying dT=some (.slice elem))(hs:(P.info? elem).map (·.size)=some 1)
  (hg:w.heap[g]? =some (.cells cur t (pD cur.size b)))(hn:cs.length=Nat.min tO VY)
  (L3:∀j v,cs[j]? =some v->w.cell? (a.add j)=some v)(xn:o + cs.length<=cur.size)(h1:∀v∈cs,v.oneCell'=true):
  (XO #[dT,sT] ty #[.slice (some ⟨g,o,none⟩) VY ajc, .slice (some a) tO C2]).run P w=
   .ok (goInt cs.length) (w.setRow g (cur.toList.take o++cs++cur.toList.drop (o + cs.length)).toArray):=by
 have hl:=run_loadCells_list (P:=P) w a cs L3;have aM:=C3 P g o t b cs 0 cur w hg (by simpa using xn) h1;cases hq:P.info? elem with
 |none=>simp[hq]at hs
 |some i=>
  have hi:i.size=1:=by simpa[hq]using hs
  simp[XO,run_underlying hu,JI,OZ,sizeOf,typeInfo,hq,hi,<-hn,hl,aM]
theorem RG.store {i off b:Nat}{cs ds:List D}{vs:Array Value}(h:RG c s a w g)(hi:s.bx[i]? =some (.mu cs))(hb:g.β[i]? =some b)(hd:fZ w g vs ds)(hle:off + ds.length<=cs.length):
  ∃(cur:Array Value) (t:TypeId×Bool),w.heap[b]? =some (.cells cur t.1 (pD cur.size t.2))/\cur.size=cs.length/\
   RG c {s with bx:=s.bx.set i (.mu (cs.take off++ds++cs.drop (off + ds.length)))} a (w.setRow b (cur.toList.take off++vs.toList++cur.toList.drop (off + vs.size)).toArray) g:=by
 obtain⟨b',cur,t,e1,e2,e3,e4,e5,e6⟩:=(h.bx i cs hi).ex;rw[e1]at hb;cases hb
 refine⟨cur,t,e2,e3.1, ?_⟩;generalize hw:w.setRow b (cur.toList.take off++vs.toList++cur.toList.drop (off + vs.size)).toArray=w';have jW:w.grownBy w' (some b):=by rw[<-hw];exact abn w b _
 have bz:∀x,g.S x->x.block≠b:=e5 rfl;have eX:∀x:Addr,x.block < w.heap.size->x.block≠b->w'.cell? x=w.cell? x:=λx hx iQ=>
  pJ (jW.block x.block hx (by simpa using iQ))
 have k:fL w g w' g:=⟨λx hx=>eX x (h.ba.lt hx) (bz x hx),λ_ h=>h,λ_ _ h=>h,λ_ _ h=>h,λ_ _ h=>h⟩;have eg:i < s.bx.length:=(aQ.1 hi).1;obtain⟨κ,k1,k2⟩:=h.ap;have hκ:κ b= .inl i:=k1 i _ b hi rfl e1;have hold:∀(j:Nat) (x:Bx),(s.bx.set i (.mu (cs.take off++ds++cs.drop (off + ds.length))))[j]? =some x->(j=i/\x= .mu (cs.take off++ds++cs.drop (off + ds.length)))\/(j≠i/\s.bx[j]? =some x):=λj x hj=>by
  by_cases bF:j=i
  ·subst bF;rw[jg eg]at hj;exact .inl ⟨rfl,(iA hj).symm⟩
  ·rw[gj (fq bF)]at hj;exact .inr ⟨bF,hj⟩
 have yZ:∀(j:Nat) (x:Bx) (b':Nat),j≠i->s.bx[j]? =some x->x.live=true->g.β[j]? =some b'->b'≠b:=λj x b' bF hj hl cr e=>by
  subst e;have:=k1 j x b' hj hl cr;rw[hκ]at this;injection this with this;exact bF this.symm
 have zj:fZ w g (cur.toList.take off++vs.toList++cur.toList.drop (off + vs.size)).toArray (cs.take off++ds++cs.drop (off + ds.length)):=by
  have wZ:=hd.1;have hcu:=e3.1;refine Wl e3 hd hle (by simp;omega) (λm hm=> ?_);by_cases hc:off<=m/\m < off + vs.size
  ·rw[if_pos hc];simp only[lJ,XC];rw[kK,dX (by simp;omega),bQ (by simp;omega)];have:m - (cur.toList.take off).length=m - off:=by simp;omega
   rw[this];simp
  ·rw[if_neg hc];simp only[lJ,XC];rcases ft m off with h2|h2
   ·rw[kK,bQ (by simp;omega),iM,if_pos h2];simp
   ·rw[dX (by simp;omega),List.getElem?_drop];have:off + vs.size + (m - (cur.toList.take off++vs.toList).length)=m:=by simp;omega
    rw[this];simp
 refine⟨h.df.aZ (λk o hk ho=> ?_) (λx hx=>k.cell x (h.S0 x hx)),h.sz, ?_,h.cu,λx hx=> ?_,h.en,h.S0,h.fJ,by simp[h.lβ],h.lρ,λn=>(h.sl n).aZ k, ?_, ?_, ?_, ?_,λj es hj=>by
  rcases hold j _ hj with⟨_,e⟩|⟨bF,hj⟩
  ·cases e
  ·obtain⟨b2,hm⟩:=h.mp j es hj;refine⟨b2, ?_⟩;exact hm.aZ k (jW.block b2 hm.lt (by simpa using yZ j _ b2 bF hj rfl hm.β)) hm.nm⟩
 ·refine(jW.block k (bt.1 hk).1 (λe=> ?_)).trans hk;cases e;rw[e2]at hk;cases hk;cases ho
 ·exact h.below.grown jW (λq hq=>by cases hq;exact .inl e4)
 ·obtain⟨u,hu⟩:=h.ba x hx;exact⟨u,(k.cell x hx).trans hu⟩
 ·intro j bR hj;rcases hold j _ hj with⟨rfl,e⟩|⟨bF,hj⟩
  ·cases e;have afU:(cur.toList.take off++vs.toList++cur.toList.drop (off + vs.size)).toArray.size=cur.size:=by
    have wZ:=hd.1;have hcu:=e3.1;simp;omega
   refine⟨b,_,t,e1,by rw[<-hw,afU];exact setRow_heap w b cur _ t.1 _ e2,zj.aZ k,e4,λ_=>bz,λh=>by cases h⟩
  ·obtain⟨b',ie,t',f1,f2,f3,f4,f5,f6⟩:=(h.bx j bR hj).ex;have aG:b' < w.heap.size:=(bt.1 f2).1;exact⟨b',ie,t',f1,(jW.block b' aG (by simpa using yZ j _ b' bF hj rfl f1)).trans f2,f3.aZ k,f4,f5,f6⟩
 ·intro j bR hj;rcases hold j _ hj with⟨rfl,e⟩|⟨bF,hj⟩
  ·cases e
  ·obtain⟨b',ie,t',f1,f2,f3,f4,f5,f6⟩:=(h.fz j bR hj).ex;have aG:b' < w.heap.size:=(bt.1 f2).1;exact⟨b',ie,t',f1,(jW.block b' aG (by simpa using yZ j _ b' bF hj rfl f1)).trans f2,f3.aZ k.er,f4,f5,f6⟩
 ·intro r row hr;obtain⟨v,f1,f2,f3⟩:=(h.rw r row hr).ex;refine⟨v,f1,f2.aZ k,λhl=> ?_⟩;obtain⟨⟨vals,bI⟩,bf,hS⟩:=f3 hl;refine⟨⟨vals,bI.kept jW ?_⟩,bf,hS⟩;right;intro e;have:=k2 r row v b hr hl f1 e;rw[hκ]at this;cases this
 ·refine⟨κ,λj x b' hj hx cr=> ?_,k2⟩;rcases hold j _ hj with⟨rfl,e⟩|⟨bF,hj⟩
  ·rw[e1]at cr;cases cr;exact hκ
  ·exact k1 j x b' hj hx cr
def uQ (P:Program)(s:St)(t:TypeId)(x d:D)(K:St->Prop):Prop:=match x with
 | .box i off=>match s.bx[i]? with
  |some (.mu cs)=>aC P t≠0/\d.cells.length=aC P t/\d.cells.all D.one=true/\off + d.cells.length<=cs.length/\
    K {s with bx:=s.bx.set i (.mu (cs.take off++d.cells++cs.drop (off + d.cells.length)))}
  |_=>False
 |_=>False
theorem abv {o:Oper}{t:TypeId}{x y:Operand}{K:St->Prop}{Q:Exit->Act->World->Prop}(h:RG c s a w g)(ho:o.op= .store t x y)(hd:o.dst=none)
  (hk:uQ c.P s t (s.ev x) (s.ev y) K):o.wp c.P a w (λa' w'=>∃s',R c s' a' w'/\K s') Q:=by
 unfold uQ at hk;split at hk
 ·rename_i i off hx;split at hk
  ·rename_i cs aw;obtain⟨hz,hl,h1,hle,hk⟩:=hk;have ek:=h.ev x;rw[hx]at ek;generalize hv:a.eval x=vx at ek;cases ek with
   |box _ _ _ b hb=>
    have hc:=(h.ev y).EY h.hρ h1;obtain⟨cur,tb,e1,e2,e3⟩:=h.store aw hb hc hle;have aR:(a.eval y).cells.size=aC c.P t:=by rw[hc.1,hl]
    have px:∀v∈(a.eval y).cells.toList,v.oneCell'=true:=λv hv=>by
     obtain⟨q,hq,rfl⟩:=zV hv;have dP:q < (s.ev y).cells.length:=by rw[<-hc.1];simpa using hq
     have:=(hc.2 q _ (bS dP)).2;simp at hq;simpa[hq]using this
    have aV:=C3 c.P b off tb.1 tb.2 (a.eval y).cells.toList 0 cur w e1 (by have:=hc.1;simp;omega) px;simp only[xX,Array.length_toList]at aV;have hex:(execOp a.eval o).run c.P w= .ok .skip (w.setRow b (cur.toList.take off++(a.eval y).cells.toList++cur.toList.drop (off + (a.eval y).cells.size)).toArray):=by
     simp[execOp,ho,hv,Instr.storeAt,Instr.sureAddr,storeVar,run_sizeOf hz,aR,aV]
    unfold fo;rw[hex];simp only[Oper.upon,hd,Act.put];exact⟨_,⟨g,e3⟩,hk⟩
  ·exact hk.elim
 ·exact hk.elim
theorem abH {o:Oper}{t:TypeId}{K:St->Prop}{Q:Exit->Act->World->Prop}(h:RG c s a w g)(ho:o.op= .alloc t)(hd:bd s o.dst)
  (hk:a_ (bL c.P t) λzs=>K (St.put {s with bx:=s.bx++[.mu zs]} o.dst (.box s.bx.length 0))):o.wp c.P a w (λa' w'=>∃s',R c s' a' w'/\K s') Q:=by
 obtain⟨zs,hz,hk⟩:=cM hk;obtain⟨z,fU,jC,_⟩:=yk hz w g;have hr:=h.alloc (t:=t) jC;have hex:(execOp a.eval o).run c.P w= .ok (.value (.pointer (some ⟨w.heap.size,0,none⟩))) (w.alloc (.cells z.cells t)):=by
  simp[execOp,ho,Instr.alloc,fU,newVar,newRow]
 unfold fo;rw[hex];refine⟨_,⟨_,hr.put ?_ (.box _ _ _ w.heap.size ?_)⟩,hk⟩
 ·exact hd
 ·simp[<-h.lβ]
theorem abF {o:Oper}{t:TypeId}{x:Operand}{K:St->Prop}{Q:Exit->Act->World->Prop}(h:RG c s a w g)(ho:o.op= .box t x)(hd:bd s o.dst)
  (hk:(s.ev x).cells.all D.one=true/\K (St.put {s with bx:=s.bx++[.mu (s.ev x).cells]} o.dst (.box s.bx.length 0))):o.wp c.P a w (λa' w'=>∃s',R c s' a' w'/\K s') Q:=by
 obtain⟨h1,hk⟩:=hk;have hc:=(h.ev x).EY h.hρ h1;have hr:=h.alloc (t:=t) hc;have hex:(execOp a.eval o).run c.P w= .ok (.value (.pointer (some ⟨w.heap.size,0,none⟩))) (w.alloc (.cells (a.eval x).cells t)):=by
  simp[execOp,ho,Instr.box,newVar,newRow]
 unfold fo;rw[hex];refine⟨_,⟨_,hr.put ?_ (.box _ _ _ w.heap.size ?_)⟩,hk⟩
 ·exact hd
 ·simp[<-h.lβ]
def E2 (P:Program)(t:TypeId):Nat:=((P.info? t).map (·.bytes)).getD 0
def yo (bx:List Bx)(d:D)(k:List D->Prop):Prop:=match d with
 | .aN i off n _=>nE bx i λcs=>off + n<=cs.length/\k ((cs.drop off).take n)
 | .list xs=>k xs
 |_=>False
theorem Pp {v:Value}{d:D}{k:List D->Prop}(h:RG c s a w g)(hr:Rel w g v d)(hk:yo s.bx d k):
  ∃(ys:List D) (A:Option Addr) (cp:Nat) (u:Nat->Value),k ys/\v= .slice A ys.length cp/\(ys.all D.one=true->∀q,q < ys.length->∃ad,A=some ad/\w.cell? (ad.add q)=some (u q)/\(u q).oneCell'=true)/\(ys.all D.one=true->∀q d,ys[q]? =some d->Rel w g (u q) d):=by
 unfold yo at hk;split at hk
 ·rename_i i off n cp;obtain⟨cs,aw,hle,hk⟩:=CD hk;obtain⟨b,vs,tb,e1,e2,e3⟩:=h.mem.bx i cs aw;cases hr with
  |aN _ _ _ _ _ b' cr=>
   obtain rfl:b'=b:=by rw[e1]at cr;exact(iA cr).symm
   obtain⟨h1,h2⟩:=vP e2 e3 off;have hlen:((cs.drop off).take n).length=n:=by simp;omega
   refine⟨_,some ⟨b',off,none⟩,cp,λq=>vs.getD (off + q) bp,hk,by rw[hlen],λ_ q hq=>⟨_,rfl,h1 q (by simp;omega)⟩,λ_ q d hd=>h2 q d ?_⟩;rw[iM]at hd;split at hd
   ·exact hd
   ·cases hd
 rotate_left
 ·exact hk.elim
 ·rename_i xs;have fV:=hr;obtain⟨A,cp,sz,u,hv,_,hm,pq⟩:=fV.sP;have fv:∀l:List D,l.all D.one=true->flat l=l:=λl hl=>by
   induction l with
   |nil=>rfl
   |cons d l ih=>
    simp only[List.all_cons,c_]at hl;have e:d.cells=[d]:=by have:=hl.1;cases d<;>first|rfl|(cases this)
    show d.cells++flat l=_;rw[e,ih hl.2];rfl
  refine⟨xs,A,cp,u,hk,hv,λho q hq=> ?_,λho q d hd=> ?_⟩
  ·obtain⟨ad,e1,e2,_,e4⟩:=hm q (by rw[fv _ ho];exact hq);exact⟨ad,e1,e2,e4⟩
  ·exact(pq q d (by rw[fv _ ho];exact hd)).aZ (ud _ _)
def F' (P:Program)(bx:List Bx)(t:TypeId)(dx dy:D)(k:List Bx×D->Prop):Prop:=match dx with
 | .aN i off n _=>a_ (elemOf P t) λe=>aC P e=1/\yo bx dy λys=>ys.all D.one=true/\match bx[i]? with
   |some (.mu cs)=>off + n<=cs.length/\k (bx.set i (.mu (cs.take off++ys.take n++cs.drop (off + (ys.take n).length))), .int .i64 (ys.take n).length)
   |_=>False
 |_=>False
def Ga (P:Program)(s:St)(dst:Option Tmp)(t:TypeId)(dx dy:D)(K:St->Prop):Prop:=F' P s.bx t dx dy λr=>K (St.put {s with bx:=r.1} dst r.2)
theorem abC {o:Oper}{x y:Operand}{t t':TypeId}{K:St->Prop}{Q:Exit->Act->World->Prop}(h:RG c s a w g)
  (ho:o.op= .call {callee:= .builtin .copy,args:=#[x,y],argTypes:=#[t,t']})(hd:bd s o.dst)(hk:Ga c.P s o.dst t (s.ev x) (s.ev y) K):
  o.wp c.P a w (λa' w'=>∃s',R c s' a' w'/\K s') Q:=by
 unfold Ga F' at hk;split at hk
 case h_2=>exact hk.elim
 rename_i i off n cp hx;obtain⟨e,he,hz,hk⟩:=cM hk;obtain⟨ys,A,NI,u,⟨TK,hk⟩,hv,hm,hr⟩:=Pp h (h.ev y) hk;have hm:=hm TK;have hr:=hr TK;split at hk
 case h_2=>exact hk.elim
 rename_i cs aw;obtain⟨hle,hk⟩:=hk;have ek:=h.ev x;rw[hx]at ek;generalize Ht:a.eval x=vx at ek;cases ek with
 |aN _ _ _ _ _ b hb=>
 have hu:=mD he;have mi:(c.P.info? e).map (·.size)=some 1:=by
  unfold aC Program.cellsOf at hz;cases hi:c.P.info? e with
  |none=>rw[hi]at hz;simp at hz
  |some i=>rw[hi]at hz;simpa using hz
 have xe:(ys.take n).length=Nat.min ys.length n:=by simp[Nat.min_comm]
 obtain⟨vals,w_⟩:∃vals:List Value,vals=(ct (ys.take n).length).map u:=⟨_,rfl⟩;have jn:vals.length=(ys.take n).length:=by rw[w_];simp
 have MQ:fZ w g vals.toArray (ys.take n):=by
  refine⟨by simpa using jn,λq d hd=> ?_⟩;have hq:=(aQ.1 hd).1;have dP:q < ys.length:=by simp at hq;omega
  have e1:(vals.toArray).getD q bp=u q:=by
   rw[w_];simp at hq⊢;simp[hq]
  rw[e1];obtain⟨ad,_,_,h1⟩:=hm q dP;refine⟨hr q d ?_,h1⟩;rw[iM]at hd;split at hd
  ·exact hd
  ·cases hd
 obtain⟨cur,tb,e1,e2,e3⟩:=h.store (off:=off) (vs:=vals.toArray) aw hb MQ (by rw[xe];have h9:Nat.min ys.length n<=n:=Nat.min_le_right ys.length n;omega);have px:∀v∈vals,v.oneCell'=true:=λv hv=>by
  rw[w_]at hv;obtain⟨q,hq,rfl⟩:=eJ.1 hv;obtain⟨ad,_,_,h1⟩:=hm q (by simp at hq;omega);exact h1
 have aV:(XO #[t,t'] o.type #[.slice (some ⟨b,off,none⟩) n cp, .slice A ys.length NI]).run c.P w= .ok (goInt (ys.take n).length) (w.setRow b (cur.toList.take off++vals++cur.toList.drop (off + vals.length)).toArray):=by
  by_cases h0:(ys.take n).length=0
  ·have mY:vals=[]:=by rw[<-Cn,jn,h0]
   rw[h0,mY];rw[run_copy_none w t t' o.type e (some ⟨b,off,none⟩) A n cp ys.length NI hu mi (by rw[<-xe,h0])];have:(cur.toList.take off++([]:List Value)++cur.toList.drop (off + ([]:List Value).length)).toArray=cur:=by simp
   rw[this,setRow_self w b cur tb.1 _ e1];rfl
  ·obtain⟨ad,rfl,_⟩:=hm 0 (by rcases Xz ys.length with h9|h9;exact absurd (by rw[xe,h9];exact Nat.zero_min n) h0;exact h9);rw[<-jn];refine abS c.P w t t' o.type e b off n cp ad ys.length NI cur tb.1 tb.2 vals hu mi e1 (by rw[jn,xe]) (λj v hj=> ?_) (by rw[jn,e2,xe];have h9:Nat.min ys.length n<=n:=Nat.min_le_right ys.length n;omega) px;rw[w_]at hj;have dE:=(aQ.1 hj).1;simp at dE;simp[dE]at hj;obtain⟨zJ,e4,e5,_⟩:=hm j ae;cases e4;rw[<-hj];exact e5
 have hex:(execOp a.eval o).run c.P w= .ok (.value (goInt (ys.take n).length)) (w.setRow b (cur.toList.take off++vals++cur.toList.drop (off + vals.length)).toArray):=by
  simp only[List.length_take]at aV;simp[execOp,ho,resolve,invoke,builtin,Ht,hv,aV]
 unfold fo;rw[hex];refine⟨_,⟨g,RG.put (s:={s with bx:=s.bx.set i (.mu (cs.take off++ys.take n++cs.drop (off + (ys.take n).length)))}) (dst:=o.dst) (d:= .int .i64 (ys.take n).length) (v:=goInt (ys.take n).length) (by simpa using e3) hd (.int _ _ _)⟩,hk⟩
def F9 (P:Program)(s:St)(dst:Option Tmp)(t:TypeId)(dl dc:D)(K:St->Prop):Prop:=
 a_ (elemOf P t) λe=>jh dl dc λ_ n m=>n=m/\0<=n/\n<=9223372036854775807/\(E2 P e:Int) * n<=140737488355328/\a_ (bL P e) λzs=>zs≠[]/\
  K (St.put {s with bx:=s.bx++[.mu (cD n.toNat zs).flatten]} dst (.aN s.bx.length 0 n.toNat n.toNat))
theorem abx {o:Oper}{t:TypeId}{x y:Operand}{K:St->Prop}{Q:Exit->Act->World->Prop}(h:RG c s a w g)(ho:o.op= .makeSlice t x y)(hd:bd s o.dst)
  (hk:F9 c.P s o.dst t (s.ev x) (s.ev y) K):o.wp c.P a w (λa' w'=>∃s',R c s' a' w'/\K s') Q:=by
 obtain⟨e,he,hk⟩:=cM hk;obtain⟨q,n,m,h1,h2,rfl,h0,jI,oe,hk⟩:=pQ (h.ev x) (h.ev y) hk;obtain⟨zs,gM,bz,hk⟩:=cM hk;obtain⟨z,fU,jC,i,hi,sY⟩:=yk gM w g;obtain⟨z',AW,mW⟩:∃z',i.zero=some z'/\z'.cells=z.cells:=by
  unfold bL at gM;rw[hi]at gM;cases lq:i.zero with
  |none=>simp[lq]at gM
  |some z'=>
   refine⟨z',rfl, ?_⟩;have:(zeroValue e).run c.P w= .ok z' w:=by simp[zeroValue,typeInfo,hi,lq]
   rw[this]at fU;injection fU with fU;rw[fU]
 have hb:E2 c.P e=i.bytes:=by simp[E2,hi]
 rw[hb]at oe;have aV:=run_make (P:=c.P) (w:=w) t e i z' (mD he) hi AW q q n n h0 (Int.le_refl _) ae jI;have MQ:fZ w g (madeCells z'.cells (n.toNat * i.size)) (cD n.toNat zs).flatten:=by
  have Hr:zs.length=i.size:=sY.symm;have Td:z'.cells.size=zs.length:=by rw[mW];exact jC.1
  have kS:0 < zs.length:=List.length_pos_iff.2 bz;refine⟨by rw[size_madeCells];simp[Hr],λp d hd=> ?_⟩;have hp:p < n.toNat * zs.length:=by have:=(aQ.1 hd).1;simpa using this
  have aK:(madeCells z'.cells (n.toNat * i.size)).getD p bp=z'.cells.getD (p % zs.length) bp:=by
   have hm:p % zs.length < z'.cells.size:=by rw[Td];exact Nat.mod_lt _ kS
   have jo:p < n.toNat * i.size:=by rw[<-Hr];exact hp
   simp only[madeCells,Td];simp[jo,hm]
  have fk:∀(m p:Nat),p < m * zs.length->(cD m zs).flatten[p]? =zs[p % zs.length]? :=by
   intro m;induction m with
   |zero=>intro p hp;omega
   |succ m ih=>
    intro p hp;rw[List.replicate_succ,List.flatten_cons];rcases ft p zs.length with h1|h1
    ·rw[bQ h1,Nat.mod_eq_of_lt h1]
    ·rw[dX h1,ih _ (by rw[ru]at hp;omega)]
     congr 1
     rw[Nat.mod_eq_sub_mod h1]
  rw[aK,mW];rw[fk _ _ hp]at hd;exact jC.2 _ d hd
 have hr:=h.alloc (t:=e) MQ;have hex:(execOp a.eval o).run c.P w= .ok (.value (.slice (some ⟨w.heap.size,0,none⟩) n.toNat n.toNat)) (w.alloc (.cells (madeCells z'.cells (n.toNat * i.size)) e)):=by
  simp[execOp,ho,h1,h2,aV]
 unfold fo;rw[hex];refine⟨_,⟨_,hr.put ?_ (.aN _ _ _ _ _ w.heap.size ?_)⟩,hk⟩
 ·exact hd
 ·simp[<-h.lβ]
mutual
def D.qQ (r:Nat):D->Bool
 | .own r'=>r' == r
 | .agg cs=>rO r cs
 | .aF cs=>rO r cs
 | .ag _ cs=>rO r cs
 | .cL _ cs=>rO r cs
 |_=>false
def rO (r:Nat):List D->Bool
 |[]=>false
 |d::ds=>d.qQ r||rO r ds
end
theorem Dn {r:Nat}:∀{ds:List D},rO r ds=false->∀d∈ds,d.qQ r=false
 |[],_,d,hd=>by cases hd
 |x::ds,h,d,hd=>by
  simp only[rO,Bool.or_eq_false_iff]at h;rcases eK.1 hd with rfl|hd
  ·exact h.1
  ·exact Dn h.2 d hd
theorem Rel.SG {w':World}{r:Nat}{v:Value}{d:D}(h:Rel w g v d):∀{g':Gh},(∀x,g.S x->w'.cell? x=w.cell? x)->(∀x,g.S x->g'.S x)->(∀(i b:Nat),g.β[i]? =some b->g'.β[i]? =some b)->
  (∀(i:Nat) (b:Value),i≠r->g.ρ[i]? =some b->g'.ρ[i]? =some b)->(∀(b:Nat) (f:eP),g.M b=some f->g'.M b=some f)->d.qQ r=false->Rel w' g' v d:=by
 induction h with
 |undef g v=>intros;exact .undef _ _
 |int g k n=>intros;exact .int _ _ _
 |bool g b=>intros;exact .bool _ _
 |str g s=>intros;exact .str _ _
 |val g v=>intros;exact .val _ _
 |list g A n c xs sz u hn aR eO hm hr ih=>
  intro g' h1 h2 h3 h4 jG _;have k:fL w g.er w' g'.er:=⟨h1,h2,λi b h=>by simp[Gh.er]at h,λi b h=>by simp[Gh.er]at h,jG⟩;refine .list _ A n c xs sz u hn aR eO (λq hq=> ?_) (λq d hd=>(hr q d hd).aZ k);obtain⟨ad,rfl,hc,hS,gH⟩:=hm q hq;exact⟨ad,rfl,(h1 _ hS).trans hc,h2 _ hS,gH⟩
 |agg g vs cs hl gH hr ih=>
  intro g' h1 h2 h3 h4 jG hm;exact .agg _ vs cs hl gH (λq d hd=>ih q d hd h1 h2 h3 h4 jG (Dn hm d (ey hd)))
 |aF g vs ds hl hr ih=>
  intro g' h1 h2 h3 h4 jG hm;exact .aF _ vs ds hl (λq d hd=>ih q d hd h1 h2 h3 h4 jG (Dn hm d (ey hd)))
 |box g i off b hb=>intro g' h1 h2 h3 h4 jG _;exact .box _ i off b (h3 _ _ hb)
 |ro g ad cs u hm hr ih=>
  intro g' h1 h2 h3 h4 jG _;have k:fL w g.er w' g'.er:=⟨h1,h2,λi b h=>by simp[Gh.er]at h,λi b h=>by simp[Gh.er]at h,jG⟩;refine .ro _ ad cs u (λq hq=> ?_) (λq d hd=>(hr q d hd).aZ k);obtain⟨hc,hS,gH⟩:=hm q hq;exact⟨(h1 _ hS).trans hc,h2 _ hS,gH⟩
 |bM g b f h=>intro g' h1 h2 h3 h4 jG _;exact .bM _ b f (jG _ _ h)
 |skp g=>intros;exact .skp _
 |any g v h1=>intros;exact .any _ v h1
 |bu g i b hb=>intro g' h1 h2 h3 h4 jG _;exact .bu _ i b (h3 _ _ hb)
 |cL g f vs cs hl hr ih=>
  intro g' h1 h2 h3 h4 jG hm;exact .cL _ f vs cs hl (λq d hd=>ih q d hd h1 h2 h3 h4 jG (Dn hm d (ey hd)))
 |aN g i off n c b hb=>intro g' h1 h2 h3 h4 jG _;exact .aN _ i off n c b (h3 _ _ hb)
 |own g r' v h=>
  intro g' h1 h2 h3 h4 jG hm;simp only[D.qQ,beq_eq_false_iff_ne,ne_eq]at hm;exact .own _ r' v (h4 _ _ hm h)
 |ag g f vs cs hl hr ih=>
  intro g' h1 h2 h3 h4 jG hm;exact .ag _ f vs cs hl (λq d hd=>ih q d hd h1 h2 h3 h4 jG (Dn hm d (ey hd)))
end
end Go.Ab
end
section
namespace Go.Ab
open Go.RowKit
section
variable {c:Ctx} {s:St} {a:Act} {w:World} {g:Gh}
def gY (r:Nat)(d:D):D:=match d.qQ r with|true=> .undef|false=>d
def ij (r:Nat):Bx->Bx
 | .mu cs=> .mu (cs.map (gY r))
 |x=>x
theorem ada {w':World}{g':Gh}{r:Nat}{v:Value}{d:D}(h:Rel w g v d)(h1:∀x,g.S x->w'.cell? x=w.cell? x)(h2:∀x,g.S x->g'.S x)(h3:∀(i b:Nat),g.β[i]? =some b->g'.β[i]? =some b)
  (h4:∀(i:Nat) (b:Value),i≠r->g.ρ[i]? =some b->g'.ρ[i]? =some b)(h5:∀(b:Nat) (f:eP),g.M b=some f->g'.M b=some f):Rel w' g' v (gY r d):=by
 unfold gY;cases hm:d.qQ r with
 |true=>exact .undef _ _
 |false=>exact h.SG h1 h2 h3 h4 h5 hm
theorem RG.C_ (h:RG c s a w g)(e:TypeId)(sz:Nat):RG c {s with rw:=s.rw++[⟨true,e,sz,[]⟩]} a w ⟨g.S,g.β,g.ρ++[.slice none 0 0],g.M⟩:=by
 have k:fL w g w ⟨g.S,g.β,g.ρ++[.slice none 0 0],g.M⟩:=⟨λ_ _=>rfl,λ_ h=>h,λ_ _ h=>h,λi b hi=>by
  rw[bQ (aQ.1 hi).1];exact hi,λ_ _ h=>h⟩
 have hold:∀(i:Nat) (x:Row),(s.rw++[⟨true,e,sz,[]⟩])[i]? =some x->s.rw[i]? =some x/\i < s.rw.length\/x=⟨true,e,sz,[]⟩/\i=s.rw.length:=λi x hi=>by
  rcases ft i s.rw.length with aG|iS
  ·rw[bQ aG]at hi;exact .inl ⟨hi,aG⟩
  ·rw[dX iS]at hi;have:i - s.rw.length=0:=by have:=(aQ.1 hi).1;simp at this;omega
   rw[this]at hi;simp at hi;exact .inr ⟨hi.symm,ae⟩
 have hn:(g.ρ++[Value.slice none 0 0])[s.rw.length]? =some (.slice none 0 0):=by rw[<-h.lρ];simp
 refine⟨h.df.gh rfl,h.sz,h.below,h.cu,h.ba,h.en,h.S0,h.fJ,h.lβ,by simp[h.lρ],λn=>(h.sl n).aZ k, ?_, ?_, ?_, ?_,λi es hi=>(h.mp i es hi).imp λb hm=>hm.aZ k rfl hm.nm⟩
 ·intro i cs hi;obtain⟨b,vs,t,e1,e2,e3,e4,e5,e6⟩:=(h.bx i cs hi).ex;exact⟨b,vs,t,e1,e2,e3.aZ k,e4,e5,e6⟩
 ·intro i cs hi;obtain⟨b,vs,t,e1,e2,e3,e4,e5,e6⟩:=(h.fz i cs hi).ex;exact⟨b,vs,t,e1,e2,e3,e4,e5,e6⟩
 ·intro r row hr;rcases hold r _ hr with⟨hr,_⟩|⟨rfl,rfl⟩
  ·obtain⟨v,e1,e2,e3⟩:=(h.rw r row hr).ex;exact⟨v,k.ρ _ _ e1,e2.aZ k,e3⟩
  ·exact⟨_,hn, .nil _ _,λ_=>⟨⟨[],World.ownsRow_nil w _ e sz⟩,by simp,λgb aI=>by simp[je]at aI⟩⟩
 ·obtain⟨κ,k1,k2⟩:=h.ap;refine⟨κ,k1,λr row v gb hr hl hv aI=> ?_⟩;rcases hold r _ hr with⟨hr,aG⟩|⟨rfl,rfl⟩
  ·rw[bQ (by rw[h.lρ];exact aG)]at hv;exact k2 r row v gb hr hl hv aI
  ·rw[hn]at hv;cases hv
   simp[je]at aI
def St.appended (s:St)(r:Nat)(row:Row):St:=
 {s with sl:=λn=>gY r (s.sl n),bx:=s.bx.map (ij r),rw:=s.rw.set r row}
theorem Qq (P:Program)(base:Nat)(t ty e:TypeId)(i:TypeInfo)(size:Nat)(ht:P.underlying t=some (.slice e))(hi:P.info? e=some i)
  (v:Value)(n:Nat)(xs:List Value)(bI:w.ownsRow base e size v n xs)(q:Nat):(wm #[t,t] ty #[v, .slice none 0 q]).run P w= .ok v w:=by
 rcases bI.2 with⟨rfl,rfl⟩|⟨g,cap,cur,rfl,_,_,qY,_⟩
 ·simp[wm,run_underlying ht,sizeOf,typeInfo,hi,JI,OZ]
 ·simp[wm,run_underlying ht,sizeOf,typeInfo,hi,JI,OZ,qY,storeCells]
theorem Qr (P:Program)(base:Nat)(t ty e:TypeId)(i:TypeInfo)(z:Value)(size bytes:Nat)(ht:P.underlying t=some (.slice e))(hi:P.info? e=some i)(hz:i.zero=some z)
  (sQ:i.size=size)(oe:i.bytes=bytes)(gM:z.cells.size=size)(aR:0 < size)
  (v:Value)(n:Nat)(xs:List Value)(bI:w.ownsRow base e size v n xs)
  (A:Option Addr)(m q:Nat)(news:List Value)(hl:news.length=m * size)(hr:0 < m->∃ad,A=some ad/\∀j u,news[j]? =some u->w.cell? (ad.add j)=some u)(h1:∀u∈news,u.oneCell'=true)
  (jI:n + m<=maxLen)(HY:(n + m) * bytes<=140737488355328)(agV:base<=w.heap.size):
  ∃v' w',(wm #[t,t] ty #[v, .slice A m q]).run P w= .ok v' w'/\w'.ownsRow base e size v' (n + m) (xs++news)/\w.grownBy w' v.ownBlock/\
   (v'.ownBlock=v.ownBlock\/(v'.ownBlock=some w.heap.size/\w.grownBy w' none)):=by
 rcases A with _|ad
 ·have hm:m=0:=by
   rcases Xz m with h0|h0
   ·exact h0
   ·obtain⟨ad,h,_⟩:=hr h0;cases h
  subst hm;have hn:news=[]:=Cp (by simpa using hl);subst hn;exact⟨v,w,Qq P base t ty e i size ht hi v n xs bI q,by simpa using bI,⟨rfl,rfl,rfl,aY _,λ_ _ _=>rfl⟩, .inl rfl⟩
 ·have zj:∀j u,news[j]? =some u->w.cell? (ad.add j)=some u:=by
   intro j u hu;rcases Xz m with h0|h0
   ·subst h0;have hn:news=[]:=Cp (by simpa using hl);subst hn;simp at hu
   ·obtain⟨zJ,h,hc⟩:=hr h0;injection h with h;subst h;exact hc j u hu
  obtain⟨v',w',aV,h2,h3,_,h5⟩:=run_append_own_at (P:=P) w base t ty e i z size bytes ht hi hz sQ oe gM aR v n xs bI ad m q news hl zj h1 jI HY agV;refine⟨v',w',aV,h2,h3, ?_⟩;rcases h5 with h5|h5
  ·exact .inl h5
  ·refine .inr ⟨h5, ?_⟩;have m_:=bI;rcases bI.2 with⟨rfl,_⟩|⟨g,cap,cur,rfl,_,hg,qY,_,_,_⟩
   ·exact h3
   ·by_cases sR:n + m<=cap
    ·exfalso;have xn:n * i.size + news.length<=cur.size:=by
      have aw:cur.size=cap * size:=by
       rcases m_.2 with⟨hx,_⟩|⟨g2,anH,anF,he2,_,fk,_,_,mv,_⟩
       ·cases hx
       ·cases he2;rw[hg]at fk;cases fk;exact mv
      rw[hl,aw,sQ,<-ru];exact zQ _ sR
     have cV:=run_append_room (P:=P) w t ty e i ht hi g n cap cur hg ad m q news (by rw[sQ];exact hl) zj h1 sR xn;rw[cV]at aV;cases aV;have:g=w.heap.size:=by simpa[je]using h5
     have:=(bt.1 hg).1;omega
    ·have holds:∀j u,xs[j]? =some u->w.cell? ((⟨g,0,none⟩:Addr).add j)=some u:=m_.cells (g:=g) rfl;have cV:=run_append_grow (P:=P) w t ty e i z ht hi hz ⟨g,0,none⟩ n cap xs (by rw[sQ];exact m_.1) holds ad m q news (by rw[sQ];exact hl) zj ae
      (by simp only[maxLen]at jI;omega) (growslice_fits ae (by rw[oe];exact HY))
     rw[cV]at aV;cases aV;exact⟨rfl,rfl,rfl,by simp,λk hk _=>Below.heap_alloc w.drew _ k hk⟩
def bytesOf (P:Program)(t:TypeId):Nat:=((P.info? t).map (·.bytes)).getD 0
theorem Io (xs ys:List D):flat (xs++ys)=flat xs++flat ys:=by simp[flat]
theorem RG.append {r:Nat}{row:Row}{v vy:Value}{ys:List D}{t ty:TypeId}(h:RG c s a w g)(hr:s.rw[r]? =some row)(hl:row.live=true)(hv:g.ρ[r]? =some v)
  (hy:Rel w g vy (.list ys))(he:elemOf c.P t=some row.e)(po:aC c.P row.e=row.sz)(hz:aC c.P row.e≠0)(mW:(bL c.P row.e).isSome=true)
  (lg:∀y∈ys,y.cells.length=row.sz)(jI:row.xs.length + ys.length<=9223372036854775807)(HY:(row.xs.length + ys.length) * bytesOf c.P row.e<=140737488355328):
  ∃v' w' g',(wm #[t,t] ty #[v,vy]).run c.P w= .ok v' w'/\RG c (s.appended r ⟨true,row.e,row.sz,row.xs++ys⟩) a w' g'/\g'.ρ[r]? =some v':=by
 obtain⟨v0,e1,e2,e3⟩:=(h.rw r row hr).ex;rw[e1]at hv;cases hv
 obtain⟨⟨vals,bI⟩,fV,xw⟩:=e3 hl;obtain⟨A,cy,J5,uy,rfl,L1,n_,vk⟩:=hy.sP;obtain⟨zs,gM⟩:=Option.isSome_iff_exists.1 mW;have⟨i,z,hi,lq,jC,sY⟩:∃i z,c.P.info? row.e=some i/\i.zero=some z/\z.cells.size=row.sz/\i.size=row.sz:=by
  unfold bL at gM;split at gM
  ·rename_i i hi;split at gM
   ·rename_i z AW;split at gM
    ·rename_i hc;simp only[c_,beq_iff_eq]at hc;have:i.size=row.sz:=by rw[<-po];simp[aC,Program.cellsOf,hi]
     exact⟨i,z,hi,AW,by rw[hc.2,this],this⟩
    ·cases gM
   ·cases gM
  ·cases gM
 have Tp:0 < row.sz:=by rw[<-po];omega
 have rZ:=qq row.sz ys lg
 let news:=(ct (flat ys).length).map uy
 have bE:news.length=ys.length * row.sz:=by simp[news,rZ]
 have sV:0 < ys.length->∃ad,A=some ad/\∀j u,news[j]? =some u->w.cell? (ad.add j)=some u:=λkS=>by
  have h0:0 < (flat ys).length:=by rw[rZ];exact Nat.mul_pos kS Tp
  obtain⟨ad,rfl,_⟩:=n_ 0 h0;refine⟨ad,rfl,λj u hj=> ?_⟩;simp only[news,cO,cv]at hj;obtain⟨j',hj,rfl⟩:=hj;have dE:=(aQ.1 hj).1;have pz:=(aQ.1 hj).2;simp at dE pz;subst pz;obtain⟨zJ,e,hc,_⟩:=n_ j dE;cases e;exact hc
 have TT:∀u∈news,u.oneCell'=true:=λu hu=>by
  simp only[news,eJ,List.mem_range]at hu;obtain⟨j,hj,rfl⟩:=hu;obtain⟨_,_,_,_,h1⟩:=n_ j hj;exact h1
 obtain⟨v',w',aV,m_,jW,hblk⟩:=Qr (w:=w) c.P 0 t ty row.e i z row.sz (bytesOf c.P row.e) (mD he) hi lq sY (by simp[bytesOf,hi]) jC Tp
  v row.xs.length vals bI A ys.length cy news bE sV TT (by simp only[maxLen];exact jI) HY (Nat.zero_le _)
 have jn:vals.length=row.xs.length * row.sz:=bI.1;have eX:∀x,g.S x->w'.cell? x=w.cell? x:=λx hx=>by
  obtain⟨u,hu⟩:=h.ba x hx;have mX:=h.ba.lt hx;by_cases hb:v.ownBlock=some x.block
  ·
   have agh:=(xw _ hb).2 x hx rfl;have DS:x.spot=none:=by
    cases hs:x.spot with
    |none=>rfl
    |some q=>simp[qz,hs]at hu;split at hu<;>simp_all
   rcases hblk with cr|cr
   ·have hold:=bI.cells hb;have lj:=m_.cells (cr.trans hb);have aG:x.off < vals.length:=by rw[jn];exact agh
    have ex:(⟨x.block,0,none⟩:Addr).add x.off=x:=by rw[nt];cases x;simp_all
    have o1:=hold x.off _ (bS aG);have o2:=lj x.off vals[x.off] (by rw[bQ aG];exact bS aG);rw[ex]at o1 o2;rw[o1,o2]
   ·exact pJ (cr.2.block x.block mX aO)
  ·exact pJ (jW.block x.block mX (λe=>hb e.symm))
 obtain⟨κ,k1,k2⟩:=h.ap
 let S':Addr->Prop:=λx=>g.S x\/∃gb q,v'.ownBlock=some gb/\x=⟨gb,q,none⟩/\q < (row.xs.length + ys.length) * row.sz
 let g':Gh:=⟨S',g.β,g.ρ.set r v',g.M⟩
 have rR:r < g.ρ.length:=by rw[h.lρ];exact(aQ.1 hr).1
 have LH:g'.ρ[r]? =some v':=by simp[g',rR]
 have LI:∀(i:Nat) (b:Value),i≠r->g.ρ[i]? =some b->g'.ρ[i]? =some b:=λi b hi hb=>by
  simp only[g'];rw[gj (fq hi)];exact hb
 have afJ:∀(i:Nat) (b:Value),i≠r->g'.ρ[i]? =some b->g.ρ[i]? =some b:=λi b hi hb=>by
  simp only[g']at hb;rw[gj (fq hi)]at hb;exact hb
 have MI:∀x,g.S x->S' x:=λx hx=> .inl hx;have w_:(vals++news).length=(row.xs.length + ys.length) * row.sz:=m_.1;have Et:∀gb,v'.ownBlock=some gb->v.ownBlock=some gb\/(gb=w.heap.size/\w.grownBy w' none):=λgb aI=>by
  rcases hblk with e|⟨e,hn⟩
  ·exact .inl (e▸aI)
  ·rw[e]at aI;cases aI;exact .inr ⟨rfl,hn⟩
 have TC:∀gb,v'.ownBlock=some gb->c.own gb:=λgb aI=>by
  rcases Et gb aI with e|⟨e,_⟩
  ·exact(xw gb e).1
  ·rw[e];exact h.cu _ h.below.size
 have kg:∀{v:Value} {d:D},Rel w g v d->Rel w' g' v (gY r d):=λbw=>ada bw eX MI (λ_ _ h=>h) LI (λ_ _ h=>h);have Lu:fL w g.er w' g'.er:=⟨eX,MI,λi b h=>by simp[Gh.er]at h,λi b h=>by simp[Gh.er]at h,λ_ _ h=>h⟩;have px:∀x,S' x->∃u,w'.cell? x=some u:=λx hx=>by
  rcases hx with hx|⟨gb,q,aI,rfl,hq⟩
  ·obtain⟨u,hu⟩:=h.ba x hx;exact⟨u,(eX x hx).trans hu⟩
  ·have:=m_.cells aI q _ (bS (by rw[w_];exact hq));rw[nt,fK]at this;exact⟨_,this⟩
 have agn:Rel w' g' v' (.list (row.xs++ys)):=by
  have dw:∀x∈row.xs++ys,x.cells.length=row.sz:=λx hx=>by
   rcases fA.1 hx with hx|hx
   ·exact fV x hx
   ·exact lg x hx
  have fv:=qq row.sz _ dw;have ql:=qq row.sz row.xs fV;obtain⟨A0,c0,sz0,u0,mY,_,jG,A4⟩:=e2.sP;have agA:∃A' c',v'= .slice A' (row.xs++ys).length c'/\(row.xs++ys).length<=c'/\(0 < (flat (row.xs++ys)).length->∃gb,v'.ownBlock=some gb/\A'=some ⟨gb,0,none⟩):=by
   rcases m_.2 with⟨rfl,h0⟩|⟨gb,cap,cur,rfl,_,_,eO,_⟩
   ·refine⟨none,0,by rw[eQ,h0],by rw[eQ,h0];exact aY _,λhp=> ?_⟩;rw[fv,eQ,h0]at hp;simp at hp
   ·exact⟨some ⟨gb,0,none⟩,cap,by rw[eQ],by rw[eQ];exact eO,λ_=>⟨gb,rfl,rfl⟩⟩
  obtain⟨A',c',afP,agP,kS⟩:=agA;rw[afP];refine .list _ A' _ c' _ row.sz (λq=>(vals++news).getD q bp) rfl dw agP (λq hq=> ?_) (λq d hd=> ?_)
  ·obtain⟨gb,aI,rfl⟩:=kS ae;have dP:q < (vals++news).length:=by rw[w_,<-eQ,<-fv];exact hq
   have hc:=m_.cells aI q _ (bS dP);refine⟨_,rfl,by rw[hc,ic,bS dP];rfl, .inr ⟨gb,q,aI,by rw[nt,fK],by rw[w_]at dP;exact dP⟩, ?_⟩;rw[ic];rcases ft q vals.length with aG|iS
   ·rw[bQ aG];have sS:q < (flat row.xs).length:=by rw[ql,<-jn];exact aG
    obtain⟨xO,vH,td,_,h1⟩:=jG q sS;have iH:v.ownBlock=some xO.block:=by rw[mY,vH];rfl
    have ho:=bI.cells iH q _ (bS aG);have MF:xO=⟨xO.block,0,none⟩:=by
     rcases bI.2 with⟨hx,_⟩|⟨g2,_,_,hx,_⟩
     ·rw[mY,vH]at hx;cases hx
     ·rw[mY,vH]at hx;cases hx;rfl
    rw[<-MF]at ho;rw[ho]at td;rw[<-iA td]at h1;simpa[bS aG]using h1
   ·rw[dX iS];have rY:q - vals.length < news.length:=by rw[eQ]at dP;omega
    simp only[bS rY,e8];exact TT _ (List.getElem_mem _)
  ·rw[Io]at hd;have Hu:vals.length=(flat row.xs).length:=by rw[ql,jn]
   show Rel w' g'.er ((vals++news).getD q bp) d;rw[ic];rcases ft q vals.length with aG|iS
   ·rw[bQ (by rw[<-Hu];exact aG)]at hd;rw[bQ aG];obtain⟨xO,vH,td,_,_⟩:=jG q (by rw[<-Hu];exact aG);have iH:v.ownBlock=some xO.block:=by rw[mY,vH];rfl
    have ho:=bI.cells iH q _ (bS aG);have MF:xO=⟨xO.block,0,none⟩:=by
     rcases bI.2 with⟨hx,_⟩|⟨g2,_,_,hx,_⟩
     ·rw[mY,vH]at hx;cases hx
     ·rw[mY,vH]at hx;cases hx;rfl
    rw[<-MF]at ho;rw[ho]at td;have:=(A4 q d hd).aZ Lu;rw[<-iA td]at this;simpa[bS aG]using this
   ·rw[dX (by rw[<-Hu];exact iS),<-Hu]at hd;rw[dX iS];have rY:q - vals.length < (flat ys).length:=(aQ.1 hd).1;have:=(vk _ d hd).aZ Lu;simpa[news,rY]using this
 refine⟨v',w',g',aV, ?_,LH⟩;have HF:∀(i:Nat) (x:Bx),(s.bx.map (ij r))[i]? =some x->∃x0,s.bx[i]? =some x0/\x=ij r x0:=λi x hx=>by
  simp only[cO,cv]at hx;obtain⟨x0,h0,rfl⟩:=hx;exact⟨x0,h0,rfl⟩
 have D9:∀x:Bx,(ij r x).live=x.live:=λx=>by cases x<;>rfl
 have H0:∀(i:Nat) (x:Bx) (b:Nat),s.bx[i]? =some x->x.live=true->g.β[i]? =some b->v.ownBlock≠some b:=λi x b hi hx hb e=>by
  have q1:=k1 i x b hi hx hb;have q2:=k2 r row v b hr hl e1 e;rw[q1]at q2;cases q2
 have My:∀b,b < w.heap.size->v.ownBlock≠some b->w'.heap[b]? =w.heap[b]? :=λb hb bz=>jW.block b hb (λe=>bz e.symm);have UY:∀x,S' x->∀b,b < w.heap.size->v.ownBlock≠some b->x.block=b->g.S x:=λx hx b hb bz iQ=>by
  rcases hx with hx|⟨gb,q,aI,rfl,_⟩
  ·exact hx
  ·simp at iQ;subst iQ
   rcases Et gb aI with e|⟨e,_⟩
   ·exact absurd e bz
   ·omega
 refine⟨(h.df.aZ (λk o hk ho=>(jW.block k (bt.1 hk).1 (λe=>by
   rcases bI.2 with⟨rfl,_⟩|⟨g2,_,_,rfl,_,fk,_⟩
   ·simp[je]at e
   ·simp[je]at e;subst e;rw[fk]at hk;cases hk;cases ho)).trans hk) (λx hx=>eX x (h.S0 x hx))).gh rfl,h.sz,h.below.grown jW (λq hq=> .inl (h.pU hr hl e1 hq).2),h.cu,px,λx hx=> ?_,λx hx=> .inl (h.S0 x hx),h.fJ,by simp[St.appended,g',h.lβ],
  by simp[St.appended,g',h.lρ],λn=>kg (h.sl n), ?_, ?_, ?_, ?_,λi es hi=>by
   obtain⟨x0,gG,hx⟩:=HF i _ hi;cases x0 with
   |mp mC=>
    cases hx;obtain⟨b,hm⟩:=h.mp i es gG;refine⟨b, ?_⟩;have km:fL w g.mg w' g'.mg:=⟨eX,λ_ h=> .inl h,λ_ _ h=>h,λ_ _ h=>h,λ_ _ h=>h⟩;exact hm.Hk km (My b hm.lt (H0 i _ b gG rfl hm.β)) hm.nm
   |mu iy=>cases hx
   |fz iy=>cases hx
   |dead=>cases hx⟩
 ·rcases hx with hx|⟨gb,q,aI,rfl,_⟩
  ·exact h.en x hx
  ·exact .inr (TC gb aI)
 ·intro i cs hi;obtain⟨x0,gG,hx⟩:=HF i _ hi;cases x0 with
  |mu iy=>
   cases hx;obtain⟨b,vs,tb,f1,f2,f3,f4,f5,f6⟩:=(h.bx i iy gG).ex;have aG:b < w.heap.size:=(bt.1 f2).1;have bz:=H0 i _ b gG rfl f1;refine⟨b,vs,tb,f1,(My b aG bz).trans f2,⟨by simpa using f3.1,λq d hd=> ?_⟩,f4,λ_ x hx iQ=> ?_,λh=>by cases h⟩
   ·simp only[cO,cv]at hd;obtain⟨d0,i_,rfl⟩:=hd;exact⟨kg (f3.2 q d0 i_).1,(f3.2 q d0 i_).2⟩
   ·exact f5 rfl x (UY x hx b aG bz iQ) iQ
  |fz iy=>cases hx
  |mp mC=>cases hx
  |dead=>cases hx
 ·intro i cs hi;obtain⟨x0,gG,hx⟩:=HF i _ hi;cases x0 with
  |fz iy=>
   cases hx;obtain⟨b,vs,tb,f1,f2,f3,f4,f5,f6⟩:=(h.fz i cs gG).ex;have aG:b < w.heap.size:=(bt.1 f2).1;have bz:=H0 i _ b gG rfl f1;exact⟨b,vs,tb,f1,(My b aG bz).trans f2,f3.aZ Lu,f4,(λh=>by cases h),λ_ q hq=> .inl (f6 rfl q hq)⟩
  |mu iy=>cases hx
  |mp mC=>cases hx
  |dead=>cases hx
 ·intro r2 C5 cV;by_cases pq:r2=r
  ·subst pq;simp only[St.appended]at cV;rw[jg (aQ.1 hr).1]at cV;cases cV;refine⟨v',LH,agn,λ_=>⟨⟨vals++news,by simpa using m_⟩,λx hx=> ?_,λgb aI=>⟨?_,λx hx iQ=> ?_⟩⟩⟩
   ·rcases fA.1 hx with hx|hx
    ·exact fV x hx
    ·exact lg x hx
   ·exact TC gb aI
   ·simp only[eQ];rcases hx with hx|⟨gb',q,amP,rfl,hq⟩
    ·rcases Et gb aI with e|⟨e,_⟩
     ·have:=(xw gb e).2 x hx iQ;have:row.xs.length * row.sz<=(row.xs.length + ys.length) * row.sz:=zQ _ (Nat.le_add_right _ _);omega
     ·have:=h.ba.lt hx;omega
    ·exact hq
  ·simp only[St.appended]at cV;rw[gj (fq pq)]at cV;obtain⟨v2,f1,f2,f3⟩:=(h.rw r2 C5 cV).ex;refine⟨v2,LI _ _ pq f1,f2.SG eX MI (λ_ _ h=>h) LI (λ_ _ h=>h) rfl,λeN=> ?_⟩;obtain⟨⟨YN,vn⟩,Ms,UX⟩:=f3 eN;have TQ:∀gb,v2.ownBlock=some gb->v.ownBlock≠some gb:=λgb aI e=>by
    have q1:=k2 r2 C5 v2 gb cV eN f1 aI;have q2:=k2 r row v gb hr hl e1 e;rw[q1]at q2;injection q2 with q2;exact pq q2
   refine⟨⟨YN,vn.kept jW ?_⟩,Ms,λgb aI=>⟨(UX gb aI).1,λx hx iQ=> ?_⟩⟩
   ·cases ku:v2.ownBlock with
    |none=>exact .inl rfl
    |some gb=>exact .inr (λe=>TQ gb ku e.symm)
   ·exact(UX gb aI).2 x (UY x hx gb (vn.lt gb aI).2 (TQ gb aI) iQ) iQ
 ·refine⟨λb=>if v'.ownBlock=some b then .inr r else κ b,λi x b hi hx hb=> ?_,λr2 C5 v2 gb cV eN ku aI=> ?_⟩
  ·obtain⟨x0,gG,rfl⟩:=HF i _ hi;rw[D9]at hx;have aG:=(h.rk gG hx hb).1;have bz:=H0 i x0 b gG hx hb;simp only;rw[if_neg (λe=>by
    rcases Et b e with e|⟨e,_⟩
    ·exact bz e
    ·omega)]
   exact k1 i x0 b gG hx hb
  ·by_cases pq:r2=r
   ·subst pq;rw[LH]at ku;cases ku
    simp only;rw[if_pos aI]
   ·simp only[St.appended]at cV;rw[gj (fq pq)]at cV;have Tk:=afJ _ _ pq ku;have q1:=k2 r2 C5 v2 gb cV eN Tk aI;have aG:=(h.pU cV eN Tk aI).1;simp only;rw[if_neg (λe=>by
     rcases Et gb e with e|⟨e,_⟩
     ·have q2:=k2 r row v gb hr hl e1 e;rw[q1]at q2;injection q2 with q2;exact pq q2
     ·omega)]
    exact q1
end
end Go.Ab
end
section
namespace Go.Ab
open Go.RowKit
def mapOf (P:Program)(t:TypeId):Option (TypeId×TypeId):=match P.underlying t with|some (.map k e)=>some (k,e)|_=>none
def zeroV (P:Program)(t:TypeId):Option D:=match P.info? t with
 |some i=>match i.zero with
  |some (.agg vs)=>if vs.all (·.oneCell')then some (.agg (vs.toList.map vK))else none
  |some v=>some (vK v)
  |none=>none
 |none=>none
def vh:Bool->D->Option (List Int)
 |true, .agg cs=>jT cs
 |false, .int .i64 n=>some [n]
 |_,_=>none
structure yb (P:Program)(kt:TypeId)(ka:Bool)(n:Nat):Prop where
 check:∀(e:Bool) (xs:List Int) (w:World),xs.length=n->(FN e 10000 kt (eT ka xs)).run P w= .ok () w
 find:∀(xs:List Int) (es:List MapEntry) (w:World),xs.length=n->(∀e∈es,∃ys:List Int,ys.length=n/\e.key=eT ka ys)->
  ∃r,(FJ kt (eT ka xs) es).run P w= .ok r w/\((r=none/\∀e∈es,e.key≠eT ka xs)\/∃i e,es[i]? =some e/\e.key=eT ka xs/\r=some (i,e.val))
 inj:∀(xs ys:List Int),xs.length=n->ys.length=n->eT ka xs=eT ka ys->xs=ys
theorem J9 {P:Program}(ka:Bool)(xs:List Int)(w:World):(JD (eT ka xs) (eT ka xs)).run P w= .ok (eT ka xs) w:=by
 have:FG 10000 (eT ka xs) (eT ka xs)=true:=by
  cases ka with
  |false=>simp[eT,FG]
  |true=>
   simp only[eT,FG,c_,beq_self_eq_true,true_and];have:∀l:List Int,(((l.map (k7 .i64)).zip (l.map (k7 .i64))).all λ(x,y)=>FG 9999 x y)=true:=by
    intro l;induction l with
    |nil=>rfl
    |cons x l ih=>simp only[List.map_cons,List.zip_cons_cons,List.all_cons,ih,Bool.and_true];simp[FG]
   exact this xs
 simp[JD,this]
section
variable {c:Ctx} {s:St} {a:Act} {w:World} {g:Gh}
theorem Lt {ka:Bool}{v:Value}{d:D}{xs:List Int}(h:Rel w g v d)(hk:vh ka d=some xs):v=eT ka xs:=by
 cases ka<;>cases d<;>simp only[vh,reduceCtorEq]at hk
 ·rename_i k n;cases k<;>simp only[gE,reduceCtorEq]at hk
  subst hk;cases h;rfl
 ·obtain⟨vs,rfl,l1,r1⟩:=h.uF;rw[AS _ vs xs hk l1 (λq d hd=>(r1 q d hd).1)];rfl
theorem R7 (w:World)(g:Gh)(va:Bool)(xs:List Int):Rel w g (eT va xs) (Dm va xs):=by
 cases va with
 |false=>exact .int _ _ _
 |true=>
  refine .agg _ _ _ aO (λq hq=> ?_) (λq d hd=> ?_)
  ·have:q < xs.length:=by simpa using hq
   simp[this,Value.oneCell']
  ·simp only[cO,cv]at hd;obtain⟨x,hx,rfl⟩:=hd;have hl:=(aQ.1 hx).1;have he:=(aQ.1 hx).2;simp[hl,he];exact .int _ _ _
theorem QJ {va:Bool}{v:Value}{xs:List Int}(h:Rel w g v (Dm va xs)):v=eT va xs:=by
 cases va with
 |false=>cases h;rfl
 |true=>
  have h':Rel w g v (.agg (xs.map (D.int .i64))):=h;obtain⟨vs,rfl,l1,r1⟩:=h'.uF;have hi:∀l:List Int,jT (l.map (D.int .i64))=some l:=by
   intro l;induction l with
   |nil=>rfl
   |cons x l ih=>simp[jT,ih]
  rw[AS _ vs xs (hi xs) l1 (λq d hd=>(r1 q d hd).1)];rfl
theorem R6 (w:World)(g:Gh)(va:VK)(xs:List Int):Rel w g (ub va xs) (wQ va xs):=by
 cases va with
 |num=>exact R7 w g false xs
 |arr=>exact R7 w g true xs
 |yes=>exact .bool _ _
theorem acn {va:VK}{v:Value}{xs:List Int}(h:Rel w g v (wQ va xs)):v=ub va xs:=by
 cases va with
 |num=>exact QJ (va:=false) h
 |arr=>exact QJ (va:=true) h
 |yes=>cases h;rfl
theorem JO {P:Program}{t:TypeId}{d:D}(h:zeroV P t=some d)(w:World)(g:Gh):∃z,(zeroValue t).run P w= .ok z w/\Rel w g z d:=by
 unfold zeroV at h;split at h
 ·rename_i i hi;split at h
  ·rename_i vs hz;split at h
   ·rename_i dw;cases h;refine⟨.agg vs,by simp[zeroValue,typeInfo,hi,hz], .agg _ _ _ aO (λq hq=> ?_) (λq d hd=> ?_)⟩
    ·have dP:q < vs.size:=by simpa using hq
     have:=Array.all_eq_true.1 dw q dP;simpa[dP]using this
    ·simp only[cO,Array.getElem?_toList,cv]at hd;obtain⟨v,hv,rfl⟩:=hd;obtain⟨hl,he⟩:=bt.1 hv;simp[hl,he];exact GN _ _ _
   ·cases h
  ·rename_i v hz;cases h;exact⟨_,by simp[zeroValue,typeInfo,hi,hz],GN _ _ _⟩
  ·cases h
 ·cases h
theorem RG.aee {b:Nat}{m:eP}{es:Array MapEntry}{cl:Nat}(h:RG c s a w g)(hb:g.M b=some m)(kV:∀e∈es.toList,∃xs:List Int,xs.length=m.n/\e.key=eT m.ka xs/\e.val=ub m.va (m.f xs))(hdm:∀k∈m.uB,∃e∈es.toList,e.key=eT m.ka k)(hz:m.ka=false->m.n=0->es=#[]):
  RG c s a {w with heap:=w.heap.setIfInBounds b (.map es cl)} g:=by
 have hh:∀k,k≠b->(w.heap.setIfInBounds b (.map es cl))[k]? =w.heap[k]? :=λk hk=>by
  rw[yh,if_neg (fq hk)]
 obtain⟨mC,cl0,h1,_⟩:=h.df.bO b m hb;have aG:=(bt.1 h1).1;have od:Good {w with heap:=w.heap.setIfInBounds b (.map es cl)} g.S:=λx hx=>by
  obtain⟨u,hu⟩:=h.ba x hx;obtain⟨cs,t,fz,hc⟩:=tn hu;refine⟨u,(pJ (w:=w) (hh x.block (λe=> ?_))).trans hu⟩;rw[e,h1]at hc;cases hc
 refine h.grow (S':=g.S) (M':=g.M) ⟨⟨rfl,rfl,rfl,by simp,λk hk hn=>hh k (λe=>by subst e;rw[hb]at hn;exact hn aO)⟩,λ_ h=>h,λ_ h=> .inl h,λ_ _ h=>h,λ_ _ h=> .inl h,λb' m' cr=> ?_⟩ od;by_cases e:b'=b
 ·subst e;rw[hb]at cr;cases cr
  exact⟨es,cl,by simp[aG],kV,hdm,hz⟩
 ·obtain⟨pE,jb,gH,MT⟩:=h.df.bO b' m' cr;exact⟨pE,jb,(hh b' e).trans gH,MT⟩
theorem RG.aeg {m:eP}(h:RG c s a w g)(jG:m.uB=[]):∃M',RG c s a (w.alloc (.map #[] 0)) ⟨g.S,g.β,g.ρ,M'⟩/\M' w.heap.size=some m:=by
 have hb:=zI w (.map #[] 0);have lj:(w.alloc (.map #[] 0)).heap[w.heap.size]? =some (.map #[] 0):=zK w _;refine⟨λk=>if k=w.heap.size then some m else g.M k,h.grow ⟨.of hb,λ_ h=>h,λ_ h=> .inl h,λb f hf=> ?_,λb f hf=> ?_,λb f hf=> ?_⟩ (h.ba.below hb),by simp⟩
 ·have:b≠w.heap.size:=λe=>by
   subst e;obtain⟨_,_,h1,_⟩:=h.df.bO _ f hf;have:=(bt.1 h1).1;omega
  simp only[this,if_false];exact hf
 ·by_cases e:b=w.heap.size
  ·exact .inr ae
  ·simp only[e,if_false]at hf;exact .inl hf
 ·by_cases e:b=w.heap.size
  ·subst e;cases(by simpa using hf:m=f);exact⟨#[],0,lj,λe he=>by simp at he,(λk hk=>by rw[jG]at hk;cases hk),λ_ _=>rfl⟩
  ·simp only[e,if_false]at hf;obtain⟨es,cl,h1,h2⟩:=h.df.bO b f hf;exact⟨es,cl,(hb.block b (bt.1 h1).1).trans h1,h2⟩
def yr (P:Program)(t:TypeId)(x dk:D)(K:D->Prop):Prop:=match x with
 | .bM m=>a_ (mapOf P t) λke=>a_ (vh m.ka dk) λxs=>xs.length=m.n/\yb P ke.1 m.ka m.n/\a_ (zeroV P ke.2) λz=>K (.aF [wQ m.va (m.f xs), .bool true])/\(xs∉m.uB->K (.aF [z, .bool false]))
 |_=>False
def JZ (P:Program)(t:TypeId)(x dk:D)(K:D->Prop):Prop:=match x with
 | .bM m=>a_ (mapOf P t) λke=>a_ (vh m.ka dk) λxs=>xs.length=m.n/\yb P ke.1 m.ka m.n/\a_ (zeroV P ke.2) λz=>K (wQ m.va (m.f xs))/\(xs∉m.uB->K z)
 |_=>False
def yq (P:Program)(t:TypeId)(x dk dv:D)(K:Prop):Prop:=match x with
 | .bM m=>a_ (mapOf P t) λke=>a_ (vh m.ka dk) λxs=>xs.length=m.n/\yb P ke.1 m.ka m.n/\dv=wQ m.va (m.f xs)/\K
 |_=>False
theorem Dr {P:Program}{t k e:TypeId}(h:mapOf P t=some (k,e)):P.underlying t=some (.map k e):=by
 unfold mapOf at h;split at h<;>simp_all
theorem abA {o:Oper}{t:TypeId}{x y:Operand}{K:St->Prop}{Q:Exit->Act->World->Prop}(h:RG c s a w g)(ho:o.op= .lookup t x y true)(hd:bd s o.dst)
  (hk:yr c.P t (s.ev x) (s.ev y) λd=>K (s.put o.dst d)):o.wp c.P a w (λa' w'=>∃s',R c s' a' w'/\K s') Q:=by
 unfold yr at hk;split at hk
 ·rename_i m hx;obtain⟨⟨kt,e⟩,hm,hk⟩:=cM hk;obtain⟨xs,fV,hl,hK,hk⟩:=cM hk;obtain⟨z,hz,h1,h2⟩:=cM hk;have ek:=h.ev x;rw[hx]at ek;generalize hv:a.eval x=vx at ek;cases ek with
  |bM _ b _ hb=>
   obtain⟨es,cl,kV,dw,Bi,_⟩:=h.df.bO b m hb;have oc:=Lt (h.ev y) fV;obtain⟨r,hr,zl⟩:=hK.find xs es.toList w hl (λe he=>by obtain⟨ys,h1,h2,_⟩:=dw e he;exact⟨ys,h1,h2⟩);obtain⟨zv,fU,AV⟩:=JO hz w g;have hu:=Dr hm;have key:∀v d,(wc t (.map (some b)) (eT m.ka xs) true).run c.P w= .ok v w->Rel w g v d->K (s.put o.dst d)->o.wp c.P a w (λa' w'=>∃s',R c s' a' w'/\K s') Q:=λv d aV bw hk=>by
    have hex:(execOp a.eval o).run c.P w= .ok (.value v) w:=by
     simp[execOp,ho,hv,oc,aV]
    unfold fo;rw[hex];exact⟨_,⟨g,h.put hd bw⟩,hk⟩
   have nh:=λe=>hK.check e xs w hl;rcases zl with⟨rfl,y0⟩|⟨i,e0,xp,xi,rfl⟩
   ·refine key (.tuple #[zv, .bool false]) _ ?_ (.aF _ _ _ rfl (λq d hd=> ?_)) (h2 (λhh=>by obtain⟨e,he,hk⟩:=Bi xs hh;exact y0 e he hk))
    ·simp[wc,run_underlying hu,tz kV,nh,hr,fU]
    ·match q,hd with
     |0,hd=>cases hd;exact AV
     |1,hd=>cases hd;exact .bool _ _
   ·have A9:e0∈es.toList:=ey xp;obtain⟨ys,LO,DL,LN⟩:=dw e0 A9;have:ys=xs:=hK.inj ys xs LO hl (DL.symm.trans xi);subst this;refine key (.tuple #[e0.val, .bool true]) _ ?_ (.aF _ _ _ rfl (λq d hd=> ?_)) h1
    ·simp[wc,run_underlying hu,tz kV,nh,hr]
    ·match q,hd with
     |0,hd=>cases hd;rw[show(#[e0.val,Value.bool true]:Array Value).getD 0 bp=e0.val from rfl,LN];exact R6 _ _ _ _
     |1,hd=>cases hd;exact .bool _ _
 ·exact hk.elim
theorem abz {o:Oper}{t:TypeId}{x y:Operand}{K:St->Prop}{Q:Exit->Act->World->Prop}(h:RG c s a w g)(ho:o.op= .lookup t x y false)(hd:bd s o.dst)
  (hk:JZ c.P t (s.ev x) (s.ev y) λd=>K (s.put o.dst d)):o.wp c.P a w (λa' w'=>∃s',R c s' a' w'/\K s') Q:=by
 unfold JZ at hk;split at hk
 ·rename_i m hx;obtain⟨⟨kt,e⟩,hm,hk⟩:=cM hk;obtain⟨xs,fV,hl,hK,hk⟩:=cM hk;obtain⟨z,hz,h1,h2⟩:=cM hk;have ek:=h.ev x;rw[hx]at ek;generalize hv:a.eval x=vx at ek;cases ek with
  |bM _ b _ hb=>
   obtain⟨es,cl,kV,dw,Bi,_⟩:=h.df.bO b m hb;have oc:=Lt (h.ev y) fV;obtain⟨r,hr,zl⟩:=hK.find xs es.toList w hl (λe he=>by obtain⟨ys,h1,h2,_⟩:=dw e he;exact⟨ys,h1,h2⟩);obtain⟨zv,fU,AV⟩:=JO hz w g;have hu:=Dr hm;have key:∀v d,(wc t (.map (some b)) (eT m.ka xs) false).run c.P w= .ok v w->Rel w g v d->K (s.put o.dst d)->o.wp c.P a w (λa' w'=>∃s',R c s' a' w'/\K s') Q:=λv d aV bw hk=>by
    have hex:(execOp a.eval o).run c.P w= .ok (.value v) w:=by
     simp[execOp,ho,hv,oc,aV]
    unfold fo;rw[hex];exact⟨_,⟨g,h.put hd bw⟩,hk⟩
   have nh:=λe=>hK.check e xs w hl;rcases zl with⟨rfl,y0⟩|⟨i,e0,xp,xi,rfl⟩
   ·refine key zv _ ?_ AV (h2 (λhh=>by obtain⟨e,he,hk⟩:=Bi xs hh;exact y0 e he hk));simp[wc,run_underlying hu,tz kV,nh,hr,fU]
   ·have A9:e0∈es.toList:=ey xp;obtain⟨ys,LO,DL,LN⟩:=dw e0 A9;have:ys=xs:=hK.inj ys xs LO hl (DL.symm.trans xi);subst this;refine key e0.val _ ?_ (by rw[LN];exact R6 _ _ _ _) h1;simp[wc,run_underlying hu,tz kV,nh,hr]
 ·exact hk.elim
theorem abw {o:Oper}{t:TypeId}{x y z:Operand}{K:St->Prop}{Q:Exit->Act->World->Prop}(h:RG c s a w g)(ho:o.op= .mapUpdate t x y z)(hd:o.dst=none)
  (hk:yq c.P t (s.ev x) (s.ev y) (s.ev z) (K s)):o.wp c.P a w (λa' w'=>∃s',R c s' a' w'/\K s') Q:=by
 unfold yq at hk;split at hk
 ·rename_i m hx;obtain⟨⟨kt,e⟩,hm,hk⟩:=cM hk;obtain⟨xs,fV,hl,hK,hdv,hk⟩:=cM hk;have ek:=h.ev x;rw[hx]at ek;generalize hv:a.eval x=vx at ek;cases ek with
  |bM _ b _ hb=>
   obtain⟨es,cl,kV,dw,Bi,_⟩:=h.df.bO b m hb;have oc:=Lt (h.ev y) fV;have hzv:a.eval z=ub m.va (m.f xs):=acn (hdv▸h.ev z);obtain⟨r,hr,zl⟩:=hK.find xs es.toList w hl (λe he=>by obtain⟨ys,h1,h2,_⟩:=dw e he;exact⟨ys,h1,h2⟩);have hu:=Dr hm;have nh:=λe=>hK.check e xs w hl;have key:∀pE jb,(FH t (.map (some b)) (eT m.ka xs) (ub m.va (m.f xs))).run c.P w= .ok () {w with heap:=w.heap.setIfInBounds b (.map pE jb)}->
     (∀e∈pE.toList,∃xs:List Int,xs.length=m.n/\e.key=eT m.ka xs/\e.val=ub m.va (m.f xs))->(∀k∈m.uB,∃e∈pE.toList,e.key=eT m.ka k)->o.wp c.P a w (λa' w'=>∃s',R c s' a' w'/\K s') Q:=λpE jb aV agE agK=>by
    have hex:(execOp a.eval o).run c.P w= .ok .skip {w with heap:=w.heap.setIfInBounds b (.map pE jb)}:=by
     simp[execOp,ho,hv,oc,hzv,aV]
    unfold fo;rw[hex];refine⟨s,⟨g, ?_⟩,hk⟩;have:=h.aee (cl:=jb) hb agE agK (λh1 h2=>by
     exfalso;rw[h1]at fV;rw[h2]at hl;obtain rfl:=Cn.1 hl;unfold vh at fV;split at fV<;>simp_all)
    rw[hd];exact this
   rcases zl with⟨rfl,y0⟩|⟨i,e0,xp,xi,rfl⟩
   ·refine key (es.push {key:=eT m.ka xs,val:=ub m.va (m.f xs),born:=cl}) (cl + 1) ?_ (λe he=> ?_) (λk hk=>by obtain⟨e,he,hk⟩:=Bi k hk;exact⟨e,by simp only[XT,fA];exact .inl he,hk⟩)
    ·simp[FH,run_underlying hu,tz kV,nh,hr,OK _ kV]
    ·simp only[XT,fA,List.mem_singleton]at he;rcases he with he|rfl
     ·exact dw e he
     ·exact⟨xs,hl,rfl,rfl⟩
   ·have hi:es[i]? =some e0:=by simpa using xp
    have aM:=J9 (P:=c.P) m.ka xs w;refine key (es.modify i λe=>{e with key:=eT m.ka xs,val:=ub m.va (m.f xs)}) cl ?_ (λe he=> ?_) (λk hk=>by
     obtain⟨e,he,hk⟩:=Bi k hk;obtain⟨q,hq,rfl⟩:=zV he;have dP:q < es.size:=by simpa using hq
     refine⟨(es.modify i λe=>{e with key:=eT m.ka xs,val:=ub m.va (m.f xs)})[q]'(by simpa using dP),Cx.2 (Array.getElem_mem _), ?_⟩
     simp only[alX];split
     ·rename_i e;subst e
      have:es.toList[i]=e0:=by have:=(aQ.1 xp).2;exact this
      rw[<-hk,this,xi]
     ·simpa using hk)
    ·simp[FH,run_underlying hu,tz kV,nh,hr,hi,xi,aM,OK _ kV]
    ·obtain⟨q,hq,rfl⟩:=zV he;have dP:q < es.size:=by simpa using hq
     simp only[Array.getElem_toList,alX];split
     ·exact⟨xs,hl,rfl,rfl⟩
     ·exact dw _ aO
 ·exact hk.elim
theorem Ql {o:Oper}{t:TypeId}{K:St->Prop}{Q:Exit->Act->World->Prop}(h:RG c s a w g)(ho:o.op= .makeMap t none)(hd:bd s o.dst)
  (hk:∃m:eP,m.uB=[]/\K (s.put o.dst (.bM m))):o.wp c.P a w (λa' w'=>∃s',R c s' a' w'/\K s') Q:=by
 obtain⟨m,jG,hk⟩:=hk;obtain⟨M',h',hM⟩:=h.aeg (m:=m) jG;have hex:(execOp a.eval o).run c.P w= .ok (.value (.map (some w.heap.size))) (w.alloc (.map #[] 0)):=by
  simp[execOp,ho,Instr.makeMap]
 unfold fo;rw[hex];exact⟨_,⟨_,h'.put hd (.bM _ _ _ hM)⟩,hk⟩
end
end Go.Ab
end
section
namespace Go.Ab
open Go.RowKit
mutual
def cq (nb nr:Nat):D->Bool
 | .agg cs=>bN nb nr cs
 | .aF cs=>bN nb nr cs
 | .ag _ cs=>bN nb nr cs
 | .cL _ cs=>bN nb nr cs
 | .box i _=>decide (i < nb)
 | .own r=>decide (r < nr)
 | .aN i _ _ _=>decide (i < nb)
 | .bu i=>decide (i < nb)
 |_=>true
def bN (nb nr:Nat):List D->Bool
 |[]=>true
 |d::ds=>cq nb nr d&&bN nb nr ds
end
mutual
theorem t_ {nb nr:Nat}:∀(d:D),cq nb nr d=true->Names nb nr d
 | .undef,_=> .undef
 | .int _ _,_=> .int _ _
 | .bool _,_=> .bool _
 | .str _,_=> .str _
 | .list _,_=> .list _
 | .agg cs,h=> .agg _ (yJ cs (by simpa[cq]using h))
 | .aF cs,h=> .aF _ (yJ cs (by simpa[cq]using h))
 | .box _ _,h=> .box _ _ (by simpa[cq]using h)
 | .ro _,_=> .ro _
 | .own _,h=> .own _ (by simpa[cq]using h)
 | .ag _ cs,h=> .ag _ _ (yJ cs (by simpa[cq]using h))
 | .val _,_=> .val _
 | .bM _,_=> .bM _
 | .skp,_=> .skp
 | .any,_=> .any
 | .bu _,h=> .bu _ (by simpa[cq]using h)
 | .cL _ cs,h=> .cL _ _ (yJ cs (by simpa[cq]using h))
 | .aN _ _ _ _,h=> .aN _ _ _ _ (by simpa[cq]using h)
theorem yJ {nb nr:Nat}:∀(ds:List D),bN nb nr ds=true->∀d∈ds,Names nb nr d
 |[],_=>λd hd=>by cases hd
 |x::ds,h=>by
  have h':cq nb nr x=true/\bN nb nr ds=true:=by simpa[bN]using h
  exact List.forall_mem_cons.2 ⟨t_ x h'.1,yJ ds h'.2⟩
end
inductive sy where|num|str|arr (n:Nat)
 deriving DecidableEq
def sy.is:sy->Value->Prop
 | .num,v=>∃n:Int,v= .int .i64 n
 | .str,v=>∃s:ByteArray,v= .string s
 | .arr n,v=>∃xs:List Int,xs.length=n/\v=eT true xs
def jB:D->Option sy
 | .int .i64 _=>some .num
 | .str _=>some .str
 | .agg cs=>(jT cs).map λxs=> .arr xs.length
 |_=>none
def gL:D->Value
 | .int .i64 n=> .int .i64 n
 | .str s=> .string s
 | .agg cs=>eT true ((jT cs).getD [])
 |_=>bp
def wV:List D->List D->Bool
 |[],[]=>true
 | .int .i64 a::as, .int .i64 b::bs=>decide (a=b)&&wV as bs
 |_,_=>false
def jl:D->D->Bool
 | .int .i64 a, .int .i64 b=>decide (a=b)
 | .str a, .str b=>a.toList == b.toList
 | .agg a, .agg b=>wV a b
 |_,_=>false
def kR (k:D):List (D×D)->Option D
 |[]=>none
 |p::es=>bif jl p.1 k then some p.2 else kR k es
def nP (k v:D):List (D×D)->List (D×D)
 |[]=>[(k,v)]
 |p::es=>bif jl p.1 k then(k,v)::es else p::nP k v es
structure z6 (P:Program)(kt:TypeId)(sh:sy):Prop where
 check:∀(e:Bool) (v:Value) (w:World),sh.is v->(FN e 10000 kt v).run P w= .ok () w
 find:∀(v:Value) (es:List MapEntry) (w:World),sh.is v->(∀e∈es,sh.is e.key)->
  ∃r,(FJ kt v es).run P w= .ok r w/\((r=none/\∀e∈es,e.key≠v)\/∃i e,es[i]? =some e/\e.key=v/\r=some (i,e.val))
theorem aeM {P:Program}{kt:TypeId}(h:yb P kt false 1):z6 P kt .num where
 check e v w hv:=by obtain⟨n,rfl⟩:=hv;exact h.check e [n] w rfl
 find v es w hv he:=by
  obtain⟨n,rfl⟩:=hv;exact h.find [n] es w rfl (λe hm=>by obtain⟨m,hm⟩:=he e hm;exact⟨[m],rfl,hm⟩)
theorem N2 (s t:ByteArray):(s == t)=decide (s=t):=by
 obtain⟨a⟩:=s;obtain⟨b⟩:=t;have h:((⟨a⟩:ByteArray) == ⟨b⟩)=(a == b):=rfl;rw[h];by_cases e:a=b
 ·subst e;simp
 ·have:¬(ByteArray.mk a=ByteArray.mk b):=λh=>e (by injection h);simp[e,this]
theorem akQ {a b:ByteArray}:a.toList=b.toList↔a=b:=by
 constructor
 ·intro h;rw[ByteArray.toList_eq,ByteArray.toList_eq]at h;obtain⟨a⟩:=a;obtain⟨b⟩:=b;simp only at h;rw[Array.toList_inj.1 h]
 ·rintro rfl;rfl
theorem Vq (s:ByteArray):∀(es:List MapEntry) (i0:Nat),(∀e∈es,sy.str.is e.key)->
  ∃r,FI .string (.string s) es i0=some r/\((r=none/\∀e∈es,e.key≠ .string s)\/∃i e,es[i]? =some e/\e.key= .string s/\r=some (i0 + i,e.val))
 |[],i0,_=>⟨none,rfl, .inl ⟨rfl,λe he=>by cases he⟩⟩
 |e::es,i0,h=>by
  obtain⟨t,ht⟩:=h e (dI ..);by_cases hs:s=t
  ·subst hs;exact⟨some (i0,e.val),by simp[FI,OT,ht,N2], .inr ⟨0,e,rfl,ht,rfl⟩⟩
  ·obtain⟨r,h1,h2⟩:=Vq s es (i0 + 1) (λe he=>h e (dW _ he));refine⟨r,by simp[FI,OT,ht,hs,h1,N2], ?_⟩;rcases h2 with⟨h2,h3⟩|⟨i,e',h3,h4,h5⟩
   ·exact .inl ⟨h2,λe' r7=>by
     rcases eK.1 r7 with rfl|r7
     ·rw[ht];intro hh;injection hh with hh;exact hs hh.symm
     ·exact h3 e' r7⟩
   ·exact .inr ⟨i + 1,e',by simpa using h3,h4,by rw[h5];congr 2;omega⟩
theorem aeK {P:Program}{kt:TypeId}(h:P.underlying kt=some .string):z6 P kt .str where
 check e v w hv:=by
  obtain⟨s,rfl⟩:=hv
  suffices hh:∀d,(FN e (d + 1) kt (.string s)).run P w= .ok () w from hh 9999
  intro d;rw[FN];simp[run_underlying h]
 find v es w hv he:=by
  obtain⟨s,rfl⟩:=hv;obtain⟨r,h1,h2⟩:=Vq s es 0 he;refine⟨r,by simp[FJ,run_underlying h,h1], ?_⟩;rcases h2 with h2|⟨i,e,h3,h4,h5⟩
  ·exact .inl h2
  ·exact .inr ⟨i,e,h3,h4,by simpa using h5⟩
theorem aeL {P:Program}{sh:sy}{v:Value}(w:World)(h:sh.is v):(JD v v).run P w= .ok v w:=by
 cases sh with
 |num=>obtain⟨n,rfl⟩:=h;exact J9 false [n] w
 |str=>obtain⟨s,rfl⟩:=h;simp[JD,FG,N2]
 |arr n=>obtain⟨xs,_,rfl⟩:=h;exact J9 true xs w
theorem DI {d:D}{cs:List D}{xs:List Int}(h:jT (d::cs)=some xs):∃n ys,d= .int .i64 n/\jT cs=some ys/\xs=n::ys:=by
 unfold jT at h;split at h
 ·rename_i e;cases e
 ·rename_i n cm e;injection e with e1 e2;subst e1;subst e2
  obtain⟨ys,h1,h2⟩:=cv.1 h;exact⟨n,ys,rfl,h1,h2.symm⟩
 ·cases h
theorem SK:∀{as bs:List D} {xs ys:List Int},jT as=some xs->jT bs=some ys->(wV as bs=true↔xs=ys)
 |[],[],xs,ys,h1,h2=>by simp only[jT,gE]at h1 h2;subst h1;subst h2;simp[wV]
 |[],b::bs,xs,ys,h1,h2=>by
  obtain⟨n,zs,rfl,h3,rfl⟩:=DI h2;simp only[jT,gE]at h1;subst h1;simp[wV]
 |a::as,[],xs,ys,h1,h2=>by
  obtain⟨n,zs,rfl,h3,rfl⟩:=DI h1;simp only[jT,gE]at h2;subst h2;simp[wV]
 |a::as,b::bs,xs,ys,h1,h2=>by
  obtain⟨n,zs,rfl,h3,rfl⟩:=DI h1;obtain⟨m,zs',rfl,h4,rfl⟩:=DI h2;simp[wV,SK h3 h4]
theorem aeb {xs ys:List Int}(h:eT true xs=eT true ys):xs=ys:=by
 have h':(xs.map (k7 .i64)).toArray=(ys.map (k7 .i64)).toArray:=by simpa[eT]using h
 have:=congrArg Array.toList h';simp only at this;exact(List.map_inj_right (λa b h=>by cases h;rfl)).1 this
theorem Dz {d:D}{sh:sy}(h:jB d=some sh):(∃n,d= .int .i64 n/\sh= .num)\/(∃s,d= .str s/\sh= .str)\/∃cs xs,d= .agg cs/\jT cs=some xs/\sh= .arr xs.length:=by
 unfold jB at h;split at h
 ·cases h;exact .inl ⟨_,rfl,rfl⟩
 ·cases h;exact .inr (.inl ⟨_,rfl,rfl⟩)
 ·rename_i cs;obtain⟨xs,h1,h2⟩:=cv.1 h;exact .inr (.inr ⟨cs,xs,rfl,h1,h2.symm⟩)
 ·cases h
theorem Dy {d:D}{sh:sy}(h:jB d=some sh):sh.is (gL d):=by
 rcases Dz h with⟨n,rfl,rfl⟩|⟨s,rfl,rfl⟩|⟨cs,xs,rfl,h1,rfl⟩
 ·exact⟨n,rfl⟩
 ·exact⟨s,rfl⟩
 ·exact⟨xs,rfl,by simp[gL,h1]⟩
theorem DG {a b:D}{sh:sy}(ha:jB a=some sh)(hb:jB b=some sh):jl a b=true↔gL a=gL b:=by
 rcases Dz ha with⟨n,rfl,rfl⟩|⟨s,rfl,rfl⟩|⟨cs,xs,rfl,h1,rfl⟩<;>rcases Dz hb with⟨m,rfl,e⟩|⟨t,rfl,e⟩|⟨ds,ys,rfl,h2,e⟩<;>first|(cases e;done)|skip
 ·simp[jl,gL]
 ·simp[jl,gL,akQ]
 ·simp only[jl,SK h1 h2,gL,h1,h2,e8];exact⟨λe=>by rw[e],aeb⟩
section
variable {c:Ctx} {s:St} {a:Act} {w:World} {g:Gh}
theorem aeO (w:World)(g:Gh):fL w g.mg w g:=⟨λ_ _=>rfl,λ_ h=>h,λ_ _ h=>h,λi b h=>by simp[Gh.mg]at h,λ_ _ h=>h⟩
theorem Hl {v:Value}{d:D}{sh:sy}(h:Rel w g v d)(hk:jB d=some sh):v=gL d:=by
 rcases Dz hk with⟨n,rfl,rfl⟩|⟨s,rfl,rfl⟩|⟨cs,xs,rfl,h1,rfl⟩
 ·cases h;rfl
 ·cases h;rfl
 ·obtain⟨vs,rfl,l1,r1⟩:=h.uF;rw[AS _ vs xs h1 l1 (λq d hd=>(r1 q d hd).1)];simp[gL,h1,eT]
theorem Rel.RN {v:Value}{d:D}(h:Rel w g v d)(hn:cq g.β.length 0 d=true):Rel w g.mg v d:=by
 have:=h.cut (nb:=g.β.length) (nr:=0) (t_ d hn);rw[List.take_length,List.take_zero]at this;exact this
theorem Ext.Hk {w':World}{b:Nat}(h:Ext c a w g){ms:Array MapEntry}{cl:Nat}(hb:w.heap[b]? =some (.map ms cl))(hn:g.M b=none)(hk:∀(k:Nat),k≠b->w'.heap[k]? =w.heap[k]?)(hs:∀x,c.S0 x->w'.cell? x=w.cell? x):Ext c a w' g where
 cN:=⟨h.cN.1,λd hd=>by
  obtain⟨D,hB,e,hD⟩:=h.cN.2 d hd;exact⟨D,hB,e,(hk D (λe=>by subst e;rw[hb]at hD;cases hD)).trans hD⟩⟩
 bO b' f hf:=by
  obtain⟨es,cl,h1,h2⟩:=h.bO b' f hf;exact⟨es,cl,(hk b' (λe=>by subst e;rw[hn]at hf;cases hf)).trans h1,h2⟩
 m0:=h.m0
 gw:=h.gw
 gD:=h.gD
 jA x hx:=(hs x hx).trans (h.jA x hx)
 fD:=h.fD
theorem RG.ael {i b:Nat}{es pE:List (D×D)}{ms kq:Array MapEntry}{cl jb:Nat}(h:RG c s a w g)(hi:s.bx[i]? =some (.mp es))(hm:oP c w g i b es)(h1:w.heap[b]? =some (.map ms cl))
  (hl:kq.size=pE.length)(hr:∀(q:Nat) (p:D×D) (m:MapEntry),pE[q]? =some p->kq[q]? =some m->Rel w g.mg m.key p.1/\Rel w g.mg m.val p.2)
  (hd:(∀(p q:Nat) (m m':MapEntry),kq[p]? =some m->kq[q]? =some m'->m.key=m'.key->p=q)/\∀m∈kq.toList,m.born < jb):
  RG c {s with bx:=s.bx.set i (.mp pE)} a {w with heap:=w.heap.setIfInBounds b (.map kq jb)} g:=by
 have e1:=hm.β;have vE:=hm.lt;generalize hw:({w with heap:=w.heap.setIfInBounds b (.map kq jb)}:World)=w';have hh:∀k,k≠b->w'.heap[k]? =w.heap[k]? :=λk hk=>by
  rw[<-hw];show(w.heap.setIfInBounds b (.map kq jb))[k]? =_;rw[yh,if_neg (fq hk)]
 have iZ:w'.heap[b]? =some (.map kq jb):=by
  rw[<-hw];show(w.heap.setIfInBounds b (.map kq jb))[b]? =_;simp[vE]
 have jW:w.grownBy w' (some b):=⟨by rw[<-hw],by rw[<-hw],by rw[<-hw],by rw[<-hw];simp,λk _ hk=>hh k (λe=>hk (by rw[e]))⟩;have bz:∀x,g.S x->x.block≠b:=λx hx e=>by
  obtain⟨u,hu⟩:=h.ba x hx;obtain⟨cs,t,fz,hc⟩:=tn hu;rw[e,h1]at hc;cases hc
 have eX:∀x:Addr,x.block≠b->w'.cell? x=w.cell? x:=λx iQ=>pJ (hh x.block iQ);have k:fL w g w' g:=⟨λx hx=>eX x (bz x hx),λ_ h=>h,λ_ _ h=>h,λ_ _ h=>h,λ_ _ h=>h⟩;have eg:i < s.bx.length:=(aQ.1 hi).1;obtain⟨κ,k1,k2⟩:=h.ap;have hκ:κ b= .inl i:=k1 i _ b hi rfl e1;have hold:∀(j:Nat) (x:Bx),(s.bx.set i (.mp pE))[j]? =some x->(j=i/\x= .mp pE)\/(j≠i/\s.bx[j]? =some x):=λj x hj=>by
  by_cases bF:j=i
  ·subst bF;rw[jg eg]at hj;exact .inl ⟨rfl,(iA hj).symm⟩
  ·rw[gj (fq bF)]at hj;exact .inr ⟨bF,hj⟩
 have yZ:∀(j:Nat) (x:Bx) (b':Nat),j≠i->s.bx[j]? =some x->x.live=true->g.β[j]? =some b'->b'≠b:=λj x b' bF hj hl cr e=>by
  subst e;have:=k1 j x _ hj hl cr;rw[hκ]at this;injection this with this;exact bF this.symm
 refine⟨h.df.Hk h1 hm.nm hh (λx hx=>k.cell x (h.S0 x hx)),h.sz, ?_,h.cu,λx hx=> ?_,h.en,h.S0,h.fJ,by simp[h.lβ],h.lρ,λn=>(h.sl n).aZ k, ?_, ?_, ?_, ?_,λj es2 hj=> ?_⟩
 ·exact h.below.grown jW (λq hq=>by cases hq;exact .inl hm.own)
 ·obtain⟨u,hu⟩:=h.ba x hx;exact⟨u,(k.cell x hx).trans hu⟩
 ·intro j bR hj;rcases hold j _ hj with⟨rfl,e⟩|⟨bF,hj⟩
  ·cases e
  ·obtain⟨b',ie,t',f1,f2,f3,f4,f5,f6⟩:=(h.bx j bR hj).ex;exact⟨b',ie,t',f1,(hh b' (yZ j _ b' bF hj rfl f1)).trans f2,f3.aZ k,f4,f5,f6⟩
 ·intro j bR hj;rcases hold j _ hj with⟨rfl,e⟩|⟨bF,hj⟩
  ·cases e
  ·obtain⟨b',ie,t',f1,f2,f3,f4,f5,f6⟩:=(h.fz j bR hj).ex;exact⟨b',ie,t',f1,(hh b' (yZ j _ b' bF hj rfl f1)).trans f2,f3.aZ k.er,f4,f5,f6⟩
 ·intro r row hr;obtain⟨v,f1,f2,f3⟩:=(h.rw r row hr).ex;refine⟨v,f1,f2.aZ k,λhl=> ?_⟩;obtain⟨⟨vals,bI⟩,bf,hS⟩:=f3 hl;refine⟨⟨vals,bI.kept jW ?_⟩,bf,hS⟩;right;intro e;have:=k2 r row v b hr hl f1 e;rw[hκ]at this;cases this
 ·refine⟨κ,λj x b' hj hx cr=> ?_,k2⟩;rcases hold j _ hj with⟨rfl,e⟩|⟨bF,hj⟩
  ·rw[e1]at cr;cases cr;exact hκ
  ·exact k1 j x b' hj hx cr
 ·rcases hold j _ hj with⟨rfl,e⟩|⟨bF,hj⟩
  ·cases e;refine⟨b,e1,⟨kq,jb,iZ,hl,λq p m hp hq=>⟨(hr q p m hp hq).1.aZ k.mg,(hr q p m hp hq).2.aZ k.mg⟩⟩,hm.nm,hm.own,λms2 cl2 h2=> ?_⟩;rw[iZ]at h2;cases h2
   exact hd
  ·obtain⟨b2,h_⟩:=h.mp j es2 hj;exact⟨b2,h_.aZ k (hh b2 (yZ j _ b2 bF hj rfl h_.β)) h_.nm⟩
theorem RG.allocMap (h:RG c s a w g):RG c {s with bx:=s.bx++[.mp []]} a (w.alloc (.map #[] 0)) ⟨g.S,g.β++[w.heap.size],g.ρ,g.M⟩:=by
 have hb:=zI w (.map #[] 0);have hw:=h.world hb (λ_ h=>h) (λ_ h=> .inl h) (h.ba.below hb);have k:fL (w.alloc (.map #[] 0)) ⟨g.S,g.β,g.ρ,g.M⟩ (w.alloc (.map #[] 0)) ⟨g.S,g.β++[w.heap.size],g.ρ,g.M⟩:=
  ⟨λ_ _=>rfl,λ_ h=>h,λi b hi=>by rw[bQ (aQ.1 hi).1];exact hi,λ_ _ h=>h,λ_ _ h=>h⟩
 have lj:(w.alloc (.map #[] 0)).heap[w.heap.size]? =some (.map #[] 0):=zK w _;have hold:∀(i:Nat) (x:Bx),(s.bx++[Bx.mp []])[i]? =some x->s.bx[i]? =some x/\i < s.bx.length\/x= .mp []/\i=s.bx.length:=λi x hi=>by
  rcases ft i s.bx.length with aG|iS
  ·rw[bQ aG]at hi;exact .inl ⟨hi,aG⟩
  ·rw[dX iS]at hi;have:i - s.bx.length=0:=by have:=(aQ.1 hi).1;simp at this;omega
   rw[this]at hi;simp at hi;exact .inr ⟨hi.symm,ae⟩
 have hβ:∀i,i < s.bx.length->∀b,(g.β++[w.heap.size])[i]? =some b->g.β[i]? =some b:=λi hi b hb=>by
  rw[bQ (by rw[h.lβ];exact hi)]at hb;exact hb
 have wW:(g.β++[w.heap.size])[s.bx.length]? =some w.heap.size:=by rw[<-h.lβ];simp
 have hM:g.M w.heap.size=none:=by
  cases hm:g.M w.heap.size with
  |none=>rfl
  |some f=>
   obtain⟨es,cl,h1,_⟩:=h.df.bO _ f hm;have:=(bt.1 h1).1;omega
 refine⟨hw.df.gh rfl (λi b _ hi=>by show(g.β++[w.heap.size])[i]? =some b;rw[bQ (aQ.1 hi).1];exact hi),hw.sz,hw.below,hw.cu,hw.ba,hw.en,hw.S0,hw.fJ,by simp[h.lβ],hw.lρ,λn=>(hw.sl n).aZ k, ?_, ?_, ?_, ?_,λi es hi=> ?_⟩
 ·intro i ds hi;rcases hold i _ hi with⟨hi,hl⟩|⟨e,rfl⟩
  ·obtain⟨b,ie,t',e1,e2,e3,e4,e5,e6⟩:=(hw.bx i ds hi).ex;exact⟨b,ie,t',k.β _ _ e1,e2,e3.aZ k,e4,e5,e6⟩
  ·cases e
 ·intro i ds hi;rcases hold i _ hi with⟨hi,hl⟩|⟨e,rfl⟩
  ·obtain⟨b,ie,t',e1,e2,e3,e4,e5,e6⟩:=(hw.fz i ds hi).ex;exact⟨b,ie,t',k.β _ _ e1,e2,e3,e4,e5,e6⟩
  ·cases e
 ·intro r row hr;obtain⟨v,e1,e2,e3⟩:=(hw.rw r row hr).ex;exact⟨v,e1,e2.aZ k,e3⟩
 ·obtain⟨κ,k1,k2⟩:=h.ap;refine⟨λb=>if b=w.heap.size then .inl s.bx.length else κ b,λi x b hi hx hb=> ?_,λr row v gb hr hl hv aI=> ?_⟩
  ·rcases hold i _ hi with⟨hi,hl⟩|⟨rfl,rfl⟩
   ·have cr:=hβ i hl b hb;have:=(h.rk hi hx cr).1;simp only;rw[if_neg ae];exact k1 i x b hi hx cr
   ·rw[wW]at hb;cases hb
    simp
  ·have:=(h.pU hr hl hv aI).1;simp only;rw[if_neg ae];exact k2 r row v gb hr hl hv aI
 ·rcases hold i _ hi with⟨hi,hl⟩|⟨e,rfl⟩
  ·obtain⟨b,hm⟩:=hw.mp i es hi;exact⟨b,hm.aZ k rfl hm.nm⟩
  ·cases e;exact⟨w.heap.size,wW,⟨#[],0,lj,rfl,λq p m hp=>by simp at hp⟩,hM,h.cu _ h.below.size,λms cl hh=>by
    rw[lj]at hh;cases hh
    exact⟨λp q m m' hp=>by simp at hp,λm hm=>by simp at hm⟩⟩
def Li (ok:Bool)(r:Option D)(z:D):D:=match ok,r with
 |true,some d=> .aF [d, .bool true]
 |true,none=> .aF [z, .bool false]
 |false,some d=>d
 |false,none=>z
def qJ (bx:List Bx)(i:Nat)(k:List (D×D)->Prop):Prop:=match bx[i]? with|some (.mp es)=>k es|_=>False
theorem Ps {bx:List Bx}{i:Nat}{k:List (D×D)->Prop}(h:qJ bx i k):∃es,bx[i]? =some (.mp es)/\k es:=by
 unfold qJ at h;split at h
 ·exact⟨_,by assumption,h⟩
 ·exact h.elim
def Ah (P:Program)(t:TypeId)(es:List (D×D))(dk:D)(k:TypeId->Prop):Prop:=a_ (mapOf P t) λke=>a_ (jB dk) λsh=>z6 P ke.1 sh/\(es.all λp=>decide (jB p.1=some sh))=true/\k ke.2
def uS (P:Program)(bx:List Bx)(t:TypeId)(x dk:D)(ok:Bool)(k:D->Prop):Prop:=match x with
 | .bu i=>qJ bx i λes=>Ah P t es dk λe=>a_ (zeroV P e) λz=>k (Li ok (kR dk es) z)
 |_=>False
def tH (P:Program)(bx:List Bx)(t:TypeId)(x dk dv:D)(k:List Bx×D->Prop):Prop:=match x with
 | .bu i=>qJ bx i λes=>Ah P t es dk λ_=>cq bx.length 0 dv=true/\k (bx.set i (.mp (nP dk dv es)), .undef)
 |_=>False
theorem Vc {P:Program}{kt:TypeId}{sh:sy}{i b:Nat}{es:List (D×D)}{dk:D}(hm:oP c w g i b es){ms:Array MapEntry}{cl:Nat}(h1:w.heap[b]? =some (.map ms cl))(hK:z6 P kt sh)(hk:jB dk=some sh)(he:(es.all λp=>decide (jB p.1=some sh))=true):
  (∀e∈ms.toList,sh.is e.key)/\((kR dk es=none/\(FJ kt (gL dk) ms.toList).run P w= .ok none w/\∀e∈ms.toList,e.key≠gL dk)\/
   ∃q p m,es[q]? =some p/\ms[q]? =some m/\jl p.1 dk=true/\m.key=gL dk/\kR dk es=some p.2/\(FJ kt (gL dk) ms.toList).run P w= .ok (some (q,m.val)) w):=by
 obtain⟨kq,jb,gH,h2,h3⟩:=hm.ex;rw[h1]at gH;cases gH
 have f_:∀(q:Nat) (p:D×D),es[q]? =some p->jB p.1=some sh:=λq p hp=>by
  have:=iD.1 he p (ey hp);simpa using this
 have HN:∀(q:Nat) (p:D×D) (m:MapEntry),es[q]? =some p->ms[q]? =some m->m.key=gL p.1:=λq p m hp hq=>Hl (h3 q p m hp hq).1 (f_ q p hp);have dw:∀e∈ms.toList,sh.is e.key:=λe hm=>by
  obtain⟨q,hq⟩:=v7.1 hm;have dP:ms[q]? =some e:=by simpa using hq
  have jE:q < es.length:=by rw[<-h2];exact(bt.1 dP).1
  rw[HN q es[q] e (bS jE) dP];exact Dy (f_ q _ (bS jE))
 refine⟨dw, ?_⟩;have q_:∀(l:List (D×D)),(∀p∈l,jB p.1=some sh)->(∀p∈l,gL p.1≠gL dk)->kR dk l=none:=λl=>by
  induction l with
  |nil=>intros;rfl
  |cons p l ih=>
   intro ha hn;have:jl p.1 dk=false:=by
    cases hx:jl p.1 dk with
    |false=>rfl
    |true=>exact absurd ((DG (ha p (dI ..)) hk).1 hx) (hn p (dI ..))
   simp only[kR,this,cond_false];exact ih (λp hp=>ha p (dW _ hp)) (λp hp=>hn p (dW _ hp))
 have hfs:∀(l:List (D×D)) (q:Nat) (p:D×D),(∀p∈l,jB p.1=some sh)->l[q]? =some p->gL p.1=gL dk->(∀(r:Nat) (p':D×D),r < q->l[r]? =some p'->gL p'.1≠gL dk)->kR dk l=some p.2:=λl=>by
  induction l with
  |nil=>intro q p _ hp;simp at hp
  |cons p0 l ih=>
   intro q p ha hp hv hn;cases q with
   |zero=>
    simp at hp;subst hp
    have:jl p0.1 dk=true:=(DG (ha p0 (dI ..)) hk).2 hv;simp only[kR,this,cond_true]
   |succ q=>
    have:jl p0.1 dk=false:=by
     cases hx:jl p0.1 dk with
     |false=>rfl
     |true=>exact absurd ((DG (ha p0 (dI ..)) hk).1 hx) (hn 0 p0 ae rfl)
    simp only[kR,this,cond_false];exact ih q p (λp hp=>ha p (dW _ hp)) (by simpa using hp) hv (λr p' hr gP=>hn (r + 1) p' ae (by simpa using gP))
 obtain⟨r,hr,zl⟩:=hK.find (gL dk) ms.toList w (Dy hk) dw;have TY:∀p∈es,jB p.1=some sh:=λp hp=>by
  obtain⟨q,hq⟩:=v7.1 hp;exact f_ q p hq
 have Bh:∀(q:Nat) (p:D×D),es[q]? =some p->∃m,ms[q]? =some m:=λq p hp=>by
  have:q < ms.size:=by rw[h2];exact(aQ.1 hp).1
  exact⟨_,FZ this⟩
 rcases zl with⟨rfl,y0⟩|⟨q,m,hq,uk,rfl⟩
 ·refine .inl ⟨q_ es TY (λp hp e=> ?_),hr,y0⟩;obtain⟨q,hq⟩:=v7.1 hp;obtain⟨m,h_⟩:=Bh q p hq;exact y0 m (ey (by simpa using h_)) ((HN q p m hq h_).trans e)
 ·have dP:ms[q]? =some m:=by simpa using hq
  have jE:q < es.length:=by rw[<-h2];exact(bt.1 dP).1
  have hp:es[q]? =some es[q]:=bS jE;have HL:gL es[q].1=gL dk:=(HN q _ m hp dP).symm.trans uk;refine .inr ⟨q,es[q],m,hp,dP,(DG (f_ q _ hp) hk).2 HL,uk,hfs es q _ TY hp HL (λr p' hr gP e=> ?_),hr⟩;obtain⟨m',nc⟩:=Bh r p' gP;have:=(hm.lU ms cl h1).1 r q m' m nc dP ((HN r p' m' gP nc).trans (e.trans uk.symm));omega
theorem X5 {o:Oper}{t:TypeId}{x y:Operand}{ok:Bool}{dx dy:D}{k:D->Prop}(h:RG c s a w g)(ho:o.op= .lookup t x y ok)(hx:Rel w g (a.eval x) dx)(hy:Rel w g (a.eval y) dy)(hk:uS c.P s.bx t dx dy ok k):Yields c.P o a w g k:=by
 unfold uS at hk;split at hk
 case h_2=>exact hk.elim
 rename_i i;obtain⟨es,kV,hk⟩:=Ps hk;obtain⟨⟨kt,e⟩,ln,hk⟩:=cM hk;obtain⟨sh,f_,hK,dw,hk⟩:=cM hk;obtain⟨z,hz,hk⟩:=cM hk;obtain⟨b,hm⟩:=h.mp i es kV;obtain⟨ms,cl,h1,h2,h3⟩:=hm.ex;generalize hv:a.eval x=vx at hx;cases hx with
 |bu _ _ b' cr=>
 have e1:=hm.β;rw[cr]at e1;cases e1
 have oc:=Hl hy f_;obtain⟨zv,fU,AV⟩:=JO hz w g;have hu:=Dr ln;obtain⟨_,hc⟩:=Vc hm h1 hK f_ dw;have nh:=λe=>hK.check e (gL dy) w (Dy f_);rcases hc with⟨e2,hr,_⟩|⟨q,p,m,hp,hq,_,uk,e2,hr⟩
 ·rw[e2]at hk;cases ok with
  |true=>
   refine⟨.tuple #[zv, .bool false],_, ?_, .aF _ _ _ rfl (λq d hd=> ?_),hk⟩
   ·simp[execOp,ho,hv,oc,wc,run_underlying hu,tz h1,nh,hr,fU]
   ·match q,hd with
    |0,hd=>cases hd;exact AV
    |1,hd=>cases hd;exact .bool _ _
  |false=>
   refine⟨zv,_, ?_,AV,hk⟩;simp[execOp,ho,hv,oc,wc,run_underlying hu,tz h1,nh,hr,fU]
 ·rw[e2]at hk;have bw:=((h3 q p m hp hq).2).aZ (aeO w g);cases ok with
  |true=>
   refine⟨.tuple #[m.val, .bool true],_, ?_, .aF _ _ _ rfl (λq d hd=> ?_),hk⟩
   ·simp[execOp,ho,hv,oc,wc,run_underlying hu,tz h1,nh,hr]
   ·match q,hd with
    |0,hd=>cases hd;exact bw
    |1,hd=>cases hd;exact .bool _ _
  |false=>
   refine⟨m.val,_, ?_,bw,hk⟩;simp[execOp,ho,hv,oc,wc,run_underlying hu,tz h1,nh,hr]
theorem G9 {dk dv:D}:∀{es:List (D×D)},kR dk es=none->nP dk dv es=es++[(dk,dv)]
 |[],_=>rfl
 |p::es,h=>by
  simp only[kR]at h;cases hk:jl p.1 dk with
  |true=>rw[hk]at h;cases h
  |false=>rw[hk]at h;simp only[nP,hk,cond_false,G9 (es:=es) h,List.cons_append]
theorem RZ {dk dv:D}:∀{es:List (D×D)} {q:Nat} {p:D×D},es[q]? =some p->jl p.1 dk=true->(∀(r:Nat) (p':D×D),r < q->es[r]? =some p'->jl p'.1 dk=false)->nP dk dv es=es.set q (dk,dv)
 |[],q,p,h,_,_=>by simp at h
 |p0::es,0,p,h,hk,_=>by
  simp at h;subst h
  simp only[nP,hk,cond_true,List.set_cons_zero]
 |p0::es,q + 1,p,h,hk,hn=>by
  have:=hn 0 p0 ae rfl;simp only[nP,this,cond_false,List.set_cons_succ];rw[RZ (es:=es) (q:=q) (p:=p) (by simpa using h) hk (λr p' hr gP=>hn (r + 1) p' ae (by simpa using gP))]
theorem Qk {o:Oper}{t:TypeId}{x y z:Operand}{K:St->Prop}{Q:Exit->Act->World->Prop}(h:RG c s a w g)(ho:o.op= .mapUpdate t x y z\/o.op= .insert t x y z)(hd:o.dst=none)
  (hk:tH c.P s.bx t (s.ev x) (s.ev y) (s.ev z) λr=>K {s with bx:=r.1}):o.wp c.P a w (λa' w'=>∃s',R c s' a' w'/\K s') Q:=by
 unfold tH at hk;split at hk
 case h_2=>exact hk.elim
 rename_i i hx;obtain⟨es,kV,hk⟩:=Ps hk;obtain⟨⟨kt,e⟩,ln,hk⟩:=cM hk;obtain⟨sh,f_,hK,dw,dD,hk⟩:=cM hk;obtain⟨b,hm⟩:=h.mp i es kV;obtain⟨ms,cl,h1,h2,h3⟩:=hm.ex;have ek:=h.ev x;rw[hx]at ek;generalize hv:a.eval x=vx at ek;cases ek with
 |bu _ _ b' cr=>
 have e1:=hm.β;rw[cr]at e1;cases e1
 have oc:=Hl (h.ev y) f_;have vq:Rel w g.mg (a.eval y) (s.ev y):=by
  have:=h.ev y;rcases Dz f_ with⟨n,e,_⟩|⟨t,e,_⟩|⟨cs,xs,e,hi,_⟩
  ·rw[e]at this⊢;generalize a.eval y=vy at this⊢;cases this;exact .int _ _ _
  ·rw[e]at this⊢;generalize a.eval y=vy at this⊢;cases this;exact .str _ _
  ·refine this.RN ?_;rw[e];have:∀{l:List D} {xs:List Int},jT l=some xs->bN g.β.length 0 l=true:=λ{l}=>by
    induction l with
    |nil=>intros;rfl
    |cons d l ih=>
     intro xs hx;obtain⟨n,ys,rfl,h4,_⟩:=DI hx;simp only[bN,cq,Bool.true_and];exact ih h4
   exact this hi
 have fU:Rel w g.mg (a.eval z) (s.ev z):=(h.ev z).RN (by rw[h.lβ];exact dD);have hu:=Dr ln;obtain⟨amM,hc⟩:=Vc hm h1 hK f_ dw;have nh:=λe=>hK.check e (gL (s.ev y)) w (Dy f_);have key:∀kq jb,(FH t (.map (some b)) (gL (s.ev y)) (a.eval z)).run c.P w= .ok () {w with heap:=w.heap.setIfInBounds b (.map kq jb)}->
   kq.size=(nP (s.ev y) (s.ev z) es).length->(∀(q:Nat) (p:D×D) (m:MapEntry),(nP (s.ev y) (s.ev z) es)[q]? =some p->kq[q]? =some m->Rel w g.mg m.key p.1/\Rel w g.mg m.val p.2)->
   ((∀(p q:Nat) (m m':MapEntry),kq[p]? =some m->kq[q]? =some m'->m.key=m'.key->p=q)/\∀m∈kq.toList,m.born < jb)->o.wp c.P a w (λa' w'=>∃s',R c s' a' w'/\K s') Q:=λkq jb aV g1 g2 g3=>by
  have hex:(execOp a.eval o).run c.P w= .ok .skip {w with heap:=w.heap.setIfInBounds b (.map kq jb)}:=by
   rcases ho with ho|ho<;>simp[execOp,ho,hv,oc,aV]
  unfold fo;rw[hex];refine⟨_,⟨g, ?_⟩,hk⟩;have:=h.ael (jb:=jb) kV hm h1 g1 g2 g3;rw[hd];exact this
 rcases hc with⟨e2,hr,ga⟩|⟨q,p,m,hp,hq,xi,uk,e2,hr⟩
 ·refine key (ms.push {key:=gL (s.ev y),val:=a.eval z,born:=cl}) (cl + 1) ?_ ?_ ?_ ?_
  ·simp[FH,run_underlying hu,tz h1,nh,hr,OK _ h1]
  ·rw[G9 e2];simp[h2]
  ·rw[G9 e2];intro q p m hp hq;rcases ft q es.length with hl|hl
   ·rw[bQ hl]at hp;rw[Cy,if_neg ae]at hq;exact h3 q p m hp hq
   ·rw[dX hl]at hp;have sS:q=es.length:=by have:=(aQ.1 hp).1;simp at this;omega
    subst sS;rw[Cy,if_pos h2.symm]at hq;simp at hp;subst hp
    cases hq;exact⟨oc▸vq,fU⟩
  ·refine⟨?_,λm nc=>by
    rw[XT,fA]at nc;rcases nc with nc|nc
    ·have:=(hm.lU ms cl h1).2 m nc;omega
    ·simp at nc;subst nc;exact Nat.lt_succ_self _⟩
   intro p q m m' hp hq he;rw[Cy]at hp hq;split at hp<;>split at hq
   ·omega
   ·cases hp;exact absurd he.symm (ga m' (ey (by simpa using hq)))
   ·cases hq;exact absurd he (ga m (ey (by simpa using hp)))
   ·exact(hm.lU ms cl h1).1 p q m m' hp hq he
 ·have jE:q < ms.size:=(bt.1 hq).1;have hqe:ms[q]=m:=(bt.1 hq).2;have aM:(JD m.key (gL (s.ev y))).run c.P w= .ok (gL (s.ev y)) w:=by rw[uk];exact aeL w (Dy f_)
  have rQ:nP (s.ev y) (s.ev z) es=es.set q (s.ev y,s.ev z):=RZ hp xi (λr p' hr gP=>by
   cases hx:jl p'.1 (s.ev y)with
   |false=>rfl
   |true=>
    have DS:∀(q:Nat) (p:D×D),es[q]? =some p->jB p.1=some sh:=λq p hp=>by
     have:=iD.1 dw p (ey hp);simpa using this
    have n4:=(DG (DS r p' gP) f_).1 hx;have rR:r < ms.size:=by rw[h2];exact(aQ.1 gP).1
    have ags:=Hl (h3 r p' ms[r] gP (FZ rR)).1 (DS r p' gP);have:=(hm.lU ms cl h1).1 r q ms[r] m (FZ rR) hq (ags.trans (n4.trans uk.symm));omega)
  refine key (ms.modify q λe=>{e with key:=gL (s.ev y),val:=a.eval z}) cl ?_ ?_ ?_ ?_
  ·simp[FH,run_underlying hu,tz h1,nh,hr,hq,aM,OK _ h1]
  ·rw[rQ];simp[h2]
  ·rw[rQ];intro r p' m' gP dP;rw[tE]at dP;by_cases vl:q=r
   ·subst vl;rw[if_pos rfl,hq]at dP;rw[jg (by rw[<-h2];exact jE)]at gP;cases gP;cases dP
    exact⟨oc▸vq,fU⟩
   ·rw[if_neg vl]at dP;rw[gj vl]at gP;exact h3 r p' m' gP dP
  ·refine⟨?_,λm' nc=>by
    obtain⟨r,cV⟩:=Array.getElem?_of_mem (Cx.1 nc);rw[tE]at cV;by_cases vl:q=r
    ·subst vl;rw[if_pos rfl,hq]at cV;cases cV;exact(hm.lU ms cl h1).2 m (Cx.2 (O5 hq))
    ·rw[if_neg vl]at cV;exact(hm.lU ms cl h1).2 m' (Cx.2 (O5 cV))⟩
   intro p1 p2 m1 m2 pw jo he;have HM:∀(r:Nat) (m':MapEntry),(ms.modify q λe=>{e with key:=gL (s.ev y),val:=a.eval z})[r]? =some m'->∃m0,ms[r]? =some m0/\m'.key=m0.key:=λr m' cW=>by
    rw[tE]at cW;by_cases vl:q=r
    ·subst vl;rw[if_pos rfl,hq]at cW;cases cW;exact⟨m,hq,uk.symm⟩
    ·rw[if_neg vl]at cW;exact⟨m',cW,rfl⟩
   obtain⟨n1,f1,f2⟩:=HM p1 m1 pw;obtain⟨n2,f3,f4⟩:=HM p2 m2 jo;exact(hm.lU ms cl h1).1 p1 p2 n1 n2 f1 f3 (by rw[<-f2,<-f4];exact he)
theorem aby {o:Oper}{t:TypeId}{K:St->Prop}{Q:Exit->Act->World->Prop}(h:RG c s a w g)(ho:o.op= .makeMap t none)(hd:bd s o.dst)
  (hk:K (St.put {s with bx:=s.bx++[.mp []]} o.dst (.bu s.bx.length))):o.wp c.P a w (λa' w'=>∃s',R c s' a' w'/\K s') Q:=by
 have hr:=h.allocMap;have hex:(execOp a.eval o).run c.P w= .ok (.value (.map (some w.heap.size))) (w.alloc (.map #[] 0)):=by
  simp[execOp,ho,Instr.makeMap]
 unfold fo;rw[hex];refine⟨_,⟨_,hr.put ?_ (.bu _ _ w.heap.size ?_)⟩,hk⟩
 ·exact hd
 ·simp[<-h.lβ]
end
end Go.Ab
end
