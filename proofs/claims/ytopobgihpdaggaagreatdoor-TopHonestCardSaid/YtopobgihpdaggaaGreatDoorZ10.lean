import Derived.Test.YtopobgihpdaggaaGreatDoorZ09
set_option linter.unusedVariables false
set_option linter.unusedSimpArgs false
open Array renaming getD_eq_getD_getElem?->lL,getElem?_append_left->Ff,getElem?_append_right->Jb
open Bool renaming or_eq_false_iff->zT
open Go.Builtin renaming append_->uf,lenOf->E',zeroCells->mJ
open Go renaming undef->bH
open List renaming append_assoc->rh,getElem?_append_left->cZ,getElem?_append_right->gk,getElem?_eq_getElem->cX,getElem?_eq_some_iff->bm,getElem?_map->dO,getElem?_set_ne->gz,getElem?_set_self->je,getElem?_take->ib,length_append->ia,length_map->jU,length_pos_iff->zL,length_replicate->zK,length_take->mG,mem_append->gY,mem_cons_self->ey,mem_iff_getElem?->po,mem_of_getElem?->fM,mem_of_mem_drop->Cm,mem_of_mem_take->zI,mem_replicate->xF,range->dB,replicate->bP,size_toArray->xD
open Nat renaming add_mul->pk,le_refl->cx,mul_le_mul_right->xA,pos_of_ne_zero->S8
open Option renaming isSome_iff_exists->tV,map_eq_some_iff->cS
open Go.Program renaming cellsOf->xx
open Go.Region renaming wanted->d_
namespace Go.Ab
open Go.RowKit
def aO (c:Ctx)(s s':St):Prop:=∀a w,R c s a w->R c s' a w
section
variable {c:Ctx} {s:St}
theorem aO.refl:aO c s s:=λ_ _ h=>h
theorem aO.trans {s' CS:St}(h:aO c s s')(k:aO c s' CS):aO c s CS:=λa w hr=>k a w (h a w hr)
theorem aO.le {s':St}(hl:Le s s')(hn:s'.named)(h0:c.β0.length<=s'.bx.length):aO c s s':=λ_ _ hr=>hr.le hl hn h0
theorem eI {s':St}{code:Code}{Q:Exit->St->Prop}(h:aO c s s')(hk:az c code Q s'):az c code Q s:=λa w hr=>hk a w (h a w hr)
theorem RG.bj {a:Act}{w:World}{g:Gh}{sl:Nat->D}(h:RG c s a w g)(hs:∀m,Rel w g (a.tmps.getD m undef) (sl m)):RG c ⟨s.n,sl,s.bx,s.rw⟩ a w g:=
 ⟨h.df,h.sz,h.below,h.cY,h.bt,h.eD,h.S0,h.fU,h.lβ,h.lρ,hs,h.bx,h.fz,h.rw,h.ap,h.mp⟩
theorem aO.read {n:Nat}{sl:Nat->D}{bx:List Bx}{aL:List Row}(m:Nat){d':D}(h:Ay bx aL (sl m)=some d'):aO c ⟨n,sl,bx,aL⟩ ⟨n,put sl m d',bx,aL⟩:=by
 rintro a w ⟨g,hg⟩;refine⟨g,hg.bj λk=> ?_⟩;unfold put;split
 ·rename_i e;subst e
  exact(Oe hg (hg.sl k) h).bb (rL _ _)
 ·exact hg.sl k
theorem aO.push {n:Nat}{sl:Nat->D}{bx:List Bx}{aL:List Row}(m:Nat)(e:TypeId)(sz:Nat)(hv:sl m= .val (.slice none 0 0)):aO c ⟨n,sl,bx,aL⟩ ⟨n,put sl m (.own aL.length),bx,aL++[⟨true,e,sz,[]⟩]⟩:=by
 rintro a w ⟨g,hg⟩;have h:=hg.yp e sz;refine⟨_,h.bj λk=> ?_⟩;unfold put;split
 ·rename_i e2;subst e2
  have hx:=hg.sl k;simp only[hv]at hx;generalize a.tmps.getD k undef=v at hx;cases hx;refine .own _ _ _ ?_;show(g.ρ++[Value.slice none 0 0])[aL.length]? =_;have:=hg.lρ;simp only at this;rw[<-this];simp
 ·exact h.sl k
def aZ (c:Ctx)(o:Oper)(s:St)(K:St->Prop):Prop:=
 ∀(a:Act) (w:World) (N':Act->World->Prop) (Q':Exit->Act->World->Prop),R c s a w->(∀s a w,R c s a w->K s->N' a w)->o.wpIn c.F 0 c.P a w N' Q'
theorem aZ.of {o:Oper}{K:St->Prop}(h:c_ c.P o s K):aZ c o s K:=by
 rintro a w N' Q' ⟨g,hg⟩ hN;exact gK (sL h) (Oper.wp_mono (λa' w' ⟨s',cH,fS⟩=>hN s' a' w' cH fS) (ru hg h))
theorem aZ.sW {K:St->Prop}{fx:Operand}{xs:Array Operand}{dst:Option Tmp}{at_:Array TypeId}{ty:TypeId}{pos:String}{aft:Array Edge}(h:mz c K fx xs.toList dst s):
  aZ c ⟨dst, .call ⟨.value fx,xs,at_⟩,ty,pos,aft,none⟩ s K:=λ_ _ _ _ hr hN=>Ib rfl hr h hN
theorem pg {Q:Exit->St->Prop}{id:Nat}{l:List Oper}(n:Nat){y:Oper}(At:(St->Prop)->St->Prop)(hy:∀(N:St->Prop) (s1:St),At N s1->aZ c y s1 N)
  (hl:l=l.take n++y::l.drop (n + 1))(cK:y.guard=none)
  (h:∀K1:St->Prop,(∀s1,At (λs2=>cq c.P l (l.drop (n + 1)) s2 (λs2=>Q .normal s2)) s1->K1 s1)->cq c.P l (l.take n) s K1):
  az c (.region id l.toArray false) Q s:=by
 intro a w hr;refine wpIn_region_lit ?_;rw[hl];rw[hl]at h;have kZ:(l.take n++y::l.drop (n + 1)).take n=l.take n:=by rw[<-hl]
 have fH:(l.take n++y::l.drop (n + 1)).drop (n + 1)=l.drop (n + 1):=by rw[<-hl]
 rw[kZ,fH]at h;generalize l.take n=l1 at *;generalize l.drop (n + 1)=l2 at *;refine pQ (c:=c) (λs1 a1 w1 hH ba=> ?_) l1 s a w hr (h _ (λs1 h1=>h1));show wpListIn c.F 0 c.P _ _ (y::l2) a1 w1;unfold wpListIn;rw[if_pos (by simp[d_,cK])];exact hy _ s1 ba a1 w1 _ _ hH (λs3 a3 w3 kz mZ=>n9 (c:=c) (K:=λs2=>Q .normal s2) (λs4 a4 w4 oU pL=>⟨s4,oU,pL⟩) l2 _ _ _ kz mZ)
theorem agI {id:Nat}{l:List Oper}{Q:Exit->St->Prop}{ι:Type}(hm:c.P.follows .mixedOrders=true)(hc:c.l=none)(hB:BM l.toArray=true)(st:ι->(Nat->Bool)->St)(ok:ι->(Nat->Bool)->Prop)
  (i0:ι)(h0:ok i0 (λ_=>false))(hle:aO c s (st i0 λ_=>false))
  (step:∀i L j o,oe l.toArray L->ok i L->l[j]? =some o->L j=false->(∀e∈o.after,Region.binds .any e=true->L e.on=true)->aZ c o (st i L) (λs'=>∃i',ok i' (λq=>decide (q=j)||L q)/\aO c s' (st i' (λq=>decide (q=j)||L q))))
  (done:∀i L,ok i L->(∀j,j < l.length->L j=true)->Q .normal (st i L)):az c (.region id l.toArray true) Q s:=by
 intro a w hr;have hF:c.F=Fence.wide:=by unfold Ctx.F;rw[hc];rfl
 rw[hF];refine TY hm hB (λL a w=>∃i,ok i L/\R c (st i L) a w) ⟨i0,h0,hle _ _ (RG.ve hr)⟩ (λL j o hC ho hL aa a w hI=> ?_) (λL a w hL hI=> ?_)
 ·obtain⟨i,cO,hH⟩:=hI;have h:=step i L j o hC cO (by simpa using ho) hL aa;rw[<-hF];exact h a w _ _ hH (λs' a' w' cH ⟨i',hk,hl⟩=>⟨i',hk,hl _ _ cH⟩)
 ·obtain⟨i,cO,hr⟩:=hI;exact⟨_,hr,done i L cO (by simpa using hL)⟩
def Ii (c:Ctx)(t:TypeId)(x:Operand)(dst:Option Tmp)(N:St->Prop)(s1:St):Prop:=
 bp s1 dst/\zk c.P t=true/\∃xs,s1.ev x= .list xs/\(xs=[]->N (s1.put dst (.bool true)))/\((∀x∈xs,x.cells≠[])->N (s1.put dst (.bool false)))/\∀x∈xs,x.cells≠[]
theorem aZ.nil {K:St->Prop}{t ty:TypeId}{x:Operand}{dst:Option Tmp}{pos:String}{aft:Array Edge}(h:Ii c t x dst K s):
  aZ c ⟨dst, .binOp .eql t x (.const (.slice none 0 0)) t,ty,pos,aft,none⟩ s K:=by
 obtain⟨hd,ht,xs,hx,h1,h2,bS⟩:=h;rintro a w N' Q' ⟨g,hg⟩ hN;refine gK (by intro cl h;cases h) ?_;unfold zk at ht;split at ht<;>first|cases ht|skip
 rename_i e he;have hv:=hg.ev x;rw[hx]at hv;generalize qU:a.eval x=v at hv;cases hv with
 |list _ A n cp _ sz u hn bo fA hm hr=>
  have bg:(execOp a.eval ⟨dst, .binOp .eql t x (.const (.slice none 0 0)) t,ty,pos,aft,none⟩).run c.P w= .ok (.value (.bool A.isNone)) w:=by
   have h1:a.eval (.const (.slice none 0 0))= .slice none 0 0:=rfl;simp[execOp,qU,h1,eqGuard,NJ c.P w he]
  unfold Oper.wp;rw[bg];show N' _ _;cases hA:A with
  |none=>
   have gU:xs=[]:=by
    cases xs with
    |nil=>rfl
    |cons d ds=>
     have h0:=bS d (ey ..);have lC:0 < (flat (d::ds)).length:=by
      show 0 < (d.cells++flat ds).length;have:=zL.2 h0;simp only[ia];omega
     obtain⟨ad,e1,_⟩:=hm 0 lC;rw[hA]at e1;cases e1
   exact hN _ _ _ ⟨g,hg.put hd (.bool _ _)⟩ (h1 gU)
  |some ad=>exact hN _ _ _ ⟨g,hg.put hd (.bool _ _)⟩ (h2 bS)
end
attribute[go_sem] Ii
section
variable {c:Ctx} {s:St}
theorem agP (i:Nat)(cs dp:List D)(hi:s.bx[i]? =some (.mu cs))(hp:iU s.bx s.rw cs=some dp)
  {a:Act}{w:World}(h:R c s a w):R c {s with bx:=s.bx.set i (.fz dp)} a w:=by
 obtain⟨g,hg⟩:=h;obtain⟨b,vs,t,e1,e2,e3,e4,e5,_⟩:=(hg.bx i cs hi).ex;have e3:fF w g vs cs:=e3;obtain⟨p1,p2⟩:=Ax hp
 let S':Addr->Prop:=λx=>g.S x\/∃q,q < cs.length/\x=⟨b,q,none⟩
 have en:i < s.bx.length:=(bm.1 hi).1;have k:ep w g w ⟨S',g.β,g.ρ,g.M⟩:=⟨λ_ _=>rfl,λ_ h=> .inl h,λ_ _ h=>h,λ_ _ h=>h,λ_ _ h=>h⟩;obtain⟨κ,k1,k2⟩:=hg.ap;have hold:∀(j:Nat) (x:Bx),(s.bx.set i (.fz dp))[j]? =some x->(j=i/\x= .fz dp)\/(j≠i/\s.bx[j]? =some x):=λj x hj=>by
  by_cases bd:j=i
  ·subst bd;rw[je en]at hj;exact .inl ⟨rfl,(Option.some.inj hj).symm⟩
  ·rw[gz (Ne.symm bd)]at hj;exact .inr ⟨bd,hj⟩
 have acd:b < w.heap.size:=(Array.getElem?_eq_some_iff.1 e2).1;refine⟨⟨S',g.β,g.ρ,g.M⟩,hg.df.gh rfl,hg.sz,hg.below,hg.cY,λx hx=> ?_,λx hx=> ?_,λx hx=> .inl (hg.S0 x hx),hg.fU,by simp[hg.lβ],hg.lρ,λn=>(hg.sl n).bb k, ?_, ?_, ?_, ?_,λj es hj=>by
  rcases hold j _ hj with⟨_,e⟩|⟨bd,hj⟩
  ·cases e
  ·exact(hg.mp j es hj).imp λb2 hm=>hm.bb k rfl hm.nm⟩
 ·rcases hx with hx|⟨q,hq,rfl⟩
  ·exact hg.bt x hx
  ·rw[cell_of_row w b q vs t.1 _ e2];have:q < vs.size:=by rw[e3.1];exact hq
   exact⟨vs[q],by simp[this]⟩
 ·rcases hx with hx|⟨q,_,rfl⟩
  ·exact hg.eD x hx
  ·exact .inr e4
 ·intro j ds hj;rcases hold j _ hj with⟨_,e⟩|⟨bd,hj⟩
  ·cases e
  ·obtain⟨b',iJ,t',f1,f2,f3,f4,f5,f6⟩:=(hg.bx j ds hj).ex;refine⟨b',iJ,t',f1,f2,f3.bb k,f4,λ_ x hx=> ?_,λh=>by cases h⟩;rcases hx with hx|⟨q,_,rfl⟩
   ·exact f5 rfl x hx
   ·intro e;simp at e;subst e
    have q1:=k1 i _ b hi rfl e1;have q2:=k1 j _ b hj rfl f1;rw[q1]at q2;injection q2 with q2;exact bd q2.symm
 ·intro j ds hj;rcases hold j _ hj with⟨rfl,e⟩|⟨bd,hj⟩
  ·cases e;refine⟨b,vs,t,e1,e2,⟨by rw[e3.1,p1],λq d hd=> ?_⟩,e4,(λh=>by cases h),λ_ q hq=> .inr ⟨q,by rw[<-p1];exact hq,rfl⟩⟩;obtain⟨d0,jn,A_⟩:=p2 q d hd;exact⟨(Az hg (e3.2 q d0 jn).1 A_).bb k.er,(e3.2 q d0 jn).2⟩
  ·obtain⟨b',iJ,t',f1,f2,f3,f4,f5,f6⟩:=(hg.fz j ds hj).ex;exact⟨b',iJ,t',f1,f2,f3.bb k.er,f4,(λh=>by cases h),λ_ q hq=> .inl (f6 rfl q hq)⟩
 ·intro r row hr;obtain⟨v,f1,f2,f3⟩:=(hg.rw r row hr).ex;refine⟨v,f1,f2.bb k,λhl=> ?_⟩;obtain⟨ho,bE,hS⟩:=f3 hl;refine⟨ho,bE,λgb aW=>⟨(hS gb aW).1,λx hx ig=> ?_⟩⟩;rcases hx with hx|⟨q,_,rfl⟩
  ·exact(hS gb aW).2 x hx ig
  ·simp at ig;subst ig
   have q1:=k1 i _ b hi rfl e1;have q2:=k2 r row v b hr hl f1 aW;rw[q1]at q2;cases q2
 ·refine⟨κ,λj x b' hj hx bT=> ?_,k2⟩;rcases hold j _ hj with⟨rfl,e⟩|⟨bd,hj⟩
  ·exact k1 j _ b' hi rfl bT
  ·exact k1 j x b' hj hx bT
end
def Er (c:Ctx)(t:TypeId)(x:Operand)(dst:Option Tmp)(N:St->Prop)(s1:St):Prop:=
 bp s1 dst/\bn (elemOf c.P t) λe=>aJ c.P e≠0/\(bX c.P e).isSome=true/\lM s1.rw (s1.ev x) λys=>(∀y∈ys,y.cells.length=aJ c.P e)/\ys.length<=9223372036854775807/\ys.length * bytesOf c.P e<=140737488355328/\
  (ys=[]->N (s1.put dst (.val (.slice none 0 0))))/\(ys≠[]->∀m cap:Nat,ys.length<=cap->N (St.put {s1 with bx:=s1.bx++[.mu (flat ys++bP m .undef)]} dst (.a_ s1.bx.length 0 ys.length cap)))
theorem Fh (z:Array Value)(h:∀q,q < z.size->(z.getD q bH).oneCell'=true)(n q:Nat)(hq:q < n * z.size):((mJ z n).getD q bH).oneCell'=true:=by
 have hs:z.size≠0:=by intro h0;rw[h0]at hq;omega
 have hm:q % z.size < z.size:=Nat.mod_lt _ ag;have:=h _ hm;simp only[mJ];simp[hq,hm]at this⊢;exact this
section
variable {c:Ctx} {s:St}
theorem aZ.dup {K:St->Prop}{t ty:TypeId}{x:Operand}{dst:Option Tmp}{pos:String}{aft:Array Edge}(h:Er c t x dst K s):
  aZ c ⟨dst, .call ⟨.builtin .append,#[.const (.slice none 0 0),x],#[t,t]⟩,ty,pos,aft,none⟩ s K:=by
 obtain⟨hd,h⟩:=h;obtain⟨e,he,hz,lv,h⟩:=cE h;rintro a w N' Q' ⟨g,hg⟩ hN;obtain⟨ys,hy,j7,kK,hb,h1,h2⟩:=z6 hg.mem (hg.ev x) h;obtain⟨A,cy,Ft,uy,hv,GN,ma,s9⟩:=hy.qq;obtain⟨zs,gD⟩:=tV.1 lv;obtain⟨z0,fQ,iV,i,hi,qR⟩:=vF gD w g;have bo:i.size=aJ c.P e:=by simp[aJ,xx,hi]
 have mh:bytesOf c.P e=i.bytes:=by simp[bytesOf,hi]
 have lC:0 < aJ c.P e:=S8 hz;have⟨z,j_,mU⟩:∃z,i.zero=some z/\z.cells=z0.cells:=by
  unfold bX at gD;rw[hi]at gD;cases j_:i.zero with
  |none=>simp[j_]at gD
  |some z'=>
   refine⟨z',rfl, ?_⟩;have:(zeroValue e).run c.P w= .ok z' w:=by simp[zeroValue,typeInfo,hi,j_]
   rw[this]at fQ;injection fQ with fQ;rw[fQ]
 have pM:=o8 (aJ c.P e) ys j7;refine gK (by intro cl h;cases h) ?_;unfold Oper.wp;have nX:a.eval (.const (.slice none 0 0))= .slice none 0 0:=rfl;by_cases h0:ys=[]
 ·subst h0;have bg:(execOp a.eval ⟨dst, .call ⟨.builtin .append,#[.const (.slice none 0 0),x],#[t,t]⟩,ty,pos,aft,none⟩).run c.P w= .ok (.value (.slice none 0 0)) w:=by
   have:=NL (w:=w) c.P 0 t ty e i z i.size i.bytes (k7 he) hi j_ rfl rfl (by rw[mU];rw[iV.1,<-qR]) ag (.slice none 0 0) 0 [] (World.ownsRow_nil w 0 e i.size) A 0 cy [] ay (λh=>absurd h (Nat.lt_irrefl _)) ay (by simp[maxLen]) ay (Nat.zero_le _);simp[execOp,resolve,invoke,builtin,nX,hv];rcases A with _|ad
   ·rw[NK c.P 0 t ty e i i.size (k7 he) hi (.slice none 0 0) 0 [] (World.ownsRow_nil w 0 e i.size) cy];simp
   ·have:(uf #[t,t] ty #[.slice none 0 0, .slice (some ad) 0 cy]).run c.P w= .ok (.slice none 0 0) w:=by
     simp[uf,run_underlying (k7 he),sizeOf,typeInfo,hi,E',Builtin.firstCells,loadCells,loadCellsFrom]
    rw[this];simp
  rw[bg];exact hN _ _ _ ⟨g,hg.put hd (.val _ _)⟩ (h1 rfl)
 ·have hlen:0 < ys.length:=zL.2 h0;have qM:0 < (flat ys).length:=by rw[pM];exact Nat.mul_pos hlen lC
  obtain⟨ad,hA,_⟩:=ma 0 qM;subst hA
  let news:=(dB (flat ys).length).map uy
  have dC:news.length=ys.length * i.size:=by simp[news,pM,bo]
  have qN:∀j u,news[j]? =some u->w.cell? (ad.add j)=some u:=λj u hj=>by
   simp only[news,dO,cS]at hj;obtain⟨j',hj,rfl⟩:=hj;have eu:=(bm.1 hj).1;have m_:=(bm.1 hj).2;simp at eu m_;subst m_;obtain⟨xg,e2,hc,_⟩:=ma j eu;cases e2;exact hc
  have hr:=Go.run_append_nil (P:=c.P) w t ty e i z (k7 he) hi j_ ad ys.length cy news dC qN hlen ag (by rw[<-mh];omega);have bg:(execOp a.eval ⟨dst, .call ⟨.builtin .append,#[.const (.slice none 0 0),x],#[t,t]⟩,ty,pos,aft,none⟩).run c.P w=
    .ok (.value (.slice (some ⟨w.heap.size,0,none⟩) ys.length (grownCap w ys.length 0 e))) (w.drew.alloc (.cells (news.toArray++mJ z.cells (grownCap w ys.length 0 e - ys.length)) e)):=by
   simp[execOp,resolve,invoke,builtin,nX,hv,hr]
  rw[bg];have cK:RG c s a w.drew g:=hg.world (w':=w.drew) (S':=g.S) ⟨rfl,rfl,rfl,cx _,λ_ _=>rfl⟩ (λ_ h=>h) (λ_ h=> .inl h) hg.bt;have A6:(mJ z.cells (grownCap w ys.length 0 e - ys.length)).size=(grownCap w ys.length 0 e - ys.length) * z.cells.size:=size_zeroCells _ _;have wO:fF w.drew g (news.toArray++mJ z.cells (grownCap w ys.length 0 e - ys.length)) (flat ys++bP ((grownCap w ys.length 0 e - ys.length) * z.cells.size) .undef):=by
   refine⟨by simp[A6,news],λq d hd=> ?_⟩;have jm:=(bm.1 hd).1;simp only[ia,zK]at jm;have rT:news.length=(flat ys).length:=by simp[news]
   by_cases hq:q < (flat ys).length
   ·rw[cZ hq]at hd;have hu:(news.toArray++mJ z.cells (grownCap w ys.length 0 e - ys.length)).getD q bH=uy q:=by
     rw[lL,Ff (by simp;omega)];simp[news,hq]
    rw[hu];obtain⟨_,_,_,_,ho⟩:=ma q hq;exact⟨((s9 q d hd).bb (rL _ _)).bb ⟨λ_ _=>rfl,λ_ h=>h,λ_ _ h=>h,λ_ _ h=>h,λ_ _ h=>h⟩,ho⟩
   ·rw[gk ag]at hd;have ed:d= .undef:=by
     have:=(bm.1 hd).2;simpa using this.symm
    subst ed;refine⟨.undef _ _, ?_⟩;have hu:(news.toArray++mJ z.cells (grownCap w ys.length 0 e - ys.length)).getD q bH=(mJ z.cells (grownCap w ys.length 0 e - ys.length)).getD (q - news.length) bH:=by
     rw[lL,lL,Jb (by simp;omega)];simp
    rw[hu];refine Fh _ (λk hk=> ?_) _ _ ag;rw[mU]at hk⊢;have Bi:k < zs.length:=by rw[<-iV.1];exact hk
    exact(iV.2 k zs[k] (cX Bi)).2
  have BB:=cK.alloc (t:=e) wO;refine hN _ _ _ ⟨_,BB.put ?_ (.a_ _ _ _ _ _ w.heap.size ?_)⟩ (h2 h0 _ _ (grownCap_ge w ys.length 0 e))
  ·cases dst<;>first|exact trivial|exact hd
  ·show(g.β++[w.drew.heap.size])[s.bx.length]? =_;rw[<-hg.lβ];simp
theorem aO.freeze {n:Nat}{sl:Nat->D}{bx:List Bx}{aL:List Row}(i:Nat){cs dp:List D}(hi:bx[i]? =some (.mu cs))(hp:iU bx aL cs=some dp):aO c ⟨n,sl,bx,aL⟩ ⟨n,sl,bx.set i (.fz dp),aL⟩:=
 λ_ _ h=>agP i cs dp hi hp h
theorem aO.R4 {n:Nat}{sl:Nat->D}{bx:List Bx}{aL:List Row}(m i:Nat){ys U:List D}{cap sz:Nat}(hm:sl m= .a_ i 0 ys.length cap)(hi:bx[i]? =some (.fz (flat ys++U)))(bo:∀y∈ys,y.cells.length=sz)(hc:ys.length<=cap):
  aO c ⟨n,sl,bx,aL⟩ ⟨n,put sl m (.list ys),bx,aL⟩:=by
 rintro a w ⟨g,hg⟩;refine⟨g,hg.bj λk=> ?_⟩;unfold put;split
 ·rename_i e2;subst e2
  have hx:=hg.sl k;simp only[hm]at hx;generalize a.tmps.getD k undef=v at hx;cases hx with
  |a_ _ _ _ _ _ b hb=>
   obtain⟨b',vs,t,e1,e2,e3,e4,_,e6⟩:=(hg.fz i _ hi).ex;rw[e1]at hb;cases hb
   obtain⟨h1,h2⟩:=q7 e2 e3 0;refine .list _ _ _ _ _ sz (λq=>vs.getD (0 + q) bH) rfl bo hc (λq hq=> ?_) (λq d hd=> ?_)
   ·have ec:q < (flat ys++U).length:=by rw[ia];omega
    refine⟨_,rfl,(h1 q (by simpa using ec)).1, ?_,(h1 q (by simpa using ec)).2⟩;rw[lH];exact e6 rfl _ ag
   ·refine h2 q d ?_;rw[List.drop_zero,cZ (bm.1 hd).1];exact hd
 ·exact hg.sl k
end
attribute[go_sem] Er
mutual
def D.mb (p:Nat->Bool):D->Bool
 | .box i _=>p i
 | .a_ i _ _ _=>p i
 | .bz i=>p i
 | .agg cs=>rK p cs
 | .aQ cs=>rK p cs
 | .aD _ cs=>rK p cs
 | .dq _ cs=>rK p cs
 |_=>false
def rK (p:Nat->Bool):List D->Bool
 |[]=>false
 |d::ds=>d.mb p||rK p ds
end
theorem AN {p:Nat->Bool}:∀{ds:List D},rK p ds=false->∀d∈ds,d.mb p=false
 |[],_,d,hd=>by cases hd
 |x::ds,h,d,hd=>by
  simp only[rK,zT]at h;rcases List.mem_cons.1 hd with rfl|hd
  ·exact h.1
  ·exact AN h.2 d hd
def oc (p:Nat->Bool)(d:D):D:=match d.mb p with|true=> .undef|false=>d
def nv (p:Nat->Bool):Bx->Bx
 | .mu cs=> .mu (cs.map (oc p))
 | .mp es=> .mp (es.map λe=>(oc p e.1,oc p e.2))
 |x=>x
def pT (p:Nat->Bool)(sl:Nat->D):Nat->D:=λm=>oc p (sl m)
theorem aeJ (p:Nat->Bool)(x:Bx):(nv p x).live=x.live:=by cases x<;>rfl
theorem Rel.rename {w:World}{g:Gh}{v:Value}{d:D}{p:Nat->Bool}(h:Rel w g v d):∀{g':Gh},g'.S=g.S->g'.ρ=g.ρ->g'.M=g.M->(∀(i b:Nat),p i=false->g.β[i]? =some b->g'.β[i]? =some b)->d.mb p=false->Rel w g' v d:=by
 induction h with
 |undef g v=>intros;exact .undef _ _
 |int g k n=>intros;exact .int _ _ _
 |bool g b=>intros;exact .bool _ _
 |str g s=>intros;exact .str _ _
 |val g v=>intros;exact .val _ _
 |list g A n c xs sz u hn bo fA hm hr ih=>
  intro g' h1 h2 h3 h4 _;refine .list _ A n c xs sz u hn bo fA (λq hq=> ?_) (λq d hd=> ?_)
  ·rw[h1];exact hm q hq
  ·have:g'.er=g.er:=by simp only[Gh.er,h1,h3]
   rw[this];exact hr q d hd
 |agg g vs cs hl gu hr ih=>
  intro g' h1 h2 h3 h4 hm;exact .agg _ vs cs hl gu (λq d hd=>ih q d hd h1 h2 h3 h4 (AN hm d (fM hd)))
 |aQ g vs ds hl hr ih=>
  intro g' h1 h2 h3 h4 hm;exact .aQ _ vs ds hl (λq d hd=>ih q d hd h1 h2 h3 h4 (AN hm d (fM hd)))
 |box g i off b hb=>intro g' h1 h2 h3 h4 hm;exact .box _ i off b (h4 _ _ hm hb)
 |ro g ad cs u hm hr ih=>
  intro g' h1 h2 h3 h4 _;refine .ro _ ad cs u (λq hq=> ?_) (λq d hd=> ?_)
  ·rw[h1];exact hm q hq
  ·have:g'.er=g.er:=by simp only[Gh.er,h1,h3]
   rw[this];exact hr q d hd
 |eN g b f h=>intro g' h1 h2 h3 h4 _;exact .eN _ b f (by rw[h3];exact h)
 |skp g=>intros;exact .skp _
 |any g v h1=>intros;exact .any _ v h1
 |bz g i b hb=>intro g' h1 h2 h3 h4 hm;exact .bz _ i b (h4 _ _ hm hb)
 |dq g f vs cs hl hr ih=>
  intro g' h1 h2 h3 h4 hm;exact .dq _ f vs cs hl (λq d hd=>ih q d hd h1 h2 h3 h4 (AN hm d (fM hd)))
 |a_ g i off n c b hb=>intro g' h1 h2 h3 h4 hm;exact .a_ _ i off n c b (h4 _ _ hm hb)
 |own g r' v h=>intro g' h1 h2 h3 h4 _;exact .own _ r' v (by rw[h2];exact h)
 |aD g f vs cs hl hr ih=>
  intro g' h1 h2 h3 h4 hm;exact .aD _ f vs cs hl (λq d hd=>ih q d hd h1 h2 h3 h4 (AN hm d (fM hd)))
theorem Rel.renamed {w:World}{g g':Gh}{v:Value}{d:D}(p:Nat->Bool)(h:Rel w g v d)(h1:g'.S=g.S)(h2:g'.ρ=g.ρ)(h3:g'.M=g.M)(h4:∀(i b:Nat),p i=false->g.β[i]? =some b->g'.β[i]? =some b):Rel w g' v (oc p d):=by
 unfold oc;cases hm:d.mb p with
 |true=>exact .undef _ _
 |false=>exact h.rename h1 h2 h3 h4 hm
theorem Names.mb {nb nr:Nat}{d:D}{p:Nat->Bool}(h:Names nb nr d)(hp:∀i,i < nb->p i=false):d.mb p=false:=by
 have key:∀cs:List D,(∀d∈cs,d.mb p=false)->rK p cs=false:=λcs=>by
  induction cs with
  |nil=>intro _;rfl
  |cons d cs ih=>intro h;simp only[rK,zT];exact⟨h d (ey ..),ih λx hx=>h x (List.mem_cons_of_mem _ hx)⟩
 induction h with
 |agg cs h ih=>exact key cs ih
 |aQ cs h ih=>exact key cs ih
 |aD f cs h ih=>exact key cs ih
 |dq f cs h ih=>exact key cs ih
 |box i off h=>exact hp i h
 |a_ i off n c h=>exact hp i h
 |bz i h=>exact hp i h
 |_=>rfl
section
variable {c:Ctx} {s:St} {a:Act} {w:World} {g:Gh}
theorem RG.NT (h:RG c s a w g)(i j0 m0 nb:Nat)(cs:List D)(hi:i < m0)(hm:m0<=s.bx.length)(hj:j0=i\/m0<=j0)(hb:s.bx[j0]? =some (.mu cs))(hβ:g.β[j0]? =some nb)(h0:c.β0.length<=i)
  (aE:∀d∈cs,d.mb (λj=>j == i||decide (m0<=j))=false):
  RG c ⟨s.n,pT (λj=>j == i||decide (m0<=j)) s.sl,((s.bx.take m0).map (nv (λj=>j == i||decide (m0<=j)))).set i (.mu cs),s.rw⟩ a w ⟨g.S,(g.β.take m0).set i nb,g.ρ,g.M⟩:=by
 have hml:m0<=g.β.length:=by rw[h.lβ];exact hm
 have Bv:∀(j b:Nat),(λj=>j == i||decide (m0<=j)) j=false->g.β[j]? =some b->((g.β.take m0).set i nb)[j]? =some b:=λj b hp hb=>by
  simp only[zT,beq_eq_false_iff_ne,ne_eq,decide_eq_false_iff_not]at hp;rw[gz (Ne.symm hp.1),ib,if_pos ag];exact hb
 generalize hp:(λj=>j == i||decide (m0<=j))=p at Bv aE⊢;have b9:∀{v:Value} {d:D},Rel w g v d->Rel w ⟨g.S,(g.β.take m0).set i nb,g.ρ,g.M⟩ v (oc p d):=λhr=>hr.renamed p rfl rfl rfl Bv;have jD:((g.β.take m0).set i nb)[i]? =some nb:=je (by rw[mG];omega);have en:i < ((s.bx.take m0).map (nv p)).length:=by rw[jU,mG];omega
 have hold:∀(j:Nat) (x:Bx),(((s.bx.take m0).map (nv p)).set i (.mu cs))[j]? =some x->(j=i/\x= .mu cs)\/(j≠i/\j < m0/\∃x0,s.bx[j]? =some x0/\x=nv p x0):=λj x hj=>by
  by_cases bd:j=i
  ·subst bd;rw[je en]at hj;exact .inl ⟨rfl,(Option.some.inj hj).symm⟩
  ·rw[gz (Ne.symm bd),dO,cS]at hj;obtain⟨x0,gp,rfl⟩:=hj;have eu:j < m0:=by have:=(bm.1 gp).1;rw[mG]at this;omega
   rw[ib,if_pos eu]at gp;exact .inr ⟨bd,eu,x0,gp,rfl⟩
 have AZ:∀(j b:Nat),j≠i->j < m0->(((g.β.take m0).set i nb)[j]? =some b↔g.β[j]? =some b):=λj b bd eu=>by
  rw[gz (Ne.symm bd),ib,if_pos eu]
 obtain⟨κ,k1,k2⟩:=h.ap;have hκ:κ nb= .inl j0:=k1 j0 _ nb hb rfl hβ;obtain⟨b0,uq,t0,e1,e2,e3,e4,e5,e6⟩:=(h.bx j0 cs hb).ex;rw[e1]at hβ;cases hβ
 refine⟨h.df.gh rfl (λj b hc bT=> ?_),h.sz,h.below,h.cY,h.bt,h.eD,h.S0,h.fU, ?_,h.lρ,λm=>b9 (h.sl m),λj ds gE=> ?_,λj ds gE=> ?_,λr row hr=> ?_, ?_,λj es gE=> ?_⟩
 ·have eu:j < c.β0.length:=(bm.1 hc).1;exact(AZ j b ag ag).2 bT
 ·simp only[List.length_set,mG,jU];rw[h.lβ]
 ·rcases hold j _ gE with⟨rfl,e⟩|⟨bd,eu,x0,gp,e⟩
  ·cases e;refine⟨nb,uq,t0,jD,e2,⟨e3.1,λq d hd=>⟨?_,(e3.2 q d hd).2⟩⟩,e4,e5,λhh=>by cases hh⟩;have hr:=b9 (e3.2 q d hd).1;have:oc p d=d:=by unfold oc;rw[aE d (fM hd)]
   rw[this]at hr;exact hr
  ·cases x0 with
   |mu Rj=>
    simp only[nv,Bx.mu.injEq]at e;subst e;obtain⟨b,vs,t,f1,f2,f3,f4,f5,f6⟩:=(h.bx j Rj gp).ex;refine⟨b,vs,t,(AZ j b bd eu).2 f1,f2,⟨by rw[jU];exact f3.1,λq d hd=> ?_⟩,f4,f5,λhh=>by cases hh⟩;rw[dO,cS]at hd;obtain⟨d0,jn,rfl⟩:=hd;exact⟨b9 (f3.2 q d0 jn).1,(f3.2 q d0 jn).2⟩
   |_=>simp only[nv]at e;cases e
 ·rcases hold j _ gE with⟨rfl,e⟩|⟨bd,eu,x0,gp,e⟩
  ·cases e
  ·cases x0 with
   |fz Rj=>
    simp only[nv,Bx.fz.injEq]at e;subst e;obtain⟨b,vs,t,f1,f2,f3,f4,f5,f6⟩:=(h.fz j ds gp).ex;exact⟨b,vs,t,(AZ j b bd eu).2 f1,f2,f3,f4,f5,f6⟩
   |_=>simp only[nv]at e;cases e
 ·obtain⟨v,f1,f2,f3⟩:=(h.rw r row hr).ex;exact⟨v,f1,f2.rename (p:=p) rfl rfl rfl Bv rfl,f3⟩
 ·refine⟨λb=>if b=nb then .inl i else κ b,λj x b gE hx bT=> ?_,λr row v gb hr hl hv aW=> ?_⟩
  ·rcases hold j _ gE with⟨rfl,e⟩|⟨bd,eu,x0,gp,e⟩
   ·rw[jD]at bT;cases bT
    simp
   ·have oZ:=(AZ j b bd eu).1 bT;have qQ:x0.live=true:=by rw[e,aeJ]at hx;exact hx
    have hk:=k1 j x0 b gp qQ oZ;by_cases yU:b=nb
    ·exfalso;subst yU;rw[hκ]at hk;injection hk with hk;rcases hj with hj|hj<;>omega
    ·simp[yU,hk]
  ·have hk:=k2 r row v gb hr hl hv aW;have yU:gb≠nb:=λe=>by subst e;rw[hκ]at hk;cases hk
   simp[yU,hk]
 ·rcases hold j _ gE with⟨rfl,e⟩|⟨bd,eu,x0,gp,e⟩
  ·cases e
  ·cases x0 with
   |mp nn=>
    simp only[nv,Bx.mp.injEq]at e;subst e;obtain⟨b,dw⟩:=h.mp j nn gp;refine⟨b,(AZ j b bd eu).2 dw.β, ?_,dw.nm,dw.own,dw.i_⟩;obtain⟨ms,cl,g1,g2,g3⟩:=dw.ex;refine⟨ms,cl,g1,by rw[jU];exact g2,λq e2 m he ga=> ?_⟩;rw[dO,cS]at he;obtain⟨e0,u9,rfl⟩:=he;obtain⟨r1,r2⟩:=g3 q e0 m u9 ga;exact⟨r1.renamed p rfl rfl rfl Bv,r2.renamed p rfl rfl rfl Bv⟩
   |_=>simp only[nv]at e;cases e
theorem XC (P:Program){w:World}(t ty e:TypeId)(i:TypeInfo)(ht:P.underlying t=some (.slice e))(hi:P.info? e=some i)(tb:TypeId×Bool)
  (g ry Al:Nat)(cur:Array Value)(hg:w.heap[g]? =some (.cells cur tb.1 (nk cur.size tb.2)))
  (a:Addr)(m c:Nat)(news:List Value)(hl:news.length=m * i.size)(qN:∀j u,news[j]? =some u->w.cell? (a.add j)=some u)(h1:∀u∈news,u.oneCell'=true)
  (qL:ry + m<=Al)(u5:ry * i.size + news.length<=cur.size):
  (uf #[t,t] ty #[.slice (some ⟨g,0,none⟩) ry Al, .slice (some a) m c]).run P w=
   .ok (.slice (some ⟨g,0,none⟩) (ry + m) Al) (w.setRow g (cur.toList.take (ry * i.size)++news++cur.toList.drop (ry * i.size + news.length)).toArray):=by
 have hf:=run_firstCells_some (P:=P) w i.size m a m c news hl qN;have bD:=Am P g (ry * i.size) tb.1 tb.2 news 0 cur w hg (by simpa using u5) h1;simp only[Nat.add_zero]at bD;simp[uf,run_underlying ht,sizeOf,typeInfo,hi,E',qL,hf,Addr.add_lit,bD]
def R' (c:Ctx)(t:TypeId)(x y:Operand)(dst:Option Tmp)(N:St->Prop)(s1:St):Prop:=
 bp s1 dst/\bn (elemOf c.P t) λe=>aJ c.P e≠0/\(bX c.P e).isSome=true/\lM s1.rw (s1.ev y) λys=>(∀z∈ys,z.cells.length=aJ c.P e)/\ys≠[]/\
  ∃i n cap cs,s1.ev x= .a_ i 0 n cap/\s1.bx[i]? =some (.mu cs)/\c.β0.length<=i/\cs.length=cap * aJ c.P e/\n<=cap/\n + ys.length<=9223372036854775807/\(n + ys.length) * bytesOf c.P e<=140737488355328/\
   (∀d∈cs,Names 0 0 d)/\
   ∀(U:List D) (H_:Nat),n + ys.length<=H_->(n + ys.length) * aJ c.P e + U.length=H_ * aJ c.P e->(∀d∈U,Names 0 0 d)->
    N (St.put ⟨s1.n,pT (λj=>j == i||decide (s1.bx.length<=j)) s1.sl,(s1.bx.map (nv (λj=>j == i||decide (s1.bx.length<=j)))).set i (.mu (cs.take (n * aJ c.P e)++flat ys++U)),s1.rw⟩ dst (.a_ i 0 (n + ys.length) H_))
theorem aZ.grow {K:St->Prop}{t ty:TypeId}{x y:Operand}{dst:Option Tmp}{pos:String}{aft:Array Edge}{gd:Option (Nat×Bool)}(h:R' c t x y dst K s):
  aZ c ⟨dst, .call ⟨.builtin .append,#[x,y],#[t,t]⟩,ty,pos,aft,gd⟩ s K:=by
 obtain⟨hd,h⟩:=h;obtain⟨e,he,hz,lv,h⟩:=cE h;rintro a w N' Q' ⟨g,hg⟩ hN;obtain⟨ys,hy,j7,hy0,i,n,cap,cs,hx,wR,uN,bE,rY,kK,hb,eT,hK⟩:=z6 hg.mem (hg.ev y) h;obtain⟨A,cy,Ft,uy,hv,GN,ma,s9⟩:=hy.qq;obtain⟨zs,gD⟩:=tV.1 lv;obtain⟨z0,fQ,iV,ti,hi,qR⟩:=vF gD w g;have bo:ti.size=aJ c.P e:=by simp[aJ,xx,hi]
 have mh:bytesOf c.P e=ti.bytes:=by simp[bytesOf,hi]
 have lC:0 < aJ c.P e:=S8 hz;have⟨z,j_,mU⟩:∃z,ti.zero=some z/\z.cells=z0.cells:=by
  unfold bX at gD;rw[hi]at gD;cases j_:ti.zero with
  |none=>simp[j_]at gD
  |some z'=>
   refine⟨z',rfl, ?_⟩;have:(zeroValue e).run c.P w= .ok z' w:=by simp[zeroValue,typeInfo,hi,j_]
   rw[this]at fQ;injection fQ with fQ;rw[fQ]
 have pM:=o8 (aJ c.P e) ys j7;have hlen:0 < ys.length:=zL.2 hy0;have qM:0 < (flat ys).length:=by rw[pM];exact Nat.mul_pos hlen lC
 obtain⟨ad,hA,_⟩:=ma 0 qM;subst hA;have eg:=hg.ev x;rw[hx]at eg;generalize qH:a.eval x=vx at eg;cases eg with
 |a_ _ _ _ _ _ b Qv=>
 obtain⟨b',vs,tb,e1,e2,e3,e4,e5,e6⟩:=(hg.bx i cs wR).ex;rw[e1]at Qv;cases Qv
 obtain⟨news,G5⟩:∃l,l=(dB (flat ys).length).map uy:=⟨_,rfl⟩;have rT:news.length=(flat ys).length:=by simp[G5]
 have dC:news.length=ys.length * ti.size:=by rw[rT,pM,bo]
 have qN:∀j u,news[j]? =some u->w.cell? (ad.add j)=some u/\u=uy j/\j < (flat ys).length:=λj u hj=>by
  rw[G5]at hj;simp only[dO,cS]at hj;obtain⟨j',hj,rfl⟩:=hj;have eu:=(bm.1 hj).1;have m_:=(bm.1 hj).2;simp at eu m_;subst m_;obtain⟨xg,e2,hc,_⟩:=ma j eu;cases e2;exact⟨hc,rfl,eu⟩
 have Qr:fF w g news.toArray (flat ys):=by
  refine⟨by simpa using rT,λq d hd=> ?_⟩;have hq:=(bm.1 hd).1;have hu:news.toArray.getD q bH=uy q:=by
   rw[lL];simp[G5,hq]
  rw[hu];obtain⟨_,_,_,_,ho⟩:=ma q hq;exact⟨(s9 q d hd).bb (rL _ _),ho⟩
 have P0:∀d∈flat ys,Names 0 0 d:=λd hd=>by
  obtain⟨q,hq⟩:=po.1 hd;have:=(s9 q d hq).names;simpa[Gh.er]using this
 have h1n:∀u∈news,u.oneCell'=true:=λu hu=>by
  obtain⟨q,hq⟩:=po.1 hu;obtain⟨_,rfl,hl⟩:=qN q u hq;exact(ma q hl).choose_spec.2.2.2
 have en:i < s.bx.length:=(bm.1 wR).1;have rZ:∀(i0 m0:Nat) (l:List D),(∀d∈l,Names 0 0 d)->∀d∈l,d.mb (λj=>j == i0||decide (m0<=j))=false:=λi0 m0 l hl d hd=>(hl d hd).mb (λj hj=>by omega);refine gK (by intro cl h;cases h) ?_;unfold Oper.wp;by_cases qL:n + ys.length<=cap
 ·have u5:n * ti.size + news.length<=vs.size:=by
   rw[e3.1,bE,dC,bo,<-pk];exact xA _ qL
  have hr:=XC c.P (w:=w) t ty e ti (k7 he) hi tb b n cap vs e2 ad ys.length cy news dC (λj u hj=>(qN j u hj).1) h1n qL u5;have bg:(execOp a.eval ⟨dst, .call ⟨.builtin .append,#[x,y],#[t,t]⟩,ty,pos,aft,gd⟩).run c.P w=
    .ok (.value (.slice (some ⟨b,0,none⟩) (n + ys.length) cap)) (w.setRow b (vs.toList.take (n * ti.size)++news++vs.toList.drop (n * ti.size + news.length)).toArray):=by
   simp[execOp,resolve,invoke,builtin,qH,hv,hr]
  rw[bg];obtain⟨cur,tb',f1,f2,f3⟩:=hg.store (off:=n * ti.size) wR e1 Qr (by rw[<-rT];rw[<-e3.1];exact u5);obtain rfl:vs=cur:=by
   rw[e2]at f1;simp only[Option.some.injEq,Obj.cells.injEq]at f1;exact f1.1
  have fY:(s.bx.set i (.mu (cs.take (n * ti.size)++flat ys++cs.drop (n * ti.size + (flat ys).length))))[i]? =some (.mu (cs.take (n * ti.size)++flat ys++cs.drop (n * ti.size + (flat ys).length))):=je en;have bu:∀d∈cs.take (n * ti.size)++flat ys++cs.drop (n * ti.size + (flat ys).length),Names 0 0 d:=λd hd=>by
   rcases gY.1 hd with hd|hd
   ·rcases gY.1 hd with hd|hd
    ·exact eT d (zI hd)
    ·exact P0 d hd
   ·exact eT d (Cm hd)
  have yG:=f3.NT i i s.bx.length b _ en ay (.inl rfl) fY e1 uN (rZ i s.bx.length _ bu);have bD:((List.take s.bx.length (s.bx.set i (.mu (cs.take (n * ti.size)++flat ys++cs.drop (n * ti.size + (flat ys).length))))).map (nv (λj=>j == i||decide (s.bx.length<=j)))).set i (.mu (cs.take (n * ti.size)++flat ys++cs.drop (n * ti.size + (flat ys).length)))=
    (s.bx.map (nv (λj=>j == i||decide (s.bx.length<=j)))).set i (.mu (cs.take (n * aJ c.P e)++flat ys++cs.drop (n * ti.size + (flat ys).length))):=by
   rw[List.take_of_length_le ay,List.map_set,List.set_set,bo]
  simp only at yG;rw[bD]at yG;have hU:=hK (cs.drop (n * ti.size + (flat ys).length)) cap qL (by
   rw[List.length_drop,bE,bo,pM];have:=xA (aJ c.P e) qL;rw[pk]at this⊢;omega) (λd hd=>eT d (Cm hd))
  refine hN _ _ _ ⟨_,yG.put ?_ (.a_ _ _ _ _ _ b ?_)⟩ hU
  ·cases dst<;>first|exact trivial|exact hd
  ·show((g.β.take s.bx.length).set i b)[i]? =_;exact je (by rw[mG,hg.lβ];omega)
 ·obtain⟨rD,PW⟩:∃l,l=vs.toList.take (n * ti.size):=⟨_,rfl⟩;have kX:n * ti.size<=vs.size:=by rw[e3.1,bE,bo];exact xA _ rY
  have td:rD.length=n * ti.size:=by rw[PW,mG,Array.length_toList];omega
  have holds:∀j u,rD[j]? =some u->w.cell? ((⟨b,0,none⟩:Addr).add j)=some u/\u=vs.getD j bH/\j < n * ti.size:=λj u hj=>by
   have eu:=(bm.1 hj).1;rw[td]at eu;rw[PW,ib,if_pos eu]at hj;have m_:j < vs.size:=ag;have hju:vs[j]=u:=by simpa[m_]using hj
   have hO:=(q7 e2 e3 0).1 j (by rw[List.drop_zero,<-e3.1];exact m_);simp only[Nat.zero_add]at hO;have hg:vs.getD j bH=u:=by simp[m_,hju]
   rw[hg]at hO;exact⟨hO.1,hg.symm,eu⟩
  have hr:=run_append_grow (P:=c.P) w t ty e ti z (k7 he) hi j_ ⟨b,0,none⟩ n cap rD td (λj u hj=>(holds j u hj).1) ad ys.length cy news dC (λj u hj=>(qN j u hj).1) ag ag (growslice_fits ag (by rw[<-mh];exact hb));have bg:(execOp a.eval ⟨dst, .call ⟨.builtin .append,#[x,y],#[t,t]⟩,ty,pos,aft,gd⟩).run c.P w=
    .ok (.value (.slice (some ⟨w.heap.size,0,none⟩) (n + ys.length) (grownCap w (n + ys.length) cap e))) (w.drew.alloc (.cells (rD.toArray++news.toArray++mJ z.cells (grownCap w (n + ys.length) cap e - (n + ys.length))) e)):=by
   simp[execOp,resolve,invoke,builtin,qH,hv,hr]
  rw[bg];have cK:RG c s a w.drew g:=hg.world (w':=w.drew) (S':=g.S) ⟨rfl,rfl,rfl,cx _,λ_ _=>rfl⟩ (λ_ h=>h) (λ_ h=> .inl h) hg.bt;obtain⟨m,hm⟩:∃m,m=(grownCap w (n + ys.length) cap e - (n + ys.length)) * z.cells.size:=⟨_,rfl⟩;have A6:(mJ z.cells (grownCap w (n + ys.length) cap e - (n + ys.length))).size=m:=by rw[hm];exact size_zeroCells _ _
  have GF:z.cells.size=aJ c.P e:=by rw[mU,iV.1,<-qR,bo]
  have Qp:∀{v:Value} {d:D},Rel w g v d->Rel w.drew g v d:=λhr=>hr.bb ⟨λ_ _=>rfl,λ_ h=>h,λ_ _ h=>h,λ_ _ h=>h,λ_ _ h=>h⟩;have oS:(cs.take (n * aJ c.P e)).length=n * aJ c.P e:=by rw[mG,bE];have:=xA (aJ c.P e) rY;omega
  have wO:fF w.drew g (rD.toArray++news.toArray++mJ z.cells (grownCap w (n + ys.length) cap e - (n + ys.length))) (cs.take (n * aJ c.P e)++flat ys++bP m .undef):=by
   refine⟨by simp only[Array.size_append,A6,xD,ia,zK,td,rT,oS,bo],λq d hd=> ?_⟩;have jm:=(bm.1 hd).1;simp only[ia,zK,oS]at jm;rw[lL];by_cases yH:q < n * aJ c.P e
   ·have abA:q < rD.toArray.size:=by rw[xD,td,bo];exact yH
    rw[rh,cZ (by rw[oS];exact yH),ib,if_pos yH]at hd;rw[Array.append_assoc,Ff abA];have hu:rD.toArray[q]?.getD bH=vs.getD q bH:=by
     have A9:q < rD.length:=by rw[td,bo];exact yH
     have:=(holds q rD[q] (cX A9)).2.1;rw[<-this];simp[A9]
    rw[hu];exact⟨Qp (e3.2 q d hd).1,(e3.2 q d hd).2⟩
   ·by_cases A9:q < n * aJ c.P e + (flat ys).length
    ·rw[rh,gk (by rw[oS];omega),cZ (by rw[oS];omega),oS]at hd;rw[Array.append_assoc,Jb (by rw[xD,td,bo];omega),Ff (by rw[xD,xD,td,bo,rT];omega),xD,td,bo];have:=Qr.2 _ d hd;rw[lL]at this;exact⟨Qp this.1,this.2⟩
    ·rw[gk (by rw[ia,oS];omega)]at hd;have ed:d= .undef:=by
      have:=(bm.1 hd).2;simpa using this.symm
     subst ed;refine⟨.undef _ _, ?_⟩;have l_:(rD.toArray++news.toArray).size=n * aJ c.P e + (flat ys).length:=by rw[Array.size_append,xD,xD,td,bo,rT]
     rw[Jb (by rw[l_];omega),l_];rw[<-lL];refine Fh _ (λk hk=> ?_) _ _ (by rw[<-hm];omega);rw[mU]at hk⊢;have Bi:k < zs.length:=by rw[<-iV.1];exact hk
     exact(iV.2 k zs[k] (cX Bi)).2
  have BB:=cK.alloc (t:=e) wO;have bu:∀d∈cs.take (n * aJ c.P e)++flat ys++bP m .undef,Names 0 0 d:=λd hd=>by
   rcases gY.1 hd with hd|hd
   ·rcases gY.1 hd with hd|hd
    ·exact eT d (zI hd)
    ·exact P0 d hd
   ·rw[(xF.1 hd).2];exact .undef
  have n4:(s.bx++[Bx.mu (cs.take (n * aJ c.P e)++flat ys++bP m .undef)])[s.bx.length]? =some (.mu (cs.take (n * aJ c.P e)++flat ys++bP m .undef)):=by simp
  have abi:(g.β++[w.drew.heap.size])[s.bx.length]? =some w.drew.heap.size:=by rw[<-hg.lβ];simp
  have yG:=BB.NT i s.bx.length s.bx.length _ _ en ay (.inr (cx _)) n4 abi uN (rZ i s.bx.length _ bu);simp only[List.take_left]at yG;have fA:=grownCap_ge w (n + ys.length) cap e;have hU:=hK (bP m .undef) (grownCap w (n + ys.length) cap e) fA (by
   rw[zK,hm,GF,<-pk]
   congr 1
   omega) (λd hd=>by rw[(xF.1 hd).2];exact .undef)
  refine hN _ _ _ ⟨_,yG.put ?_ (.a_ _ _ _ _ _ w.heap.size ?_)⟩ hU
  ·cases dst<;>first|exact trivial|exact hd
  ·exact je (by rw[mG,ia,hg.lβ];omega)
def Sa (c:Ctx)(t:TypeId)(x:Operand)(dst:Option Tmp)(N:St->Prop)(s1:St):Prop:=
 bp s1 dst/\bn (elemOf c.P t) λe=>aJ c.P e≠0/\(bX c.P e).isSome=true/\lM s1.rw (s1.ev x) λys=>(∀y∈ys,y.cells.length=aJ c.P e)/\ys≠[]/\ys.length<=9223372036854775807/\ys.length * bytesOf c.P e<=140737488355328/\
  ((∀d∈flat ys,Names 0 0 d)->∀(U:List D) (cap:Nat),ys.length<=cap->ys.length * aJ c.P e + U.length=cap * aJ c.P e->(∀d∈U,Names 0 0 d)->N (St.put {s1 with bx:=s1.bx++[.mu (flat ys++U)]} dst (.a_ s1.bx.length 0 ys.length cap)))
theorem aZ.aem {K:St->Prop}{gd:Option (Nat×Bool)}{t ty:TypeId}{x:Operand}{dst:Option Tmp}{pos:String}{aft:Array Edge}(h:Sa c t x dst K s):
  aZ c ⟨dst, .call ⟨.builtin .append,#[.const (.slice none 0 0),x],#[t,t]⟩,ty,pos,aft,gd⟩ s K:=by
 obtain⟨hd,h⟩:=h;obtain⟨e,he,hz,lv,h⟩:=cE h;rintro a w N' Q' ⟨g,hg⟩ hN;obtain⟨ys,hy,j7,h0,kK,hb,h2⟩:=z6 hg.mem (hg.ev x) h;obtain⟨A,cy,Ft,uy,hv,GN,ma,s9⟩:=hy.qq;obtain⟨zs,gD⟩:=tV.1 lv;obtain⟨z0,fQ,iV,i,hi,qR⟩:=vF gD w g;have bo:i.size=aJ c.P e:=by simp[aJ,xx,hi]
 have mh:bytesOf c.P e=i.bytes:=by simp[bytesOf,hi]
 have lC:0 < aJ c.P e:=S8 hz;have⟨z,j_,mU⟩:∃z,i.zero=some z/\z.cells=z0.cells:=by
  unfold bX at gD;rw[hi]at gD;cases j_:i.zero with
  |none=>simp[j_]at gD
  |some z'=>
   refine⟨z',rfl, ?_⟩;have:(zeroValue e).run c.P w= .ok z' w:=by simp[zeroValue,typeInfo,hi,j_]
   rw[this]at fQ;injection fQ with fQ;rw[fQ]
 have pM:=o8 (aJ c.P e) ys j7;refine gK (by intro cl h;cases h) ?_;unfold Oper.wp;have nX:a.eval (.const (.slice none 0 0))= .slice none 0 0:=rfl;have hlen:0 < ys.length:=zL.2 h0;have qM:0 < (flat ys).length:=by rw[pM];exact Nat.mul_pos hlen lC
 obtain⟨ad,hA,_⟩:=ma 0 qM;subst hA
 let news:=(dB (flat ys).length).map uy
 have dC:news.length=ys.length * i.size:=by simp[news,pM,bo]
 have qN:∀j u,news[j]? =some u->w.cell? (ad.add j)=some u:=λj u hj=>by
  simp only[news,dO,cS]at hj;obtain⟨j',hj,rfl⟩:=hj;have eu:=(bm.1 hj).1;have m_:=(bm.1 hj).2;simp at eu m_;subst m_;obtain⟨xg,e2,hc,_⟩:=ma j eu;cases e2;exact hc
 have hr:=Go.run_append_nil (P:=c.P) w t ty e i z (k7 he) hi j_ ad ys.length cy news dC qN hlen ag (by rw[<-mh];omega);have bg:(execOp a.eval ⟨dst, .call ⟨.builtin .append,#[.const (.slice none 0 0),x],#[t,t]⟩,ty,pos,aft,gd⟩).run c.P w=
   .ok (.value (.slice (some ⟨w.heap.size,0,none⟩) ys.length (grownCap w ys.length 0 e))) (w.drew.alloc (.cells (news.toArray++mJ z.cells (grownCap w ys.length 0 e - ys.length)) e)):=by
  simp[execOp,resolve,invoke,builtin,nX,hv,hr]
 rw[bg];have cK:RG c s a w.drew g:=hg.world (w':=w.drew) (S':=g.S) ⟨rfl,rfl,rfl,cx _,λ_ _=>rfl⟩ (λ_ h=>h) (λ_ h=> .inl h) hg.bt;have A6:(mJ z.cells (grownCap w ys.length 0 e - ys.length)).size=(grownCap w ys.length 0 e - ys.length) * z.cells.size:=size_zeroCells _ _;have wO:fF w.drew g (news.toArray++mJ z.cells (grownCap w ys.length 0 e - ys.length)) (flat ys++bP ((grownCap w ys.length 0 e - ys.length) * z.cells.size) .undef):=by
  refine⟨by simp[A6,news],λq d hd=> ?_⟩;have jm:=(bm.1 hd).1;simp only[ia,zK]at jm;have rT:news.length=(flat ys).length:=by simp[news]
  by_cases hq:q < (flat ys).length
  ·rw[cZ hq]at hd;have hu:(news.toArray++mJ z.cells (grownCap w ys.length 0 e - ys.length)).getD q bH=uy q:=by
    rw[lL,Ff (by simp;omega)];simp[news,hq]
   rw[hu];obtain⟨_,_,_,_,ho⟩:=ma q hq;exact⟨((s9 q d hd).bb (rL _ _)).bb ⟨λ_ _=>rfl,λ_ h=>h,λ_ _ h=>h,λ_ _ h=>h,λ_ _ h=>h⟩,ho⟩
  ·rw[gk ag]at hd;have ed:d= .undef:=by
    have:=(bm.1 hd).2;simpa using this.symm
   subst ed;refine⟨.undef _ _, ?_⟩;have hu:(news.toArray++mJ z.cells (grownCap w ys.length 0 e - ys.length)).getD q bH=(mJ z.cells (grownCap w ys.length 0 e - ys.length)).getD (q - news.length) bH:=by
    rw[lL,lL,Jb (by simp;omega)];simp
   rw[hu];refine Fh _ (λk hk=> ?_) _ _ ag;rw[mU]at hk⊢;have Bi:k < zs.length:=by rw[<-iV.1];exact hk
   exact(iV.2 k zs[k] (cX Bi)).2
 have BB:=cK.alloc (t:=e) wO;have GF:z.cells.size=aJ c.P e:=by rw[mU,iV.1,<-qR,bo]
 refine hN _ _ _ ⟨_,BB.put ?_ (.a_ _ _ _ _ _ w.heap.size ?_)⟩ (h2 (λd hd=>by
  obtain⟨q,hq⟩:=po.1 hd;simpa[Gh.er]using(s9 q d hq).names) _ _ (grownCap_ge w ys.length 0 e) (by
  rw[zK,GF,<-pk];have:=grownCap_ge w ys.length 0 e
  congr 1
  omega) (λd hd=>by rw[(xF.1 hd).2];exact .undef))
 ·cases dst<;>first|exact trivial|exact hd
 ·show(g.β++[w.drew.heap.size])[s.bx.length]? =_;rw[<-hg.lβ];simp
theorem aZ.rF {K:St->Prop}{fx:Operand}{xs:Array Operand}{dst:Option Tmp}{at_:Array TypeId}{ty:TypeId}{pos:String}{aft:Array Edge}{gd:Option (Nat×Bool)}(h:mz c K fx xs.toList dst s):
  aZ c ⟨dst, .call ⟨.value fx,xs,at_⟩,ty,pos,aft,gd⟩ s K:=λa w N' Q' hr hN=>by
 have:=Ib (y:=⟨dst, .call ⟨.value fx,xs,at_⟩,ty,pos,aft,none⟩) (Q':=Q') rfl hr h hN;exact this
def vl (ops:List Oper)(j:Nat)(want:Bool)(dst:Option Tmp)(At:(St->Prop)->St->Prop)(N:St->Prop)(s1:St):Prop:=
 bn (iD ops j) λt=>wG (s1.sl t) (bp s1 dst/\N (s1.put dst .skp)) λb=>(b=want->At N s1)/\(b= !want->bp s1 dst/\N (s1.put dst .skp))
theorem Ex {Q:Exit->St->Prop}{id:Nat}{l:List Oper}(n:Nat){dst:Option Tmp}{op:Op}{ty:TypeId}{pos:String}{aft:Array Edge}{j:Nat}{want:Bool}(At:(St->Prop)->St->Prop)(hy:∀(N:St->Prop) (s1:St),At N s1->aZ c ⟨dst,op,ty,pos,aft,some (j,want)⟩ s1 N)
  (hl:l=l.take n++⟨dst,op,ty,pos,aft,some (j,want)⟩::l.drop (n + 1))(wM:∀cl,op≠ .defer cl)
  (h:∀K1:St->Prop,(∀s1,vl l j want dst At (λs2=>cq c.P l (l.drop (n + 1)) s2 (λs2=>Q .normal s2)) s1->K1 s1)->cq c.P l (l.take n) s K1):
  az c (.region id l.toArray false) Q s:=by
 intro a w hr;refine wpIn_region_lit ?_;rw[hl];rw[hl]at h;have kZ:(l.take n++(⟨dst,op,ty,pos,aft,some (j,want)⟩:Oper)::l.drop (n + 1)).take n=l.take n:=by rw[<-hl]
 have fH:(l.take n++(⟨dst,op,ty,pos,aft,some (j,want)⟩:Oper)::l.drop (n + 1)).drop (n + 1)=l.drop (n + 1):=by rw[<-hl]
 rw[kZ,fH]at h;generalize l.take n=l1 at *;generalize l.drop (n + 1)=l2 at *;refine pQ (c:=c) (λs1 a1 w1 hH ba=> ?_) l1 s a w hr (h _ (λs1 h1=>h1));obtain⟨y,wo⟩:∃y:Oper,y=⟨dst,op,ty,pos,aft,some (j,want)⟩:=⟨_,rfl⟩;rw[<-wo]at hy ba⊢;have cK:y.guard=some (j,want):=by rw[wo]
 show wpListIn c.F 0 c.P _ _ (y::l2) a1 w1;unfold wpListIn;obtain⟨t,ht,ba⟩:=cE ba;obtain⟨g1,bM⟩:=hH;have last:∀(s3:St) a3 w3,R c s3 a3 w3->cq c.P (l1++y::l2) l2 s3 (λs2=>Q .normal s2)->wpListIn c.F 0 c.P (l1++y::l2).toArray (λe a w=>∃s',R c s' a w/\Q e s') l2 a3 w3:=
  λs3 a3 w3 kz mZ=>n9 (c:=c) (K:=λs2=>Q .normal s2) (λs4 a4 w4 oU pL=>⟨s4,oU,pL⟩) l2 _ _ _ kz mZ
 have oQ:y.dst=dst:=by rw[wo]
 cases hb:s1.sl t<;>rw[hb]at ba<;>simp only[wG]at ba
 case skp=>
  have pF:=R.v7 (ops:=(l1++y::l2).toArray) bM (by simpa using ht) hb;rw[if_neg (by simp[d_,cK,pF])];refine⟨λ_ _=>trivial, ?_⟩;rw[oQ];exact last _ _ _ ⟨g1,bM.put ba.1 (.skp _)⟩ ba.2
 rename_i b;have pF:=R.yielded (ops:=(l1++y::l2).toArray) bM (by simpa using ht) hb;by_cases e_:b=want
 ·subst e_;rw[if_pos (by simp[d_,cK,pF])];exact hy _ s1 (ba.1 rfl) a1 w1 _ _ ⟨g1,bM⟩ last
 ·have nh:b= !want:=by cases b<;>cases want<;>simp_all
  rw[if_neg (by simp[d_,cK,pF,e_])];obtain⟨hd,h2⟩:=ba.2 nh;refine⟨λ_ _=>trivial, ?_⟩;rw[oQ];exact last _ _ _ ⟨g1,bM.put hd (.skp _)⟩ h2
end
attribute[go_sem] R' Sa vl D.mb rK oc nv
@[go_sem] theorem aeI {p:Nat->Bool}{sl:Nat->D}{n:Nat}{v:D}:pT p (put sl n v)=put (pT p sl) n (oc p v):=by
 funext m;simp only[pT,put];split<;>rfl
end Go.Ab
