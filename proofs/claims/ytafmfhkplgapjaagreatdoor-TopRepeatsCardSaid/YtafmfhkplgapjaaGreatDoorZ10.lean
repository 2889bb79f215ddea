import Derived.Test.YtafmfhkplgapjaaGreatDoorZ09
set_option linter.unusedVariables false
set_option linter.unusedSimpArgs false
open And renaming intro->af
open Array renaming replicate->gW
open Bool renaming and_eq_true->c_,and_true->yg,false_eq_true->bK,not_false->pO,not_true->Ae,or_eq_true->qI
open ByteArray renaming mk->gJ
open Go.Fence renaming wide->cE
open Go.Lib renaming decDigits->qG,decDigits_length->alR,nDigits_small->alQ,trimPrefix->XJ,indexByte->ya
open List renaming all_eq_true->iD,any_eq_true->Jz,append_nil->eu,cons_append->eR,contains_iff_mem->Jy,drop_drop->FC,drop_eq_getElem_cons->v_,foldr->e_,foldr_cons->OL,getD_eq_getElem?_getD->ic,getElem?_append_left->bQ,getElem?_eq_getElem->bS,getElem?_eq_none->pM,getElem?_eq_some_iff->aQ,getElem?_map->cO,getElem?_set_ne->gj,getElem?_set_self->jg,getElem_mem->zW,headD_cons->iC,length_append->eQ,length_cons->lV,length_singleton->Cj,length_take->mH,map_append->x_,map_congr_left->oS,map_id->v8,mem_append->fA,mem_cons->eK,mem_cons_of_mem->dW,mem_cons_self->dI,mem_filter->Jv,mem_flatMap->zT,mem_map->eJ,mem_replicate->rv,nil_append->eI,nodup_nil->uK,not_mem_nil->ny,range->ct,replicate->cD,replicate_succ'->alH,take_length->Ci,take_of_length_le->xZ,take_succ_eq_append_getElem->Fv
open Nat renaming le_refl->aY,lt_or_ge->ft,not_lt_zero->dF,zero_le->bD
open Option renaming getD_some->e8,map_some->eH
open Go.Region renaming binds->gV,wanted->eh
open Go.Proofs.Tryz renaming f101->pK,f127->OB,prog->aa
open Go.Proofs.Tryz
namespace Go.Ab
open Go.RowKit Go
theorem GU {bx:List Bx}{rw:List Row}:∀{cs:List D},(∀d∈cs,ph bx rw d=some d)->jy bx rw cs=some cs
 |[],_=>rfl
 |d::cs,h=>by
  simp only[jy,h d (dI ..),GU (λx hx=>h x (dW _ hx)),eH]
section
variable {c:Ctx}
theorem bX.N0 {n:Nat}{sl:Nat->D}{bx:List Bx}{aD:List Row}(j q i:Nat){cs:List D}{ys U:List D}{cap sz:Nat}(hj:bx[j]? =some (.mu cs))(hq:cs[q]? =some (.aN i 0 ys.length cap))(hi:bx[i]? =some (.fz (flat ys++U)))(aR:∀y∈ys,y.cells.length=sz)(hc:ys.length<=cap):
  bX c ⟨n,sl,bx,aD⟩ ⟨n,sl,bx.set j (.mu (cs.set q (.list ys))),aD⟩:=by
 rintro a w ⟨g,hg⟩;have dE:j < bx.length:=(aQ.1 hj).1;have hold:∀(k:Nat) (x:Bx),(bx.set j (.mu (cs.set q (.list ys))))[k]? =some x->(k=j/\x= .mu (cs.set q (.list ys)))\/(k≠j/\bx[k]? =some x):=λk x hk=>by
  by_cases jH:k=j
  ·subst jH;rw[jg dE]at hk;exact .inl ⟨rfl,(Option.some.inj hk).symm⟩
  ·rw[gj (Ne.symm jH)]at hk;exact .inr ⟨jH,hk⟩
 obtain⟨κ,k1,k2⟩:=hg.ap;obtain⟨b0,sH,t0,e1,e2,e3,e4,e5,_⟩:=(hg.bx j cs hj).ex;have e3:fZ w g sH cs:=e3;have jE:q < cs.length:=(aQ.1 hq).1;refine⟨g,hg.df,hg.sz,hg.below,hg.cu,hg.ba,hg.en,hg.S0,hg.fJ,by simpa using hg.lβ,hg.lρ,hg.sl,λk cm hk=> ?_,λk cm hk=> ?_,hg.rw,⟨κ,λk x b hk hx hb=> ?_,k2⟩,λk es hk=> ?_⟩
 ·rcases hold k _ hk with⟨rfl,e⟩|⟨_,hk⟩
  ·cases e;refine⟨b0,sH,t0,e1,e2,⟨by rw[List.length_set];exact e3.1,λp d hd=> ?_⟩,e4,e5,λhh=>by cases hh⟩;by_cases n5:q=p
   ·subst n5;rw[jg jE]at hd;cases hd;have hx:=e3.2 q _ hq;refine⟨?_,hx.2⟩;generalize hv:sH.getD q undef=v at hx;have Hs:=hx.1;cases Hs with
    |aN _ _ _ _ _ b hb=>
     obtain⟨b',vs,t,f1,f2,f3,f4,_,f6⟩:=(hg.fz i _ hi).ex;rw[f1]at hb;cases hb
     obtain⟨h1,h2⟩:=vP f2 f3 0;show Rel w g _ _;refine .list _ _ _ _ _ sz (λq=>vs.getD (0 + q) Go.undef) rfl aR hc (λq hq=> ?_) (λq d hd=> ?_)
     ·have dP:q < (flat ys++U).length:=by rw[eQ];omega
      refine⟨_,rfl,(h1 q (by simpa using dP)).1, ?_,(h1 q (by simpa using dP)).2⟩;rw[nt];exact f6 rfl _ ae
     ·refine h2 q d ?_;rw[List.drop_zero,bQ (aQ.1 hd).1];exact hd
   ·rw[gj n5]at hd;exact e3.2 p d hd
  ·exact hg.bx k cm hk
 ·rcases hold k _ hk with⟨_,e⟩|⟨_,hk⟩
  ·cases e
  ·exact hg.fz k cm hk
 ·rcases hold k _ hk with⟨rfl,_⟩|⟨_,hk⟩
  ·exact k1 k _ b hj rfl hb
  ·exact k1 k x b hk hx hb
 ·rcases hold k _ hk with⟨_,e⟩|⟨_,hk⟩
  ·cases e
  ·exact hg.mp k es hk
end
end Go.Ab
namespace Go.Proofs.YtafmfhkplgapjaaGreatDoor
set_option maxRecDepth 100000
set_option maxHeartbeats 4000000
open Go.Ab
attribute[local irreducible] av dL dY ak aH IA ez aP
abbrev ux (l:List (b9×Int)):List D:=flat (l.map mF)
theorem IM (l:List (b9×Int)):∀x∈l.map mF,x.cells.length=10:=λx hx=>by obtain⟨y,_,rfl⟩:=eJ.1 hx;rfl
theorem aiP (l:List (b9×Int))(bz:l≠[])(hl:l.length<=1000)(bx:List Bx)(rw:List Row):aH aa 81 [.list (l.map mF)] bx rw (λd aB aD=>∃m cap,l.length<=cap/\d= .aN bx.length 0 l.length cap/\aB=bx++[.mu (ux l++cD m .undef)]/\aD=rw):=by
 refine cU func81 ntmps81 results81 call81 λW0 S0 M0 own β hβ=> ?_;repeat'(first|(show av _ (.region 1 _ _) _ _;refine oK 1 (E6 _ 22 (.tmp 3) (some 4)) (λ_ _ h=>aP.dup h) rfl rfl (λK1 aA=> ?_);refine aj ?_)|(refine aA _ ⟨(bC rfl), ?_⟩;clear aA K1;refine aj ?_)|(show cC _ _ _ _ _;refine aj ?_)|refine aq ?_|refine au λK hK=> ?_|(intro hg;try exact ai)|exact fin|apply af)
 all_goals first
  |(exact IM l _ (by assumption))
  |(exfalso;exact bz (by simpa using hg))
  |exact⟨_,_,hg,rfl,rfl⟩
theorem Vp (l:List (b9×Int)):(ux l).length=l.length * 10:=by have:=qq 10 (l.map mF) (IM l);simpa using this
theorem ahy (l:List (b9×Int))(U:List D)(j q:Nat)(hj:j < l.length)(hq:q < 10):(ux l++U)[j * 10 + q]? =(mF (nth l j)).cells[q]? :=by
 rw[bQ (by rw[Vp];omega)];exact Im 10 (l.map mF) j (mF (nth l j)) (IM l) (by rw[cO,bS hj,wM l j hj];rfl) q hq
theorem aiT {α:Type}{l:List α}{k:Nat}{x:α}(h:l[k]? =some x):∃t,l.drop k=x::t:=by
 obtain⟨hk,rfl⟩:=aQ.1 h;exact⟨_,v_ hk⟩
theorem ac_ {α:Type}{l:List α}{k:Nat}{x:α}(h:l[k]? =some x):l.take k++[x]++l.drop (k + 1)=l:=by
 obtain⟨hk,rfl⟩:=aQ.1 h;rw[List.append_assoc,List.singleton_append,<-v_ hk,List.take_append_drop]
theorem ec {nb nr:Nat}:∀{cs:List D},(∀d∈cs,cq nb nr d=true)->bN nb nr cs=true
 |[],_=>rfl
 |d::cs,h=>by
  simp only[bN,h d (dI ..),Bool.true_and];exact ec λx hx=>h x (dW _ hx)
theorem ahx (l:List (b9×Int))(m nb nr:Nat):bN nb nr (ux l++cD m .undef)=true:=ec λd hd=>by
 rcases fA.1 hd with hd|hd
 ·simp only[ux,flat,zT,eJ]at hd;obtain⟨x,⟨y,_,rfl⟩,hd⟩:=hd;simp only[D.cells,eK,ny,or_false]at hd;rcases hd with rfl|rfl|rfl|rfl|rfl|rfl|rfl|rfl|rfl|rfl<;>rfl
 ·rw[(rv.1 hd).2];rfl
theorem ahw (l:List (b9×Int))(m:Nat)(bx:List Bx)(rw:List Row):jy bx rw (ux l++cD m .undef)=some (ux l++cD m .undef):=GU λd hd=>by
 rcases fA.1 hd with hd|hd
 ·simp only[ux,flat,zT,eJ]at hd;obtain⟨x,⟨y,_,rfl⟩,hd⟩:=hd;simp only[D.cells,eK,ny,or_false]at hd;rcases hd with rfl|rfl|rfl|rfl|rfl|rfl|rfl|rfl|rfl|rfl<;>rfl
 ·rw[(rv.1 hd).2];rfl
abbrev aac (s:aJ)(i n cap:Nat):List D:= .aN i 0 n cap::(eb s).drop 1
abbrev aaa:List D:=[tZ,tZ,tZ,i64 0,i64 0,i64 0,i64 0,i64 0,i64 0,i64 0,i64 0,tZ,tZ,tZ,i64 0,i64 0,i64 0,i64 0,i64 0,i64 0,tZ,i64 0,i64 0,i64 0,i64 0]
theorem aeN (s:aJ)(h:kJ s)(hs:qB s):ak aa 30 [ji s] (ji s):=by
 obtain⟨m1,m2,m3,m4,m5,m6,m7,m8⟩:=hs;have h1:=h.1;have bz:s.aL≠[]:=λe=>by rw[e]at h1;simp at h1
 have d1:=aiK s.fl ae;have d2:=VL s.tu ae;have d3:=aiL s.w.rp ae;have d4:=aiN s.w.lk ae;have d5:=aiM s.w.pt ae;have d6:=VL s.wt ae;refine cT func30 ntmps30 results30 call30 λw0 S0 M0=> ?_;repeat'(first|(show av _ (.region 1 _ _) _ _;refine et 2 rfl (λK1 aA=> ?_);refine aj ?_)|(refine aA _ (akV ?_ (bC rfl));clear aA K1;refine aj ?_;refine⟨_,E7,(aiP s.aL bz ae _ _).mono ?_⟩;rintro d aB aD ⟨m,cap,eO,rfl,rfl,rfl⟩;simp only[aU,Nat.reduceAdd];refine aj ?_)|refine aq ?_|refine au λK hK=> ?_|(intro hg;try exact ai)|exact fin|apply af)
 refine dn (ι:=Nat) (λj=>[(1, .box 0 0),(2, .box 1 0),(11,i64 s.aL.length),(12,i64 j)]) (λ_=>[.mu (aac s 2 s.aL.length cap), .mu aaa, .mu (ux s.aL++cD m .undef)]) (λ_=>[])
  (λj=>j<=s.aL.length) (λj=>s.aL.length - j) (λ_ _=>⟨rfl,by simp only[a7,ahx,yg];rfl⟩) 0 (bD _) bY (λj hj=> ?_)
 by_cases aG:j < s.aL.length
 ·have im:=ahy s.aL (cD m .undef) j 8 aG aE;have im:(ux s.aL++cD m .undef)[j * 10 + 8]? =some (.list ((nth s.aL j).1.ck.map mE)):=im;rw[show j * 10 + 8=0 + j * 10 + 0 + 8 by omega]at im;obtain⟨tl,qc⟩:=aiT im;have lQ:=ac_ im;have nh:=m1 j aG ae;have dc:=aiO (nth s.aL j).1.ck ae;have T4:=Vp s.aL;refine sX (af @qc (@lQ)) ?_;repeat'(first|refine bh ?_|((first|refine bj λK hK=> ?_|refine bg ?_|show bb _ _ _ _ _|refine bo (dc) ?_);(refine sX (af @qc (@lQ)) ?_))|(intro hg;try exact ai)|exact fin|apply af)
  all_goals first|(exact⟨j + 1,ae,ae,br rfl (by try refine sX (af @qc (@lQ)) ?_;try simp) ⟨_,rfl⟩ ⟨_,rfl⟩⟩)
 ·obtain rfl:j=s.aL.length:=ae;refine aj ?_;repeat'(first|(show av _ (.region 11 _ _) _ _;refine ep (bX.freeze 2 rfl (ahw _ _ _ _)) ?_;refine ep (bX.N0 0 0 2 (ys:=s.aL.map mF) (U:=cD m .undef) (cap:=cap) (sz:=10) rfl aO rfl (IM _) (by simpa using eO)) ?_;simp only[aU];refine kI λK hK=> ?_;refine aj ?_)|refine aq ?_|((first|(show av _ (.region 8 _ true) _ _;refine xP [] Tryz.ty.mixed ax λK hK=> ?_)|(show av _ (.region 9 _ true) _ _;refine xP [] Tryz.ty.mixed ax λK hK=> ?_)|show Sep _ _);refine aj ?_)|refine au λK hK=> ?_|refine cA (d1) ?_|refine cA (d2) ?_|refine cA (d3) ?_|refine cA (d4) ?_|refine cA (d5) ?_|refine cA (d6) ?_|(intro hg;try exact ai)|exact fin|apply af)
  all_goals trace_state
end Go.Proofs.YtafmfhkplgapjaaGreatDoor
namespace Go.Proofs.YtafmfhkplgapjaaGreatDoor
open Go.Ab
attribute[local irreducible] av dL dY ak aH IA ez aP fM
abbrev Ww (s:aJ)(cost:Int):List D:=eb s++[.own 0, .own 1, .bu 1,i64 cost, .own 2, .bool true]
def gu (t:Int)(j:Nat):eP:=⟨false, .yes,0,λ_=>[t,(j:Int)],[]⟩
def mc (t:Int)(n:Nat):List D:=(ct n).map λq=> .bM (gu t q)
abbrev bG (n:Nat):Row:=⟨true,95,1,mc 0 n⟩
abbrev az (n:Nat):Row:=⟨true,161,1,cD n .any⟩
end Go.Proofs.YtafmfhkplgapjaaGreatDoor
namespace Go.Ab
theorem iK {c:Ctx}{N:St->Prop}{fx:Operand}{xs:List Operand}{dst:Option Tmp}{s1:St}{f:FuncId}{cs ds:List D}{bx:List Bx}{aD:List Row}{K0:D->List Bx->List Row->Prop}(hc:aH c.P f ds bx aD K0)(hd:bd s1 dst)
  (hx:s1.ev fx= .ag f cs)(ha:xs.map s1.ev++cs=ds)(hb:s1.bx=bx)(hr:s1.rw=aD)(hk:∀d cH fF,K0 d cH fF->N (St.put ⟨s1.n,j4 bx.length s1.sl,cH,fF⟩ dst d)):nq c N fx xs dst s1:=by
 refine⟨hd, ?_⟩;rw[hx];refine⟨ds, ?_, ?_⟩
 ·rw[<-ha];exact E7
 ·rw[hb,hr];exact hc.mono hk
theorem E5 {ops:List Oper}{j t:Nat}{want:Bool}{dst:Option Tmp}{At:(St->Prop)->St->Prop}{N:St->Prop}{s1:St}(ht:iu ops j=some t)(hb:s1.sl t= .bool want)(h:At N s1):xL ops j want dst At N s1:=by
 unfold xL;rw[ht];show wG (s1.sl t) _ _;rw[hb];exact⟨λ_=>h,λe=>by cases want<;>cases e⟩
theorem akU {ops:List Oper}{j t:Nat}{want b:Bool}{dst:Option Tmp}{At:(St->Prop)->St->Prop}{N:St->Prop}{s1:St}(ht:iu ops j=some t)(hb:s1.sl t= .bool b)(hn:b≠want)(hd:bd s1 dst)(h:N (s1.put dst .skp)):xL ops j want dst At N s1:=by
 unfold xL;rw[ht];show wG (s1.sl t) _ _;rw[hb];exact⟨λe=>absurd e hn,λ_=>⟨hd,h⟩⟩
end Go.Ab
namespace Go.Proofs.YtafmfhkplgapjaaGreatDoor
set_option maxRecDepth 100000
set_option maxHeartbeats 4000000
open Go.Ab
attribute[local irreducible] av dL dY ak aH IA ez aP
theorem Kg (l:List (Nat×D))(m:Nat):cS l m= .undef\/∃p∈l,p.1=m/\cS l m=p.2:=by
 induction l with
 |nil=>exact .inl rfl
 |cons e l ih=>
  obtain⟨n,d⟩:=e;rw[fN];by_cases h:m=n
  ·exact .inr ⟨(n,d),dI ..,h.symm,by simp[put,h]⟩
  ·rcases ih with ih|⟨p,hp,h1,h2⟩
   ·exact .inl (by simp only[put,if_neg h];exact ih)
   ·exact .inr ⟨p,dW _ hp,h1,by simp only[put,if_neg h];exact h2⟩
theorem jQ {c:Ctx}{n:Nat}{sl:Nat->D}{bx:List Bx}{aD:List Row}(l:List (Nat×D))(h:∀p∈l,sl p.1=p.2):bX c ⟨n,sl,bx,aD⟩ ⟨n,cS l,bx,aD⟩:=by
 rintro a w ⟨g,hg⟩;refine⟨g,hg.cS λm=> ?_⟩;rcases Kg l m with e|⟨p,hp,rfl,e⟩
 ·rw[e];exact .undef _ _
 ·rw[e,<-h p hp];exact hg.sl p.1
theorem mM:aC aa 161=1:=ax
theorem mN:bytesOf aa 161=16:=ax
theorem mL:(bL aa 161).isSome=true:=ax
theorem mR (k:Nat)(x:D):(cD k x).length=k:=by simp
theorem me (k:Nat)(x:D):cD k x++[x]=cD (k + 1) x:=alH.symm
abbrev aT (v:D)(bx:List Bx)(rw:List Row):D->List Bx->List Row->Prop:=λd aB aD=>d=v/\aB=bx/\aD=rw
theorem eZ {c:Ctx}{N:St->Prop}{fx:Operand}{xs:List Operand}{dst:Option Tmp}{s1:St}{f:FuncId}{cs ds:List D}{bx cH:List Bx}{aD fF:List Row}{d0:D}(hc:aH c.P f ds bx aD (aT d0 cH fF))(k:N (St.put ⟨s1.n,j4 bx.length s1.sl,cH,fF⟩ dst d0))
  (hd:bd s1 dst:=by first|exact bC rfl|simp[bd])(hx:s1.ev fx= .ag f cs:=by rfl)(ha:xs.map s1.ev++cs=ds:=by rfl)(hb:s1.bx=bx:=by rfl)(hr:s1.rw=aD:=by rfl):nq c N fx xs dst s1:=iK hc hd hx ha hb hr (by rintro _ _ _ ⟨rfl,rfl,rfl⟩;exact k)
theorem amI (s:aJ)(cost:Int)(B:List Bx)(rw:List Row):aH aa 52 [.box 0 0] (.mu (Ww s cost)::B) rw (aT (.bool false) (.mu (Ww s cost)::B) rw):=by
 refine cU func52 ntmps52 results52 call52 λW0 S0 M0 own β hβ=> ?_;repeat'(first|(show cC _ _ _ _ _;refine aj ?_)|refine aq ?_|refine au λK hK=> ?_|(intro hg;try exact ai)|exact fin|apply af)
theorem rA (b:Bool)(e:Int):ak aa 89 [.bool b,i64 e] (i64 (if b then 0 else e)):=by
 cases b;all_goals
 refine cT func89 ntmps89 results89 call89 λw0 S0 M0=> ?_;repeat'(first|refine aq ?_|refine au λK hK=> ?_|(intro hg;try exact ai)|exact fin|apply af)
end Go.Proofs.YtafmfhkplgapjaaGreatDoor
namespace Go.Proofs.YtafmfhkplgapjaaGreatDoor
set_option maxRecDepth 100000
set_option maxHeartbeats 4000000
open Go.Ab
attribute[local irreducible] av dL dY ak aH cY IA ez aP fM
end Go.Proofs.YtafmfhkplgapjaaGreatDoor
namespace Go.Proofs.YtafmfhkplgapjaaGreatDoor
set_option maxRecDepth 100000
set_option maxHeartbeats 4000000
open Go.Ab
attribute[local irreducible] av dL dY ak aH cY IA ez aP fM
theorem ach (σ:Nat->Option Nat)(l:List (Nat×D)):C8 σ (cS l)=cS (l.map λp=>(p.1,p.2.gX σ)):=by
 induction l with
 |nil=>funext m;simp[C8,cS,dJ,D.gX]
 |cons e l ih=>
  obtain⟨n,d⟩:=e
  funext m
  have:=congrFun ih m;simp only[C8]at this;simp only[C8,fN,List.map_cons,put];split
  ·rfl
  ·exact this
theorem C4 {c:Ctx}{n:Nat}{l l':List (Nat×D)}{bx aB:List Bx}{aD:List Row}(ix:List Nat)(hn:ix.Nodup)(h0:∀i,i < c.β0.length->ix[i]? =some i)(hl:(l.map λp=>(p.1,p.2.gX (pos ix 0)))=l')(hb:qL ix bx=aB):
  bX c ⟨n,cS l,bx,aD⟩ ⟨n,cS l',aB,aD⟩:=by
 have:=bX.select (c:=c) (n:=n) (sl:=cS l) (bx:=bx) (aD:=aD) ix hn h0;rw[ach,hl,hb]at this;exact this
end Go.Proofs.YtafmfhkplgapjaaGreatDoor
namespace Go.Proofs.YtafmfhkplgapjaaGreatDoor
set_option maxRecDepth 100000
set_option maxHeartbeats 4000000
open Go.Ab Go.oO
attribute[local irreducible] av dL dY ak IA fM
theorem R4 (l:List UInt8):(gJ l.toArray).data.toList=l:=by simp
theorem aea (l:List UInt8):(gJ l.toArray).size=l.length:=by show l.toArray.size=_;simp
theorem ua (l:List UInt8):(gJ l.toArray).toList=l:=by rw[Go.Lib.toList_data,R4]
theorem RS:∀(k u:Nat),u < 10 ^ (k + 1)->Go.Lib.nDigits u<=k + 1
 |0,u,h=>by rw[alQ ae];exact aY _
 |k + 1,u,h=>by
  by_cases hu:u < 10
  ·rw[alQ hu];omega
  ·rw[Go.Lib.nDigits_big hu];have:=RS k (u / 10) (by rw[Nat.pow_succ]at h;omega);omega
theorem VX {u:Nat}(h:u<=99999):(qG u).length<=5:=by rw[alR];exact RS 4 u ae
theorem ai8 (u:Nat):1<=(qG u).length:=by rw[alR];exact Go.Lib.nDigits_pos u
def kZ (n:Int):ByteArray:=⟨(qG n.natAbs).toArray⟩
theorem ER (n:Int):(kZ n).size=(qG n.natAbs).length:=aea _
theorem Zf (n:Int):ak aa 196 [.str (itoa n), .str ⟨#[45]⟩] (.str (kZ n)):=by
 have h:=Ze (itoa n) ⟨#[45]⟩;have e:XJ (itoa n).data.toList (gJ #[45]).data.toList=qG n.natAbs:=by
  show XJ (gJ (Go.Lib.itoa n).toArray).data.toList [45]=_;rw[R4];unfold XJ Go.Lib.hasPrefix;by_cases hn:n < 0
  ·rw[afo n hn];simp[List.isPrefixOf]
  ·rw[SY n ae];have e2:n.natAbs=n.toNat:=ae;rw[e2];rw[if_neg];intro hp;cases hd:qG n.toNat with
   |nil=>exact VW _ hd
   |cons b l=>
    rw[hd]at hp;simp only[List.isPrefixOf,yg,beq_iff_eq]at hp;exact ai9 n.toNat (by rw[hd,<-hp];exact dI ..)
 rw[e]at h;exact h
theorem YO {l:List UInt8}{k:Nat}(h:k < l.length):val (l.take (k + 1))=10 * val (l.take k) + (l[k].toNat - 48):=by
 rw[Fv h,Py]
theorem Pz:∀(l:List UInt8) (acc:Nat),(∀b∈l,qT b)->l.foldl (λn b=>10 * n + (b.toNat - 48)) acc + 1<=(acc + 1) * 10 ^ l.length
 |[],acc,_=>by simp
 |b::l,acc,h=>by
  have h2:=h b (dI ..);unfold qT at h2;have ih:=Pz l (10 * acc + (b.toNat - 48)) (λx hx=>h x (dW _ hx));rw[List.foldl_cons,lV,Nat.pow_succ];refine Nat.le_trans ih ?_;rw[<-Nat.mul_assoc,Nat.mul_right_comm];exact Nat.mul_le_mul_right _ ae
theorem YP (l:List UInt8)(h:∀b∈l,qT b):val l < 10 ^ l.length:=by
 have:=Pz l 0 h;unfold val;omega
def tV (n:Int)(k:Nat):Int:=((val ((qG n.natAbs).take k):Nat):Int)
theorem VT (n:Int){k:Nat}(hk:k < (kZ n).size):(kZ n)[k]'hk=(qG n.natAbs)[k]'(by rw[<-ER];exact hk):=rfl
theorem Nz (n:Int){k:Nat}(hk:k < (kZ n).size):qT ((kZ n)[k]'hk):=by
 rw[VT];exact NC _ _ (zW _)
theorem adN (n:Int){k:Nat}(hk:k < (kZ n).size):tV n (k + 1)=10 * tV n k + (((kZ n)[k]'hk).toNat - 48:Int):=by
 have h2:=Nz n hk;unfold qT at h2;have hl:k < (qG n.natAbs).length:=by rw[<-ER];exact hk
 have e:(kZ n)[k]'hk=(qG n.natAbs)[k]'hl:=VT n hk
 unfold tV;rw[YO hl,<-e];omega
theorem adO (n:Int)(h:n.natAbs<=99999)(k:Nat):0<=tV n k/\tV n k < 100000:=by
 unfold tV;have h1:=YP ((qG n.natAbs).take k) (λb hb=>NC _ b (List.mem_of_mem_take hb));have h2:((qG n.natAbs).take k).length<=5:=by have:=VX h;rw[mH];omega
 have h3:10 ^ ((qG n.natAbs).take k).length<=10 ^ 5:=Nat.pow_le_pow_right aE h2;omega
theorem adP (n:Int):tV n (kZ n).size=n.natAbs:=by
 unfold tV;rw[ER,Ci,YQ]
def alV (s:ByteArray):Prop:=∀k (h:k < s.size),(s[k]'h).toNat < 128
theorem ai7 (n:Int):alV (kZ n):=λk hk=>by have:=Nz n hk;unfold qT at this;omega
theorem afp (n:Int):itoa (n.natAbs:Int)=kZ n:=by
 unfold itoa kZ;rw[SY _ ae];simp
theorem akO (n:Int)(h:n.natAbs<=99999)(h0:0<=n):ak aa 130 [.str (itoa n)] (i64 n):=by
 have UJ:(kZ n).size<=5:=by rw[ER];exact VX h
 have ng:1<=(kZ n).size:=by rw[ER];exact ai8 _
 refine cT func130 ntmps130 results130 call130 λw0 S0 M0=> ?_;repeat'(first|(show av _ (.seq (.region 2 _ _) _) _ _;refine bJ ?_)|refine aq ?_|refine au λK hK=> ?_|refine cA (Zf n) ?_|(intro hg;try exact ai)|exact fin|apply af)
 refine b_ ?_;refine Xd (str:=kZ n) rfl ax (ai7 n) (bC rfl) (bC rfl) (bC rfl) (bC rfl) aE rfl rfl rfl (λk=>[(0, .str (itoa n)),(3, .str (kZ n)),(4,i64 (tV n k))]) (λk=>rfl) (λB=>br rfl (by try refine aj ?_;try simp[tV,val]) ⟨_,rfl⟩ ⟨_,rfl⟩) (λB k hk w1 S1 M1 o1=> ?_) (λB=> ?_)
 ·have UF:=Nz n hk;have afV:=adN n hk;have ly:=adO n h k;unfold qT at UF;generalize((kZ n)[k]'hk).toNat=c at *
  show av ⟨aa,w1,S1,M1,none,o1,[]⟩ _ _ _;refine aj ?_;repeat'(first|refine aq ?_|refine au λK hK=> ?_|(intro hg;try exact ai)|exact fin|apply af)
  all_goals first|trivial|exact br rfl (by try refine aj ?_;try simp[afV]) ⟨_,rfl⟩ ⟨_,rfl⟩
 ·simp only[bH];have e0:((kZ n).toList == (gJ #[]).toList)=false:=by
   rw[show(gJ #[]).toList=[]from ua [],show(kZ n).toList=qG n.natAbs from ua _];cases hc:qG n.natAbs with
   |nil=>exact absurd hc (VW _)
   |cons _ _=>rfl
  have e1:=adP n;have e2:=afp n;have e3:itoa n=kZ n:=by rw[<-e2];congr 1;omega
  simp -implicitDefEqProofs only[go_sem,j5,aU,Nat.reduceAdd,Nat.reduceSub,Nat.reduceMul,Nat.reduceLT,Nat.reduceLeDiff,Nat.reduceEqDiff,Nat.reduceBEq,Int.reduceLT,Int.reduceLE,Int.reduceToNat,Int.reduceAdd,Int.reduceSub,Int.reduceMul,Int.reduceNeg,Int.reduceEq,reduceCtorEq,eq_self,ne_eq,not_false_eq_true,if_true,reduceIte,e0,e1,e2,e3,beq_self_eq_true,pO,Ae];repeat'(first|refine bh ?_|((first|refine bj λK hK=> ?_|refine bg ?_|show bb _ _ _ _ _|refine bo (SX _ ae ae) ?_);simp -implicitDefEqProofs only[go_sem,j5,aU,Nat.reduceAdd,Nat.reduceSub,Nat.reduceMul,Nat.reduceLT,Nat.reduceLeDiff,Nat.reduceEqDiff,Nat.reduceBEq,Int.reduceLT,Int.reduceLE,Int.reduceToNat,Int.reduceAdd,Int.reduceSub,Int.reduceMul,Int.reduceNeg,Int.reduceEq,reduceCtorEq,eq_self,ne_eq,not_false_eq_true,if_true,reduceIte,e0,e1,e2,e3,beq_self_eq_true,pO,Ae])|(intro hg;try exact ai)|exact fin|apply af)
  all_goals exact congrArg (D.int .i64) ae
end Go.Proofs.YtafmfhkplgapjaaGreatDoor
namespace Go.Proofs.YtafmfhkplgapjaaGreatDoor
set_option maxRecDepth 100000
set_option maxHeartbeats 4000000
open Go.Ab
attribute[local irreducible] av dL dY ak aH cY IA ez aP fM
def Aq:ByteArray:=⟨#[32]⟩
theorem SR (l:List Int)(bz:l≠[])(hl:l.length<=20)(h:∀i,i < l.length-> -99999<=nth l i/\nth l i<=99999)(hlen:(Lib.join ((l.map itoa).map (·.data.toList)) Aq.data.toList).length<=1000):ak aa 102 [ints l] (.str (Ho (l.map itoa) Aq)):=by
 have c1:=afe (l.map itoa) Aq (by simpa using bz) (by simp;omega) ae;refine cT func102 ntmps102 results102 call102 λw0 S0 M0=> ?_;repeat'(first|(show av _ (.loop _) _ _;refine bJ ?_)|refine aq ?_|refine au λK hK=> ?_|(intro hg;try exact ai)|exact fin|apply af)
 refine b_ ?_;refine I3 3 9 1 rfl ?_;refine dn (ι:=Nat) (λj=>[(3, .own 0),(6,ints l),(7,i64 l.length),(8,i64 j)]) (λ_=>[]) (λj=>[⟨true,9,1,((l.take j).map itoa).map D.str⟩])
  (λj=>j<=l.length) (λj=>l.length - j) (λ_ _=>⟨rfl,rfl⟩) 0 (bD _) bY (λj hj=> ?_)
 by_cases aG:j < l.length
 ·have Uf:=h j aG;have c2:=SX (nth l j) ae ae;have qc:(List.take j l).length=j:=by rw[mH];omega
  have qd:((l.take (j + 1)).map itoa).map D.str=((l.take j).map itoa).map D.str++[.str (itoa (nth l j))]:=by
   rw[Fv aG,show l[j]=nth l j by simp[nth,aG]];simp
  refine aj ?_;repeat'(first|refine aq ?_|refine au λK hK=> ?_|refine cA (c2) ?_|(intro hg;try exact ai)|exact fin|apply af)
  all_goals first|omega|(refine⟨j + 1,ae,ae, ?_⟩;rw[qd];exact bY)
 ·obtain rfl:j=l.length:=ae;simp -implicitDefEqProofs only[go_sem,j5,aU,Nat.reduceAdd,Nat.reduceSub,Nat.reduceMul,Nat.reduceLT,Nat.reduceLeDiff,Nat.reduceEqDiff,Nat.reduceBEq,Int.reduceLT,Int.reduceLE,Int.reduceToNat,Int.reduceAdd,Int.reduceSub,Int.reduceMul,Int.reduceNeg,Int.reduceEq,reduceCtorEq,eq_self,ne_eq,not_false_eq_true,if_true,reduceIte,Ci];repeat'(first|refine bh ?_|((first|refine bj λK hK=> ?_|refine bg ?_|show bb _ _ _ _ _|refine bo (c1) ?_);simp -implicitDefEqProofs only[go_sem,j5,aU,Nat.reduceAdd,Nat.reduceSub,Nat.reduceMul,Nat.reduceLT,Nat.reduceLeDiff,Nat.reduceEqDiff,Nat.reduceBEq,Int.reduceLT,Int.reduceLE,Int.reduceToNat,Int.reduceAdd,Int.reduceSub,Int.reduceMul,Int.reduceNeg,Int.reduceEq,reduceCtorEq,eq_self,ne_eq,not_false_eq_true,if_true,reduceIte,Ci])|(intro hg;try exact ai)|exact fin|apply af)
theorem aff:ak aa 131 [.list [], .str Aq] (.str ⟨#[]⟩):=by
 refine cT func131 ntmps131 results131 call131 λw0 S0 M0=> ?_;repeat'(first|refine aq ?_|refine au λK hK=> ?_|(intro hg;try exact ai)|exact fin|apply af)
theorem SS:ak aa 102 [.list []] (.str ⟨#[]⟩):=by
 have c1:=aff;refine cT func102 ntmps102 results102 call102 λw0 S0 M0=> ?_;repeat'(first|(show av _ (.loop _) _ _;refine sn 1 ?_)|(refine sJ ?_)|refine aq ?_|refine au λK hK=> ?_|refine cA (c1) ?_|(intro hg;try exact ai)|exact fin|apply af)
theorem C1 {p q:Prop}(k:q)(h:p=q:=by simp -implicitDefEqProofs only[go_sem,j5,aU,Nat.reduceAdd,Nat.reduceSub,Nat.reduceMul,Nat.reduceLT,Nat.reduceLeDiff,Nat.reduceEqDiff,Nat.reduceBEq,Int.reduceLT,Int.reduceLE,Int.reduceToNat,Int.reduceAdd,Int.reduceSub,Int.reduceMul,Int.reduceNeg,Int.reduceEq,reduceCtorEq,eq_self,ne_eq,not_false_eq_true,if_true,reduceIte,beq_self_eq_true,Bool.not_true,List.length_map]<;>rfl):p:=h.symm▸k
theorem abr (a:List ByteArray)(ha:a.length<=1000):ak aa 28 [.list (a.map D.str), .list (a.map D.str)] (.bool true):=by
 refine cT func28 ntmps28 results28 call28 λw0 S0 M0=> ?_;repeat'(first|(show av _ (.loop _) _ _;refine bJ ?_)|refine aq ?_|refine au λK hK=> ?_|(intro hg;try exact ai)|exact fin|apply af)
 refine b_ ?_;refine dn (ι:=Nat) (λj=>[(0, .list (a.map D.str)),(1, .list (a.map D.str)),(5,i64 j)]) (λ_=>[]) (λ_=>[])
  (λj=>j<=a.length) (λj=>a.length - j) (λ_ _=>⟨rfl,rfl⟩) 0 (bD _) bY (λj hj=> ?_)
 by_cases aG:j < a.length
 ·refine C1 ?_;repeat'(first|refine bh ?_|((first|refine bj λK hK=> ?_|refine bg ?_|show bb _ _ _ _ _);(refine C1 ?_))|(intro hg;try exact ai)|exact fin|apply af)
  all_goals first|(exact⟨j + 1,ae,ae,br rfl (by try refine C1 ?_;try simp) ⟨_,rfl⟩ ⟨_,rfl⟩⟩)
 ·obtain rfl:j=a.length:=ae;refine C1 ?_;repeat'(first|refine bh ?_|((first|refine bj λK hK=> ?_|refine bg ?_|show bb _ _ _ _ _);(refine C1 ?_))|(intro hg;try exact ai)|exact fin|apply af)
abbrev kP (f:FuncId)(many:Int)(more ajS act:Bool):D:= .agg [.ag f [],i64 many, .bool more, .bool ajS, .bool act]
abbrev o_ (l:List UInt8):D:= .str ⟨l.toArray⟩
def yI:List (D×D):=[(o_ [114,101,97,100],kP 181 11 false false true),(o_ [119,105,114,101],kP 182 2 false true true),(o_ [115,104,105,112],kP 183 5 false false true),(o_ [114,101,112,111,114,116],kP 184 7 false false true),(o_ [115,116,97,116,101],kP 185 3 true false true),(o_ [99,97,109,101],kP 186 3 false false true),
 (o_ [100,114,97,119],kP 187 1 false false false),(o_ [108,111,119],kP 188 3 false false false),(o_ [104,105,103,104],kP 189 3 false false false),(o_ [115,101,101],kP 190 0 false false false),(o_ [117,112],kP 191 2 false false false),(o_ [115,104,105,112,115],kP 192 1 false false false),(o_ [116,111,116,97,108],kP 193 0 false false false),(o_ [112,97,121],kP 194 0 false false false),(o_ [99,111,115,116],kP 195 0 false false false)]
theorem adC:aH aa 129 [] [] [] (λd aB aD=>d= .bu 0/\aB=[.mp yI]/\aD=[]):=by
 refine cU func129 ntmps129 results129 call129 λW0 S0 M0 own β hβ=> ?_;repeat'(first|(show cC _ _ _ _ _;refine aj ?_)|refine aq ?_|refine au λK hK=> ?_|(intro hg;try exact ai)|exact fin|apply af)
 all_goals first|rfl|simp[nP,jl,ua,yI]
theorem YV:aa.underlying 9=some .string:=ax
theorem afB (s:ByteArray)(c:UInt8):ak aa 179 [.str s, .str ⟨#[c]⟩] (i64 (ya s.data.toList c)):=by
 refine NV (λ_ _=> .int _ _ _) call179 λS M w args hl hr=> ?_
 match args,hl with
 |[a,b],_=>
  have h1:=hr 0 _ rfl;have h2:=hr 1 _ rfl;simp only[List.getD_cons_zero,List.getD_cons_succ]at h1 h2;cases h1;cases h2
  exact Any.stringslite_Index_one {Tryz.Sy with} s c w
theorem ajf (s:ByteArray)(c:UInt8)(i:Nat)(hi:ya s.data.toList c=i)(hs:i < s.size)(hb:s.size<=100000):ak aa 126 [.str s, .str ⟨#[c]⟩] (.aF [.str (s.extract 0 i), .str (s.extract (i + 1) s.size), .bool true]):=by
 have c1:=afB s c;rw[hi]at c1;have h1:(gJ #[c]).size=1:=rfl;refine cT func126 ntmps126 results126 call126 λw0 S0 M0=> ?_;repeat'(first|refine bh ?_|((first|refine bj λK hK=> ?_|refine bg ?_|show bb _ _ _ _ _|refine bo (c1) ?_);(refine sX (af @h1 (@YV)) ?_))|(intro hg;try exact ai)|exact fin|apply af)
 all_goals rw[show((i:Int) + ((1:Nat):Int)).toNat=i + 1 by omega]
theorem aje (s:ByteArray)(c:UInt8)(i:Nat)(hi:ya s.data.toList c=i)(hs:i < s.size)(hb:s.size<=100000):ak aa 100 [.str s, .str ⟨#[c]⟩] (.aF [.str (s.extract 0 i), .str (s.extract (i + 1) s.size), .bool true]):=by
 have c1:=ajf s c i hi hs hb;refine cT func100 ntmps100 results100 call100 λw0 S0 M0=> ?_;repeat'(first|refine aq ?_|refine au λK hK=> ?_|refine cA (c1) ?_|(intro hg;try exact ai)|exact fin|apply af)
def fT:List (List UInt8)->List UInt8
 |[]=>[]
 |w::l=>w++10::fT l
abbrev dV (l:List UInt8):ByteArray:=⟨l.toArray⟩
theorem ahG (a b:List UInt8):(dV (a++b)).extract 0 a.length=dV a:=by
 apply ByteArray.ext;simp[dV]
theorem ahF (a b:List UInt8)(k:Nat)(hk:k=a.length):(dV (a++b)).extract k (dV (a++b)).size=dV b:=by
 subst hk;apply ByteArray.ext;simp[dV,ByteArray.size]
theorem Ta (c:UInt8):∀(a b:List UInt8),c∉a->ya (a++c::b) c=a.length
 |[],b,_=>by simp[ya]
 |x::a,b,h=>by
  have h1:¬x=c:=λe=>h (by rw[e];exact dI ..);have ih:=Ta c a b (λhh=>h (dW _ hh));simp[ya]at ih⊢;rw[if_neg h1,ih,if_neg ae]
theorem YX (w:List UInt8)(l:List (List UInt8)):((dV (fT (w::l))).toList == (gJ #[]).toList)=false:=by
 rw[show(gJ #[]).toList=[]from ua [],show(dV (fT (w::l))).toList=fT (w::l)from ua _];cases w<;>rfl
theorem YW:((dV (fT [])).toList == (gJ #[]).toList)=true:=by
 rw[show(gJ #[]).toList=[]from ua [],show(dV (fT [])).toList=fT []from ua _];rfl
theorem YY (L:List (List UInt8)):∀j,(fT (L.drop j)).length<=(fT L).length:=by
 induction L with
 |nil=>intro j;simp[fT]
 |cons w l ih=>
  intro j;cases j with
  |zero=>exact aY _
  |succ j=>have:=ih j;simp[fT]at this⊢;omega
theorem aew (L:List (List UInt8))(h:∀w∈L,(10:UInt8)∉w)(hb:(fT L).length<=1000):Iter aa 99 [.ro [.str (dV (fT L))]] (L.map λw=>[.str (dV w), .bool true]):=by
 refine LA func99 ntmps99 results99 call99 rfl aO λl J Jx=> ?_;repeat'(first
   |refine nU ?_
   |refine n3 ?_
   |refine nV ?_
   |refine nX ?_
   |refine nT ?_
   |refine nZ ?_
   |refine nW ?_
   |(refine nY ?_;(refine aj ?_;try exact trivial))
   |(refine gF λw0 S0 M0 oq=>kI λK hK=> ?_;(refine aj ?_;try exact trivial))
   |(refine gF λw0 S0 M0 oq=>mG Tryz.ty.mixed ax λK hK=> ?_;(refine aj ?_;try exact trivial))
   |(refine hK _ ?_;clear hK K;simp only[bT,bU,if_true,Nat.reduceEqDiff,reduceIte])
   |(show bT _ _ _ _ _;simp only[bT,bU,if_true,Nat.reduceEqDiff,reduceIte])
   |(show gv _ _ _ _;simp only[gv,bT,bU,if_true,Nat.reduceEqDiff,reduceIte])
   |(show bU _ _ _ _ _;simp only[bT,bU,if_true,Nat.reduceEqDiff,reduceIte])
   |(intro hg;first|(exfalso;omega)|(exfalso;contradiction)|skip)
   |apply af
   |(with_reducible rfl)
   |(clear hK;omega)
   |omega)
 refine Hq (ι:=Nat) (λj=>[(0, .val (.func (.yield l) #[] #[])),(1, .ro [.str (dV (fT L))]),(3, .str (dV (fT (L.drop j))))]) (λj=>(true,j)) (λj=>j<=L.length) (λj=>L.length - j) (λ_ _=>rfl) 0 (bD _) rfl bY (λj hj=> ?_);by_cases aG:j < L.length
 ·have pA:L.drop j=L[j]::L.drop (j + 1):=v_ aG;have bz:=YX L[j] (L.drop (j + 1));have hlen:=YY L j;have aR:(dV (fT (L.drop j))).size=(fT (L.drop j)).length:=by simp[dV,ByteArray.size]
  have qj:ya (dV (fT (L.drop j))).data.toList 10=(L[j].length:Nat):=by
   rw[pA];exact Ta 10 _ _ (h _ (zW _))
  have kU:(fT (L.drop j)).length=L[j].length + 1 + (fT (L.drop (j + 1))).length:=by rw[pA];simp[fT];omega
  have c1:=aje (dV (fT (L.drop j))) 10 L[j].length qj ae ae;have e1:(dV (fT (L.drop j))).extract 0 L[j].length=dV L[j]:=by rw[pA];exact ahG _ _
  have e2:(dV (fT (L.drop j))).extract (L[j].length + 1) (dV (fT (L.drop j))).size=dV (fT (L.drop (j + 1))):=by
   rw[pA,show fT (L[j]::L.drop (j + 1))=(L[j]++[10])++fT (L.drop (j + 1)) by simp[fT]];exact ahF _ _ _ aO
  rw[e1,e2]at c1;rw[<-pA]at bz;refine sX (af @bz (@pO)) ?_;repeat'(first
    |refine nU ?_
    |refine n3 ?_
    |refine nV ?_
    |refine nX ?_
    |refine nT ?_
    |refine nZ ?_
    |refine nW ?_
    |(refine nY ?_;(refine sX (af @bz (@pO)) ?_;try exact trivial))
    |((refine bo (c1) ?_;try(refine sX (af @bz (@pO)) ?_;try exact trivial)))
    |((refine Tb 3 rfl λK1 aA=> ?_;(refine sX (af @bz (@pO)) ?_;try exact trivial)))
    |(refine gF λw0 S0 M0 oq=>kI λK hK=> ?_;(refine sX (af @bz (@pO)) ?_;try exact trivial))
    |(refine gF λw0 S0 M0 oq=>mG Tryz.ty.mixed ax λK hK=> ?_;(refine sX (af @bz (@pO)) ?_;try exact trivial))
    |(refine hK _ ?_;clear hK K;simp only[bT,bU,if_true,Nat.reduceEqDiff,reduceIte])
    |(show bT _ _ _ _ _;simp only[bT,bU,if_true,Nat.reduceEqDiff,reduceIte])
    |(show gv _ _ _ _;simp only[gv,bT,bU,if_true,Nat.reduceEqDiff,reduceIte])
    |(show bU _ _ _ _ _;simp only[bT,bU,if_true,Nat.reduceEqDiff,reduceIte])
    |(intro hg;first|(exfalso;omega)|(exfalso;contradiction)|skip)
    |apply af
    |(with_reducible rfl)
    |(clear hK;omega)
    |omega)
  all_goals
   refine aA _ _ rfl rfl ?_ ?_ ?_ (λb=> ?_)
   ·show(L.map λw=>[D.str (dV w),D.bool true])[j]? =_;rw[cO,bS aG];rfl
   ·(refine sX (af @bz (@pO)) ?_;try exact trivial)
   ·intro q b e;cases e
   ·clear aA K1;refine sX (af @bz (@pO)) ?_;repeat'(first
      |refine nU ?_
      |refine n3 ?_
      |refine nV ?_
      |refine nX ?_
      |refine nT ?_
      |refine nZ ?_
      |refine nW ?_
      |(refine nY ?_;(refine sX (af @bz (@pO)) ?_;try exact trivial))
      |(refine gF λw0 S0 M0 oq=>kI λK hK=> ?_;(refine sX (af @bz (@pO)) ?_;try exact trivial))
      |(refine gF λw0 S0 M0 oq=>mG Tryz.ty.mixed ax λK hK=> ?_;(refine sX (af @bz (@pO)) ?_;try exact trivial))
      |(refine hK _ ?_;clear hK K;simp only[bT,bU,if_true,Nat.reduceEqDiff,reduceIte])
      |(show bT _ _ _ _ _;simp only[bT,bU,if_true,Nat.reduceEqDiff,reduceIte])
      |(show gv _ _ _ _;simp only[gv,bT,bU,if_true,Nat.reduceEqDiff,reduceIte])
      |(show bU _ _ _ _ _;simp only[bT,bU,if_true,Nat.reduceEqDiff,reduceIte])
      |(intro hg;first|(exfalso;omega)|(exfalso;contradiction)|skip)
      |apply af
      |(with_reducible rfl)
      |(clear hK;omega)
      |omega)
    all_goals first
    |(exfalso;simp_all;done)
    |(have Er:b=true:=by assumption
      subst Er;exact⟨j + 1,ae,ae,rfl,br rfl (by try refine sX (af @bz (@pO)) ?_;try simp) ⟨_,rfl⟩ ⟨_,rfl⟩⟩)
 ·obtain rfl:j=L.length:=ae;have hn:((dV (fT (L.drop L.length))).toList == (gJ #[]).toList)=true:=by rw[List.drop_length];exact YW
  refine sX (af @hn (@Ae)) ?_;repeat'(first
    |refine nU ?_
    |refine n3 ?_
    |refine nV ?_
    |refine nX ?_
    |refine nT ?_
    |refine nZ ?_
    |refine nW ?_
    |(refine nY ?_;(refine sX (af @hn (@Ae)) ?_;try exact trivial))
    |(refine gF λw0 S0 M0 oq=>kI λK hK=> ?_;(refine sX (af @hn (@Ae)) ?_;try exact trivial))
    |(refine gF λw0 S0 M0 oq=>mG Tryz.ty.mixed ax λK hK=> ?_;(refine sX (af @hn (@Ae)) ?_;try exact trivial))
    |(refine hK _ ?_;clear hK K;simp only[bT,bU,if_true,Nat.reduceEqDiff,reduceIte])
    |(show bT _ _ _ _ _;simp only[bT,bU,if_true,Nat.reduceEqDiff,reduceIte])
    |(show gv _ _ _ _;simp only[gv,bT,bU,if_true,Nat.reduceEqDiff,reduceIte])
    |(show bU _ _ _ _ _;simp only[bT,bU,if_true,Nat.reduceEqDiff,reduceIte])
    |(intro hg;first|(exfalso;omega)|(exfalso;contradiction)|skip)
    |apply af
    |(with_reducible rfl)
    |(clear hK;omega)
    |omega)
  all_goals first|(simp;done)
abbrev uD (s:aJ)(m sh mp:D)(cost:Int)(ac:D):List D:=eb s++[m,sh,mp,i64 cost,ac, .bool true]
theorem Di (s:aJ)(m sh mp:D)(cost:Int)(ac:D)(B:List Bx)(rw:List Row):aH aa 52 [.box 0 0] (.mu (uD s m sh mp cost ac)::B) rw (aT (.bool false) (.mu (uD s m sh mp cost ac)::B) rw):=by
 refine cU func52 ntmps52 results52 call52 λW0 S0 M0 own β hβ=> ?_;repeat'(first|(show cC _ _ _ _ _;refine aj ?_)|refine aq ?_|refine au λK hK=> ?_|(intro hg;try exact ai)|exact fin|apply af)
theorem NK (s:aJ)(m sh mp:D)(cost:Int)(ac:D)(B:List Bx)(rw:List Row):aH aa 13 [.box 0 0] (.mu (uD s m sh mp cost ac)::B) rw (aT (.aF [i64 cost,i64 0]) (.mu (uD s m sh mp cost ac)::B) rw):=by
 have c1:=Di s m sh mp cost ac B rw;refine cU func13 ntmps13 results13 call13 λW0 S0 M0 own β hβ=> ?_;repeat'(first|(show av _ (.region 1 _ _) _ _;refine et 1 rfl (λK1 aA=> ?_);refine aj ?_)|(refine aA _ (eZ c1 ?_);simp only[aU,Nat.reduceAdd];refine aj ?_)|(show cC _ _ _ _ _;refine aj ?_)|refine aq ?_|refine au λK hK=> ?_|(intro hg;try exact ai)|exact fin|apply af)
theorem aa3 (l:List Int):ak aa 244 [ints l] (ints l):=by
 refine cT func244 ntmps244 results244 call244 λw0 S0 M0=> ?_;repeat'(first|refine aq ?_|refine au λK hK=> ?_|(intro hg;try exact ai)|exact fin|apply af)
theorem ai1 (s:aJ)(m sh mp:D)(cost:Int)(ac x y:D)(B:List Bx)(rw:List Row):aH aa 195 [.box 0 0,x,y] (.mu (uD s m sh mp cost ac)::B) rw (aT (.aF [ints [cost],i64 0]) (.mu (uD s m sh mp cost ac)::B) rw):=by
 have c1:=NK s m sh mp cost ac B rw;have c2:=aa3 [cost];refine cU func195 ntmps195 results195 call195 λW0 S0 M0 own β hβ=> ?_;repeat'(first|(show av _ (.region 1 _ _) _ _;refine et 1 rfl (λK1 aA=> ?_);refine aj ?_)|(refine aA _ (eZ c1 ?_);simp only[aU,Nat.reduceAdd];refine aj ?_)|(show cC _ _ _ _ _;refine aj ?_)|refine aq ?_|refine au λK hK=> ?_|refine cA (c2) ?_|(intro hg;try exact ai)|exact fin|apply af)
end Go.Proofs.YtafmfhkplgapjaaGreatDoor
namespace Go.Proofs.YtafmfhkplgapjaaGreatDoor
open Go.Ab
theorem Nv {nb:Nat}{sl:Nat->D}(h:∀m,cq nb 0 (sl m)=true):j4 nb sl=sl:=funext λm=>by simp[j4,iJ,h m]
theorem Kh {nb:Nat}{l:List (Nat×D)}(h:(l.all λp=>cq nb 0 p.2)=true)(m:Nat):cq nb 0 (cS l m)=true:=by
 rcases Kg l m with e|⟨p,hp,_,e⟩
 ·rw[e];rfl
 ·rw[e];exact iD.1 h p hp
end Go.Proofs.YtafmfhkplgapjaaGreatDoor
namespace Go.Proofs.YtafmfhkplgapjaaGreatDoor
open Go.Ab Go.RowKit
def FA (L:Nat->Bool):List Nat->Prop
 |[]=>True
 |m::r=>L (m / 2)=(m % 2 == 1)/\FA L r
theorem FA.at {L:Nat->Bool}{m:Nat}:∀{S:List Nat},FA L S->m∈S->L (m / 2)=(m % 2 == 1)
 |_::_,h,hm=>(eK.1 hm).elim (λe=>e▸h.1) (λh2=>FA.at h.2 h2)
theorem FA.of {L:Nat->Bool}:∀{S:List Nat},(∀m∈S,L (m / 2)=(m % 2 == 1))->FA L S
 |[],_=>trivial
 |_::_,h=>⟨h _ (dI ..),FA.of λm hm=>h m (dW _ hm)⟩
def Ir (o:Oper):List Nat:=(o.after.toList.filter λe=>gV .any e).map (·.on)
def Ak (s:List Nat):List Nat->List Nat
 |[]=>s
 |x::t=>bif s.contains x then Ak s t else Ak (x::s) t
theorem Ll {x:Nat}:∀{t s:List Nat},x∈Ak s t->x∈s\/x∈t
 |[],s,h=> .inl h
 |y::t,s,h=>by
  unfold Ak at h;cases hc:s.contains y with
  |true=>
   rw[hc]at h;exact(Ll h).imp_right (dW _)
  |false=>
   rw[hc]at h;rcases Ll h with h|h
   ·exact(eK.1 h).elim (λe=> .inr (e▸dI ..)) .inl
   ·exact .inr (dW _ h)
def IV (acc:List (List Nat))(s:List Nat):List Nat->List Nat
 |[]=>s
 |d::ds=>IV acc (Ak s (d::acc.getD d [])) ds
theorem Sd {acc:List (List Nat)}{x:Nat}:∀{ds s:List Nat},x∈IV acc s ds->x∈s\/∃d∈ds,x=d\/x∈acc.getD d []
 |[],s,h=> .inl h
 |d::ds,s,h=>by
  have h:x∈IV acc (Ak s (d::acc.getD d [])) ds:=h;rcases Sd h with h|⟨e,he,h⟩
  ·rcases Ll h with h|h
   ·exact .inl h
   ·exact .inr ⟨d,dI ..,eK.1 h⟩
  ·exact .inr ⟨e,dW _ he,h⟩
def BZ (acc:List (List Nat)):List Oper->List (List Nat)
 |[]=>acc
 |o::l=>BZ (acc++[IV acc [] (Ir o)]) l
def Cz (l:List Oper)(L:Nat->Bool)(A:List (List Nat)):Prop:=∀k o,l[k]? =some o->∀x∈A.getD k [],(∀d∈Ir o,L d=true)->L x=true
theorem WO {l:List Oper}{L:Nat->Bool}(hC:∀k o,l[k]? =some o->L k=true->∀d∈Ir o,L d=true):∀(r:List Oper) (acc:List (List Nat)),r=l.drop acc.length->Cz l L acc->Cz l L (BZ acc r)
 |[],acc,_,h=>h
 |o::r,acc,hr,h=>by
  have ho:l[acc.length]? =some o:=by
   have:=List.getElem?_drop (xs:=l) (i:=acc.length) (j:=0);rw[<-hr]at this;simpa using this.symm
  refine WO hC r _ ?_ ?_
  ·rw[eQ,Cj,<-FC,<-hr];rfl
  ·intro k o' hk x hx hd;rcases Nat.lt_trichotomy k acc.length with aG|rfl|HQ
   ·rw[ic,bQ aG,<-ic]at hx;exact h k o' hk x hx hd
   ·rw[ho]at hk;cases hk;rw[ic,List.getElem?_append_right (aY _),Nat.sub_self]at hx;rcases Sd hx with hx|⟨d,hde,hx⟩
    ·cases hx
    ·have H6:=hd d hde;rcases hx with rfl|hx
     ·exact H6
     ·have aG:d < l.length:=by
       rcases ft d l.length with h1|h1
       ·exact h1
       ·exfalso;have Br:acc.length<=l.length:=Nat.le_of_lt (aQ.1 ho).1;rw[ic,pM ae]at hx;cases hx
      exact h d _ (bS aG) x hx (hC d _ (bS aG) H6)
   ·rw[ic,pM (by rw[eQ,Cj];omega)]at hx;cases hx
def AQ (A:List (List Nat))(k:Nat)(S:List Nat)(m:Nat):Bool:=
 S.contains m||bif m % 2 == 1 then(A.getD k []).contains (m / 2)||S.any (λq=>q % 2 == 1&&(A.getD (q / 2) []).contains (m / 2))
  else m / 2 == k||(A.getD (m / 2) []).contains k||S.any (λq=>q % 2 == 0&&(A.getD (m / 2) []).contains (q / 2))
def zr (m:Nat):Nat:=bif m % 2 == 1 then m - 1 else m + 1
def EW (A:List (List Nat))(k:Nat)(rows:List (List Nat)):Nat->List Nat->Bool
 |0,_=>false
 |f + 1,S=>(rows.any λr=>r.all (AQ A k S))||(S.any λm=>AQ A k S (zr m))||match(rows.flatMap id).find? λm=> !AQ A k S m&& !AQ A k S (zr m)with
  |some m=>EW A k rows f (m::S)&&EW A k rows f (zr m::S)
  |none=>false
section
variable {l:List Oper} {L:Nat->Bool} {A:List (List Nat)} {k:Nat} {o:Oper}
theorem Nq {o:Oper}{L:Nat->Bool}(h:∀e∈o.after,gV .any e=true->L e.on=true):∀d∈Ir o,L d=true:=λd hd=>by
 obtain⟨e,he,rfl⟩:=eJ.1 hd;obtain⟨h1,h2⟩:=Jv.1 he;exact h e (Array.mem_toList_iff.1 h1) h2
theorem Oa (hC:oz l.toArray L)(hA:Cz l L A){q x:Nat}(hq:L q=true)(hx:(A.getD q []).contains x=true)(hl:A.length<=l.length):L x=true:=by
 have wY:x∈A.getD q []:=Jy.1 hx;have aG:q < l.length:=by
  rcases ft q l.length with h1|h1
  ·exact h1
  ·rw[ic,pM ae]at wY;cases wY
 have ho:=bS aG;exact hA q _ ho x wY (Nq (hC q _ (by simp) hq))
theorem SQ (hC:oz l.toArray L)(hA:Cz l L A)(hl:A.length<=l.length)(ho:l[k]? =some o)(hL:L k=false)(hd:∀e∈o.after,gV .any e=true->L e.on=true){S:List Nat}(hS:FA L S){m:Nat}(h:AQ A k S m=true):L (m / 2)=(m % 2 == 1):=by
 unfold AQ at h;rw[qI]at h;rcases h with h|h
 ·exact hS.at (Jy.1 h)
 ·cases hm:m % 2 == 1 with
  |true=>
   rw[hm]at h;simp only[cond_true,qI,Jz,c_]at h;rcases h with h|⟨q,hq,h1,h2⟩
   ·exact hA k o ho _ (Jy.1 h) (Nq hd)
   ·have h3:=hS.at hq;rw[h1]at h3;exact Oa hC hA h3 h2 hl
  |false=>
   rw[hm]at h;simp only[cond_false,qI,Jz,c_,beq_iff_eq]at h;rcases h with(h|h)|⟨q,hq,h1,h2⟩
   ·rw[h];exact hL
   ·cases hx:L (m / 2)with
    |false=>rfl
    |true=>rw[Oa hC hA hx h hl]at hL;cases hL
   ·have h3:=hS.at hq;rw[show(q % 2 == 1)=false by rw[h1];rfl]at h3;cases hx:L (m / 2)with
    |false=>rfl
    |true=>rw[Oa hC hA hx h2 hl]at h3;cases h3
theorem Vg {m:Nat}:L (zr m / 2)=(zr m % 2 == 1)↔L (m / 2)= !(m % 2 == 1):=by
 unfold zr;cases h:m % 2 == 1 with
 |true=>
  have h1:m % 2=1:=by simpa using h
  have e1:(m - 1) / 2=m / 2:=ae;have e2:(m - 1) % 2=0:=ae;simp only[cond_true,e1,e2];rfl
 |false=>
  have h1:m % 2=0:=by
   have:¬m % 2=1:=by simpa using h
   omega
  have e1:(m + 1) / 2=m / 2:=ae;have e2:(m + 1) % 2=1:=ae;simp only[cond_false,e1,e2];rfl
theorem NJ (hC:oz l.toArray L)(hA:Cz l L A)(hl:A.length<=l.length)(ho:l[k]? =some o)(hL:L k=false)(hd:∀e∈o.after,gV .any e=true->L e.on=true){rows:List (List Nat)}:∀(f:Nat) (S:List Nat),FA L S->EW A k rows f S=true->∃r∈rows,FA L r
 |0,_,_,h=>by cases h
 |f + 1,S,hS,h=>by
  unfold EW at h;simp only[qI,Jz]at h;rcases h with(⟨r,hr,h⟩|⟨m,hm,h⟩)|h
  ·exact⟨r,hr,FA.of λm hm=>SQ hC hA hl ho hL hd hS (iD.1 h m hm)⟩
  ·exfalso;have h1:=hS.at hm;have h2:=Vg.1 (SQ hC hA hl ho hL hd hS h);rw[h1]at h2;cases hb:m % 2 == 1<;>rw[hb]at h2<;>cases h2
  ·split at h
   ·rename_i m _;simp only[c_]at h;by_cases hm:L (m / 2)=(m % 2 == 1)
    ·exact NJ hC hA hl ho hL hd f (m::S) ⟨hm,hS⟩ h.1
    ·exact NJ hC hA hl ho hL hd f (zr m::S) ⟨Vg.2 (by cases h1:L (m / 2)<;>cases h2:m % 2 == 1<;>simp_all),hS⟩ h.2
   ·cases h
end
theorem WQ:∀(r:List Oper) (acc:List (List Nat)),(BZ acc r).length=acc.length + r.length
 |[],acc=>rfl
 |o::r,acc=>by
  unfold BZ;rw[WQ r,eQ,Cj,lV];omega
def CJ (l:List Oper)(tb:List (Nat×List Nat)):Bool:=
 (λA=>(ct l.length).all λk=>EW A k ((tb.filter λp=>p.1 == k).map (·.2)) 9 []) (BZ [] l)
theorem PK {l:List Oper}{tb:List (Nat×List Nat)}(h:CJ l tb=true){L:Nat->Bool}(hC:oz l.toArray L){k:Nat}{o:Oper}(ho:l[k]? =some o)(hL:L k=false)(hd:∀e∈o.after,gV .any e=true->L e.on=true):∃p∈tb,p.1=k/\FA L p.2:=by
 have aG:=(aQ.1 ho).1;have h1:=iD.1 h k (List.mem_range.2 aG);have hA:Cz l L (BZ [] l):=WO (λk o ho hk=>Nq (hC k o (by simpa using ho) hk)) l [] rfl (λk o _ x hx=>by simp at hx);obtain⟨r,hr,h2⟩:=NJ hC hA (by rw[WQ];simp) ho hL hd 9 [] trivial h1;obtain⟨p,hp,rfl⟩:=eJ.1 hr;obtain⟨h3,h4⟩:=Jv.1 hp;exact⟨p,h3,by simpa using h4,h2⟩
def jN (c:Ctx)(id:Nat)(ops:Array Oper)(n:Nat)(T:fm)(b:List (Nat×D))(B:(Nat->Bool)->List Bx)(W:(Nat->Bool)->List Row):Prop:=
 ∀Q:Exit->St->Prop,Q .normal ⟨n,T.foldr (λe f=>put f e.2.1 (e.2.2 λ_=>true)) (cS b),B λ_=>true,W λ_=>true⟩->av c (.region id ops true) Q ⟨n,cS b,B λ_=>false,W λ_=>false⟩
def FP (l1 l2:List Deferred)(c:Ctx)(id:Nat)(ops:Array Oper)(n:Nat)(T:fm)(b:List (Nat×D))(B:(Nat->Bool)->List Bx)(W:(Nat->Bool)->List Row):Prop:=
 ∀Q:Exit->St->Prop,Q .normal ⟨n,T.foldr (λe f=>put f e.2.1 (e.2.2 λ_=>true)) (cS b),B λ_=>true,W λ_=>true⟩->fB l1 l2 c (.region id ops true) Q ⟨n,cS b,B λ_=>false,W λ_=>false⟩
def alz (c:Ctx)(vT:Oper->St->(St->Prop)->Prop)(l:List Oper)(n:Nat)(T:fm)(b:Nat->D)(B:(Nat->Bool)->List Bx)(W:(Nat->Bool)->List Row)(k:Nat)(r:List Nat):Prop:=
 ∀(L:Nat->Bool) (o:Oper),L k=false/\FA L r->l[k]? =some o->vT o ⟨n,bq L L T b,B L,W L⟩ (λs'=>bX c s' ⟨n,bq (more L k) (more L k) T b,B (more L k),W (more L k)⟩)
def Dk:List Nat->Bool
 |[]=>true
 |x::l=> !l.contains x&&Dk l
theorem sN:∀{l:List Nat},Dk l=true->l.Nodup
 |[],_=>uK
 |x::l,h=>by
  simp only[Dk,c_,Bool.not_eq_true',List.contains_eq_mem,decide_eq_false_iff_not]at h;exact List.nodup_cons.2 ⟨h.1,sN h.2⟩
def wC (N:Nat)(T:fm):Bool:=Dk (T.map (·.1))&&Dk (T.map (·.2.1))&&(T.map (·.1)).all λk=>decide (k < N)
def xT (c:Ctx)(vT:Oper->St->(St->Prop)->Prop)(l:List Oper)(n:Nat)(T0:fm)(bl:List (Nat×D))(B:(Nat->Bool)->List Bx)(W:(Nat->Bool)->List Row)(tb:List (Nat×List Nat)):Prop:=
 ∀(T:fm) (b:Nat->D),T=T0->b=cS bl->(T.map (·.1)).Nodup->(T.map (·.2.1)).Nodup->∀p∈tb,alz c vT l n T b B W p.1 p.2
section
variable {c:Ctx} {id N n:Nat} {l:List Oper} {T:fm} {bl:List (Nat×D)} {B:(Nat->Bool)->List Bx} {W:(Nat->Bool)->List Row}
theorem PU {vT:Oper->St->(St->Prop)->Prop}{tb sp:List (Nat×List Nat)}(hk:CJ l (tb++sp)=true)(hT:wC N T=true)(hp:xT c vT l n T bl B W tb)(hs:xT c vT l n T bl B W sp){L:Nat->Bool}{k:Nat}{o:Oper}
  (hC:oz l.toArray L)(ho:l[k]? =some o)(hL:L k=false)(hd:∀e∈o.after,gV .any e=true->L e.on=true):vT o ⟨n,bq L L T (cS bl),B L,W L⟩ (λs'=>bX c s' ⟨n,bq (more L k) (more L k) T (cS bl),B (more L k),W (more L k)⟩):=by
 unfold wC at hT;simp only[c_]at hT;obtain⟨p,pw,rfl,hF⟩:=PK hk hC ho hL hd;rcases fA.1 pw with h|h
 ·exact hp T _ rfl rfl (sN hT.1.1) (sN hT.1.2) p h L o ⟨hL,hF⟩ ho
 ·exact hs T _ rfl rfl (sN hT.1.1) (sN hT.1.2) p h L o ⟨hL,hF⟩ ho
theorem Ny {Q:Exit->St->Prop}(hN:l.length=N)(hT:wC N T=true)(fin:∀L,(∀j,j < N->L j=true)->(∀e∈T,e.2.2 L=e.2.2 λ_=>true)/\B L=B (λ_=>true)/\W L=W λ_=>true)(hQ:Q .normal ⟨n,T.foldr (λe f=>put f e.2.1 (e.2.2 λ_=>true)) (cS bl),B λ_=>true,W λ_=>true⟩)
  (L:Nat->Bool)(hL:∀j,j < l.length->L j=true):Q .normal ⟨n,bq L L T (cS bl),B L,W L⟩:=by
 unfold wC at hT;simp only[c_]at hT;obtain⟨f1,f2,f3⟩:=fin L (λj hj=>hL j (hN▸hj));rw[P4 (λe he=>hL _ (by rw[hN];simpa using iD.1 hT.2 e.1 (List.mem_map_of_mem he))),f2,f3];have:∀(T:fm) (b:Nat->D),(∀e∈T,e.2.2 L=e.2.2 λ_=>true)->T.foldr (λe f=>put f e.2.1 (e.2.2 L)) b=T.foldr (λe f=>put f e.2.1 (e.2.2 λ_=>true)) b:=λT b h=>by
  induction T with
  |nil=>rfl
  |cons e T ih=>rw[OL,OL,ih (λx hx=>h x (dW _ hx)),h e (dI ..)]
 rw[this T _ f1];exact hQ
theorem jY (hm:c.P.follows .mixedOrders=true)(hc:c.l=none)(tb sp:List (Nat×List Nat))(hB:(xC l.toArray&&CJ l (tb++sp))=true)
  (hN:l.length=N)(hT:wC N T=true)(hp:xT c (fS c l) l n T bl B W tb)(hs:xT c (fS c l) l n T bl B W sp)
  (fin:∀L,(∀j,j < N->L j=true)->(∀e∈T,e.2.2 L=e.2.2 λ_=>true)/\B L=B (λ_=>true)/\W L=W λ_=>true):jN c id l.toArray n T bl B W:=by
 intro Q hQ;simp only[c_]at hB;have h0:bq (λ_=>false) (λ_=>false) T (cS bl)=cS bl:=Gx (λ_ _=>rfl);rw[<-h0];exact alu hm hc hB.1 n T (cS bl) B W (λL k o hC ho hL hd=>PU hB.2 hT hp hs hC ho hL hd) (Ny hN hT fin hQ)
theorem Ij {l1 l2:List Deferred}(hm:c.P.follows .mixedOrders=true)(hc:c.l=none)(tb sp:List (Nat×List Nat))(hB:(xC l.toArray&&CJ l (tb++sp))=true)
  (hN:l.length=N)(hT:wC N T=true)(hp:xT c (lH l1 l2 c l) l n T bl B W tb)(hs:xT c (lH l1 l2 c l) l n T bl B W sp)
  (fin:∀L,(∀j,j < N->L j=true)->(∀e∈T,e.2.2 L=e.2.2 λ_=>true)/\B L=B (λ_=>true)/\W L=W λ_=>true):FP l1 l2 c id l.toArray n T bl B W:=by
 intro Q hQ;simp only[c_]at hB;have h0:bq (λ_=>false) (λ_=>false) T (cS bl)=cS bl:=Gx (λ_ _=>rfl);rw[<-h0];exact ali hm hc hB.1 n T (cS bl) B W (λL k o hC ho hL hd=>PU hB.2 hT hp hs hC ho hL hd) (Ny hN hT fin hQ)
def alB (c:Ctx)(l:List Oper)(n:Nat){ι:Type}(T:ι->fm)(bl:List (Nat×D))(B:ι->(Nat->Bool)->List Bx)(W:ι->(Nat->Bool)->List Row)(okI:ι->Prop)(m:Nat)(tb:List (Nat×List Nat)):Prop:=
 ∀(I:ι) (T':fm) (b:Nat->D),T'=T I->b=cS bl->(T'.map (·.1)).Nodup->(T'.map (·.2.1)).Nodup->∀p∈tb,∀(L:Nat->Bool) (o:Oper),(L m=true->okI I)->L p.1=false/\FA L p.2->l[p.1]? =some o->
  fS c l o ⟨n,bq L L T' b,B I L,W I L⟩ (λs'=>bX c s' ⟨n,bq (more L p.1) (more L p.1) T' b,B I (more L p.1),W I (more L p.1)⟩)
def alA (c:Ctx)(l:List Oper)(n:Nat){ι:Type}(T:ι->fm)(bl:List (Nat×D))(B:ι->(Nat->Bool)->List Bx)(W:ι->(Nat->Bool)->List Row)(okI:ι->Prop)(m:Nat)(r:List Nat):Prop:=
 ∀(TF:ι->fm) (I:ι) (T':fm) (b:Nat->D),TF=T->T'=T I->b=cS bl->(T'.map (·.1)).Nodup->(T'.map (·.2.1)).Nodup->∀(L:Nat->Bool) (o:Oper),L m=false/\FA L r->l[m]? =some o->
  fS c l o ⟨n,bq L L T' b,B I L,W I L⟩ (λs'=>∃i',okI i'/\bX c s' ⟨n,bq (more L m) (more L m) (TF i') b,B i' (more L m),W i' (more L m)⟩)
theorem Vf {ι:Type}{T:ι->fm}{B:ι->(Nat->Bool)->List Bx}{W:ι->(Nat->Bool)->List Row}{okI:ι->Prop}{i0:ι}(m:Nat)(r:List Nat)(hm:c.P.follows .mixedOrders=true)(hc:c.l=none)(tb sp:List (Nat×List Nat))(hB:(xC l.toArray&&CJ l ((tb++sp)++[(m,r)])&&(tb++sp).all λp=>p.1 !=m)=true)
  (hN:l.length=N)(hmN:m < N)(hT:∀I,wC N (T I)=true)(hp:∀I,xT c (fS c l) l n (T I) bl (B I) (W I) tb)(hs:alB c l n T bl B W okI m sp)(hr:alA c l n T bl B W okI m r)
  (fin:∀I L,(∀j,j < N->L j=true)->(∀e∈T I,e.2.2 L=e.2.2 λ_=>true)/\B I L=B I (λ_=>true)/\W I L=W I λ_=>true){Q:Exit->St->Prop}
  (hQ:∀I,okI I->Q .normal ⟨n,(T I).foldr (λe f=>put f e.2.1 (e.2.2 λ_=>true)) (cS bl),B I λ_=>true,W I λ_=>true⟩):av c (.region id l.toArray true) Q ⟨n,cS bl,B i0 λ_=>false,W i0 λ_=>false⟩:=by
 simp only[c_]at hB;have h0:bq (λ_=>false) (λ_=>false) (T i0) (cS bl)=cS bl:=Gx (λ_ _=>rfl);rw[<-h0];refine als hm hc hB.1.1 n T (cS bl) B W (λI L=>L m=true->okI I) i0 (λh=>by cases h) (λI L k o hC aW ho hL hd=> ?_) λI L aW hL=>Ny hN (hT I) (fin I) (hQ I (aW (hL m (hN▸hmN)))) L hL;have xv:=hT I;unfold wC at xv;simp only[c_]at xv;obtain⟨p,pw,rfl,hF⟩:=PK hB.1.2 hC ho hL hd;rcases fA.1 pw with h|h
 ·have bz:=iD.1 hB.2 p h;have h1:fS c l o ⟨n,bq L L (T I) (cS bl),B I L,W I L⟩ (λs'=>bX c s' ⟨n,bq (more L p.1) (more L p.1) (T I) (cS bl),B I (more L p.1),W I (more L p.1)⟩):=by
   rcases fA.1 h with h|h
   ·exact hp I (T I) _ rfl rfl (sN xv.1.1) (sN xv.1.2) p h L o ⟨hL,hF⟩ ho
   ·exact hs I (T I) _ rfl rfl (sN xv.1.1) (sN xv.1.2) p h L o aW ⟨hL,hF⟩ ho
  refine λa w N' Q' hr hN=>h1 a w N' Q' hr λs a w hr hs=>hN s a w hr ⟨I,λh=>aW ?_,hs⟩;rw[kr _ (by simpa using bz:p.1≠m).symm]at h;exact h
 ·obtain rfl:p=(m,r):=by simpa using h
  exact λa w N' Q' cV hN=>hr T I (T I) _ rfl rfl rfl (sN xv.1.1) (sN xv.1.2) L o ⟨hL,hF⟩ ho a w N' Q' cV λs a w hr hs=>hN s a w hr (hs.imp λi h=>⟨λ_=>h.1,h.2⟩)
end
theorem Nc {nb:Nat}{F V:Nat->Bool}{b:Nat->D}(hb:∀m,cq nb 0 (b m)=true):∀{T:fm},(∀e∈T,F e.1=true->cq nb 0 (e.2.2 V)=true)->∀m,cq nb 0 (bq F V T b m)=true
 |[],_,m=>hb m
 |e::T,h,m=>by
  have h1:=h e (dI ..);have h2:=Nc (F:=F) hb (λx hx=>h x (dW _ hx)) m;simp only[bq];cases hF:F e.1 with
  |false=>exact h2
  |true=>
   simp only[cond_true,put];split
   ·exact h1 hF
   ·exact h2
theorem aP.aae {c:Ctx}{s:St}{K:St->Prop}{t ty:TypeId}{x:Operand}{v:Value}{d:D}{pos:String}{aft:Array Edge}(hy:∀w g,Rel w g v d)(hk:uQ c.P s t (s.ev x) d K):
  Go.Ab.aP c ⟨none, .store t x (.const v),ty,pos,aft,none⟩ s K:=by
 unfold Go.Ab.aP;rintro a w N' Q' ⟨g,h⟩ hN;have hwp:(⟨none, .store t x (.const v),ty,pos,aft,none⟩:Oper).wp c.P a w (λa' w'=>∃s',R c s' a' w'/\K s') Q':= ?_
 ·exact gK (by intro cl h;cases h) (Oper.wp_mono (λa' w' ⟨s',cW,fW⟩=>hN s' a' w' cW fW) hwp)
 unfold uQ at hk;split at hk
 ·rename_i i off hx;split at hk
  ·rename_i cs aw;obtain⟨hz,hl,h1,hle,hk⟩:=hk;have ek:=h.ev x;rw[hx]at ek;generalize hv:a.eval x=vx at ek;cases ek with
   |box _ _ _ b hb=>
    have hc:=(hy w g).EY h.hρ h1;obtain⟨cur,tb,e1,e2,e3⟩:=h.store aw hb hc hle;have aR:v.cells.size=aC c.P t:=by rw[hc.1,hl]
    have px:∀u∈v.cells.toList,u.oneCell'=true:=λu hu=>by
     obtain⟨q,hq,rfl⟩:=List.getElem_of_mem hu;have dP:q < d.cells.length:=by rw[<-hc.1];simpa using hq
     have:=(hc.2 q _ (bS dP)).2;simp at hq;simpa[hq]using this
    have aV:=C3 c.P b off tb.1 tb.2 v.cells.toList 0 cur w e1 (by have:=hc.1;simp;omega) px;simp only[Nat.add_zero,Array.length_toList]at aV;have hex:(execOp a.eval ⟨none, .store t x (.const v),ty,pos,aft,none⟩).run c.P w= .ok .skip (w.setRow b (cur.toList.take off++v.cells.toList++cur.toList.drop (off + v.cells.size)).toArray):=by
     have he:a.eval (.const v)=v:=rfl;simp[execOp,he,hv,Instr.storeAt,Instr.sureAddr,storeVar,Go.Ab.run_sizeOf hz,aR,aV]
    unfold Oper.wp;rw[hex];simp only[Oper.upon,Act.put];exact⟨_,⟨g,e3⟩,hk⟩
  ·exact hk.elim
 ·exact hk.elim
theorem acp (w:World)(g:Gh):Rel w g (Value.agg #[Value.int IntKind.i64 0,Value.int IntKind.i64 0]) (.agg [i64 0,i64 0]):=
 .agg _ _ _ rfl (λq hq=>by
  match q,hq with
  |0,_=>rfl
  |1,_=>rfl) (λq d hd=>by
  match q,hd with
  |0,hd=>cases hd;exact .int _ _ _
  |1,hd=>cases hd;exact .int _ _ _)
theorem aP.gdZ {c:Ctx}{s:St}{K:St->Prop}{dst:Option Tmp}{op:Op}{ty:TypeId}{pos:String}{aft:Array Edge}{gd:Option (Nat×Bool)}(h:Go.Ab.aP c ⟨dst,op,ty,pos,aft,none⟩ s K):Go.Ab.aP c ⟨dst,op,ty,pos,aft,gd⟩ s K:=by
 unfold Go.Ab.aP at h⊢;intro a w N' Q' hr hN;exact h a w N' Q' hr hN
theorem CR {L:Nat->Bool}{k k' m r:Nat}{v:(Nat->Bool)->D}{b:Nat->D}{T:fm}(hk:L k=false)(n1:(T.map (·.1)).Nodup)(n2:(T.map (·.2.1)).Nodup)(hf:(T.find? λe=>e.1 == k)=some (k',m,v))(hb:tR r b=b)(hv:∀e∈T,L e.1=true->gY r (e.2.2 L)=e.2.2 (more L k)):
  bq (more L k) (more L k) T b=put (tR r (bq L L T b)) m (v (more L k)):=by
 have h1:=List.mem_of_find?_eq_some hf;have h2:=List.find?_some hf;simp only[beq_iff_eq]at h2;subst h2;rw[Gw hk n1 n2 h1,P1 hb hv]
theorem iw {T:fm}{B:(Nat->Bool)->List Bx}{W:(Nat->Bool)->List Row}{N:Nat}(h:∀L,(∀j,j < N->L j=true)->(∀e∈T,e.2.2 L=e.2.2 λ_=>true)/\B L=B (λ_=>true)/\W L=W λ_=>true:=by
 intro L h;refine⟨?_, ?_, ?_⟩
 ·simp only[List.forall_mem_cons,List.not_mem_nil,false_implies,implies_true,and_true];try(and_intros<;>first|rfl|simp[h])
 ·first|rfl|simp[h]
 ·first|rfl|simp[h]):∀L,(∀j,j < N->L j=true)->(∀e∈T,e.2.2 L=e.2.2 λ_=>true)/\B L=B (λ_=>true)/\W L=W λ_=>true:=h
theorem js {c:Ctx}{vT:Oper->St->(St->Prop)->Prop}{l:List Oper}{n:Nat}{T:fm}{bl:List (Nat×D)}{B:(Nat->Bool)->List Bx}{W:(Nat->Bool)->List Row}:xT c vT l n T bl B W []:=λ_ _ _ _ _ _ _ h=>by cases h
theorem zt {p:Prop}(h:p:=by
 first
  |refine fS.qO rfl (aP.of ?_)
  |refine fS.on rfl rfl (by simp only[hX,hR,congrFun hb,l_,lZ,fN,gk,kO,put,Nat.reduceEqDiff,Nat.reduceBEq,cond_true,cond_false,if_true,if_false,reduceIte,hE]) (aP.of ?_)
 simp -implicitDefEqProofs only[go_sem,j5,aU,Nat.reduceAdd,Nat.reduceSub,Nat.reduceMul,Nat.reduceLT,Nat.reduceLeDiff,Nat.reduceEqDiff,Nat.reduceBEq,Int.reduceLT,Int.reduceLE,Int.reduceToNat,Int.reduceAdd,Int.reduceSub,Int.reduceMul,Int.reduceNeg,Int.reduceEq,reduceCtorEq,eq_self,ne_eq,not_false_eq_true,if_true,if_false,reduceIte,hX,hR,congrFun hb,l_,lZ,fN,gk,kO,cond_true,cond_false,hE];first
  |exact Qs
  |exact⟨ae,_,by assumption,rfl,bX.of_eq rfl⟩
  |exact bX.YR _ _ _ (kO _ _ _) (by assumption) (kO _ _ _) (λq hq=>by simp only[put,hq,if_false])):p:=h
theorem Vl {p:Prop}(h:p:=by
 refine fS.off rfl rfl (by simp only[hX,hR,congrFun hb,l_,lZ,fN,gk,kO,put,Nat.reduceEqDiff,Nat.reduceBEq,cond_true,cond_false,if_true,if_false,reduceIte,hE];first|done|rfl) aE (bC rfl) ?_;try simp only[hE,cond_true,cond_false]
 exact bX.of_eq rfl):p:=h
theorem Vm {p:Prop}(h:p:=by
 first
  |refine fS.qO rfl (aP.Rx rfl ?_)
  |refine fS.on rfl rfl (by simp only[hX,hR,congrFun hb,l_,lZ,fN,gk,kO,put,Nat.reduceEqDiff,Nat.reduceBEq,cond_true,cond_false,if_true,if_false,reduceIte,hE]) (aP.gdZ (aP.Rx rfl ?_))
 simp -implicitDefEqProofs only[go_sem,j5,aU,Nat.reduceAdd,Nat.reduceSub,Nat.reduceMul,Nat.reduceLT,Nat.reduceLeDiff,Nat.reduceEqDiff,Nat.reduceBEq,Int.reduceLT,Int.reduceLE,Int.reduceToNat,Int.reduceAdd,Int.reduceSub,Int.reduceMul,Int.reduceNeg,Int.reduceEq,reduceCtorEq,eq_self,ne_eq,not_false_eq_true,if_true,if_false,reduceIte,hX,hR,congrFun hb,l_,lZ,fN,gk,kO,cond_true,cond_false,hE];refine bo (by assumption) ?_;simp -implicitDefEqProofs only[go_sem,j5,aU,Nat.reduceAdd,Nat.reduceSub,Nat.reduceMul,Nat.reduceLT,Nat.reduceLeDiff,Nat.reduceEqDiff,Nat.reduceBEq,Int.reduceLT,Int.reduceLE,Int.reduceToNat,Int.reduceAdd,Int.reduceSub,Int.reduceMul,Int.reduceNeg,Int.reduceEq,reduceCtorEq,eq_self,ne_eq,not_false_eq_true,if_true,if_false,reduceIte,hX,hR,congrFun hb,l_,lZ,fN,gk,kO,cond_true,cond_false,hE];exact bX.of_eq rfl):p:=h
theorem Vk {p:Prop}(h:p:=by
 refine fS.qO rfl (aP.aae (d:= .agg [i64 0,i64 0]) (λw g=>acp w g) ?_);simp -implicitDefEqProofs only[go_sem,j5,aU,Nat.reduceAdd,Nat.reduceSub,Nat.reduceMul,Nat.reduceLT,Nat.reduceLeDiff,Nat.reduceEqDiff,Nat.reduceBEq,Int.reduceLT,Int.reduceLE,Int.reduceToNat,Int.reduceAdd,Int.reduceSub,Int.reduceMul,Int.reduceNeg,Int.reduceEq,reduceCtorEq,eq_self,ne_eq,not_false_eq_true,if_true,if_false,reduceIte,hX,hR,congrFun hb,l_,lZ,fN,gk,kO,cond_true,cond_false,hE];exact bX.of_eq rfl):p:=h
theorem Vo {p:Prop}(h:p:=by
 first
  |refine fS.qO rfl (aP.vd (iK (by assumption) (bC rfl) rfl ?_ rfl rfl ?_))
  |refine fS.on rfl rfl (by simp only[hX,hR,congrFun hb,l_,lZ,fN,gk,kO,put,Nat.reduceEqDiff,Nat.reduceBEq,cond_true,cond_false,if_true,if_false,reduceIte,hE]) (aP.vd (iK (by assumption) (bC rfl) rfl ?_ rfl rfl ?_))
  |refine fS.qO rfl (aP.K9 (jL (by assumption) (by assumption) (bC rfl) rfl ?_ rfl rfl ?_))
  |refine fS.on rfl rfl (by simp only[hX,hR,congrFun hb,l_,lZ,fN,gk,kO,put,Nat.reduceEqDiff,Nat.reduceBEq,cond_true,cond_false,if_true,if_false,reduceIte,hE]) (aP.K9 (jL (by assumption) (by assumption) (bC rfl) rfl ?_ rfl rfl ?_))
 ·simp -implicitDefEqProofs only[go_sem,j5,aU,Nat.reduceAdd,Nat.reduceSub,Nat.reduceMul,Nat.reduceLT,Nat.reduceLeDiff,Nat.reduceEqDiff,Nat.reduceBEq,Int.reduceLT,Int.reduceLE,Int.reduceToNat,Int.reduceAdd,Int.reduceSub,Int.reduceMul,Int.reduceNeg,Int.reduceEq,reduceCtorEq,eq_self,ne_eq,not_false_eq_true,if_true,if_false,reduceIte,hX,hR,congrFun hb,l_,lZ,fN,gk,kO,cond_true,cond_false,hE];first|done|rfl
 ·rintro d aB aD ⟨rfl,rfl,rfl⟩;first
   |rw[Nv (Nc (by rw[hb];exact Kh rfl) (by rw[hT];simp only[List.forall_mem_cons,List.not_mem_nil,false_implies,implies_true,and_true];(repeat' apply And.intro)<;>(intro h;first|rfl|(simp only[hE,cond_true,cond_false];rfl)|(exfalso;simp[hX]at h))))]
   |rw[hE,Nv (Nc (by rw[hb];exact Kh rfl) (by rw[hT];simp only[List.forall_mem_cons,List.not_mem_nil,false_implies,implies_true,and_true];(repeat' apply And.intro)<;>(intro h;first|rfl|(simp only[hE,cond_true,cond_false];rfl)|(exfalso;simp[hX]at h))))]
  try simp only[hE]
  exact bX.of_eq rfl):p:=h
theorem EK {p:Prop}(h:p:=by
 first
  |(refine lH.Rw rfl ?_;first|exact zt|exact Vl)
  |(refine lH.Ry (ak.it (by assumption)) ?_;exact Vm)
  |(refine lH.Ry (aH.it (by assumption)) ?_;exact Vo)):p:=h
theorem iv {p:Prop}(h:p:=by
 intro T b hT hb pk pj;have hR:∀L m,bq L L T b m=pS L L _ b m:=λL m=>yy (F:=L) (V:=L) (b:=b) hT m;first
  |have hE2:=hE
  |have hE:= @cond_true Nat
 simp only[List.forall_mem_cons,List.not_mem_nil,false_implies,implies_true,and_true]
 and_intros
 all_goals
  intro L o hX ho;cases ho;obtain⟨hL,hX⟩:=hX
  replace hX:=And.intro hL hX
  simp only[FA,Nat.reduceDiv,Nat.reduceMod,Nat.reduceBEq,and_true]at hX;first
   |(first
     |rw[Gy hL pk pj (by rw[hT];rfl) (by rw[hT];simp[more])]
     |rw[P5 (by rw[hT];simp) (by rw[hT];simp[more])]
     try simp only[hX,jS,kr,ne_eq,Nat.reduceEqDiff,not_false_eq_true,cond_true,cond_false,List.cons_append,List.nil_append,List.append_nil]
     first|exact zt|exact Vl|exact Vm|exact Vo|exact Vk|exact EK)
   |(rw[CR (r:=0) hL pk pj (by rw[hT];rfl) (by rw[hb];simp only[fN,gk,C',Da];rfl) (by rw[hT];simp only[List.forall_mem_cons,List.not_mem_nil,false_implies,implies_true,and_true];and_intros<;>(intro h;first|rfl|(exfalso;simp[hX]at h;done)|(simp only[hX,jS,kr,ne_eq,Nat.reduceEqDiff,not_false_eq_true,cond_true,cond_false];rfl)))]
     try simp only[hX,jS,kr,ne_eq,Nat.reduceEqDiff,not_false_eq_true,cond_true,cond_false,List.cons_append,List.nil_append,List.append_nil]
     first|exact zt|exact EK)
   |(rw[CR (r:=1) hL pk pj (by rw[hT];rfl) (by rw[hb];simp only[fN,gk,C',Da];rfl) (by rw[hT];simp only[List.forall_mem_cons,List.not_mem_nil,false_implies,implies_true,and_true];and_intros<;>(intro h;first|rfl|(exfalso;simp[hX]at h;done)|(simp only[hX,jS,kr,ne_eq,Nat.reduceEqDiff,not_false_eq_true,cond_true,cond_false];rfl)))]
     try simp only[hX,jS,kr,ne_eq,Nat.reduceEqDiff,not_false_eq_true,cond_true,cond_false,List.cons_append,List.nil_append,List.append_nil]
     first|exact zt|exact EK)
   |(rw[CR (r:=2) hL pk pj (by rw[hT];rfl) (by rw[hb];simp only[fN,gk,C',Da];rfl) (by rw[hT];simp only[List.forall_mem_cons,List.not_mem_nil,false_implies,implies_true,and_true];and_intros<;>(intro h;first|rfl|(exfalso;simp[hX]at h;done)|(simp only[hX,jS,kr,ne_eq,Nat.reduceEqDiff,not_false_eq_true,cond_true,cond_false];rfl)))]
     try simp only[hX,jS,kr,ne_eq,Nat.reduceEqDiff,not_false_eq_true,cond_true,cond_false,List.cons_append,List.nil_append,List.append_nil]
     first|exact zt|exact EK)
   |(rw[CR (r:=3) hL pk pj (by rw[hT];rfl) (by rw[hb];simp only[fN,gk,C',Da];rfl) (by rw[hT];simp only[List.forall_mem_cons,List.not_mem_nil,false_implies,implies_true,and_true];and_intros<;>(intro h;first|rfl|(exfalso;simp[hX]at h;done)|(simp only[hX,jS,kr,ne_eq,Nat.reduceEqDiff,not_false_eq_true,cond_true,cond_false];rfl)))]
     try simp only[hX,jS,kr,ne_eq,Nat.reduceEqDiff,not_false_eq_true,cond_true,cond_false,List.cons_append,List.nil_append,List.append_nil]
     first|exact zt|exact EK)):p:=h
end Go.Proofs.YtafmfhkplgapjaaGreatDoor
namespace Go.Proofs.YtafmfhkplgapjaaGreatDoor
set_option maxRecDepth 100000
set_option maxHeartbeats 4000000
open Go.Ab
attribute[local irreducible] av dL dY ak aH cY IA ez aP fM
theorem aiY {ops:Array Oper}(bP:ops=dA Tryz.f93 9)(w0:World)(S0:Addr->Prop)(e9:MM)(own:Nat->Prop)(β:List Nat)(A B:List Int)(p:Nat)(W len:Int)(M0 Z0 C0 X:List D)(hM0:M0.map (gY 0)=M0)(hZ0:Z0.map (gY 0)=Z0)(hC0:C0.map (gY 0)=C0)(hX:X.length<=100)(hA:p < A.length)(hB:p < B.length)(bA:0<=nth A p/\nth A p<=99999)(bB:0<=nth B p/\nth B p<=99999)(bV:0<=(nth A p + nth B p).tdiv 2/\(nth A p + nth B p).tdiv 2<=99999):
  jN ⟨aa,w0,S0,e9,none,own,β⟩ 9 ops 48 [(0,29,λL=> .box 4 1),(1,30,λL=>bif L 15 then .undef else .own 0),(2,31,λL=> .box 3 0),(3,32,λL=>ints A),(4,33,λL=>i64 p),(5,34,λL=> .ro [i64 (nth A p)]),(6,35,λL=>i64 (nth A p)),(7,36,λL=> .box 3 1),(8,37,λL=>ints B),(9,38,λL=>i64 p),(10,39,λL=> .ro [i64 (nth B p)]),(11,40,λL=>i64 (nth B p)),(12,41,λL=>i64 (nth A p + nth B p)),(13,42,λL=>i64 ((nth A p + nth B p).tdiv 2)),(14,43,λL=> .list [i64 ((nth A p + nth B p).tdiv 2)]),(15,44,λL=> .own 0),(16,45,λL=> .box 4 1)] [(1, .box 0 0),(2, .box 1 0),(4, .box 2 0),(6, .box 3 0),(7, .box 4 0),(8,i64 p),(25,i64 len),(26,i64 p)] (λL=>[.mu M0, .mu Z0, .mu C0, .mu [ints A,ints B], .mu [i64 W,bif L 17 then .own 0 else bif L 15 then .undef else .own 0]]) (λL=>[⟨true,3,1,bif L 15 then X++[i64 ((nth A p + nth B p).tdiv 2)]else X⟩]):=by
 have hE:=(af @hM0 (af @hZ0 @hC0));simp only[dA,eH,e8,Tryz.f93,fw,Nat.reduceBEq,bK,if_false,if_true,eI,eu,eR,iC,reduceIte,eq_self]at bP;subst bP;exact jY Tryz.ty.mixed rfl [(0,[30,34]),(1,[1,30,34]),(2,[30,34]),(3,[5,30,34]),(4,[30,34]),(5,[7,9,30,34]),(6,[11,30,34]),(7,[30,34]),(8,[15,30,34]),(9,[30,34]),(10,[17,19,30,34]),(11,[21,30,34]),(12,[13,23,30,34]),(13,[25,30,34]),(14,[27,30,34]),(15,[3,29,34]),(16,[31,34]),(17,[31,33])] [] ax rfl rfl iv js iw
def Nx (W sl:Int)(S:List aS)(q:Int):Int:=(eU W sl S q S.length + eW W sl S q S.length).tdiv 2
abbrev se (W sl:Int)(S:List aS)(n:Nat):List Int:=(ct n).map λ(q:Nat)=>Nx W sl S (q:Int)
theorem aiZ (W sl:Int)(S:List aS)(n:Nat):(se W sl S (n + 1)).map (λ(x:Int)=>i64 x)=(se W sl S n).map (λ(x:Int)=>i64 x)++[i64 (Nx W sl S n)]:=by unfold se;rw[List.range_succ,x_,x_];rfl
theorem VS (W R:Nat)(sl:Int)(S:List aS)(h:dB W R sl S)(hc:fp W sl S):ak aa 93 [.agg (cx W R sl S)] (.aF [.agg [i64 (W:Nat),ints (se W sl S (W * R))],i64 0]):=by
 have hw:=h.w;have hr:=h.r;have h2:=tq h.w h.r;have c1:=ajm W R sl S h hc;have c2:=NP W R sl S h;obtain⟨A,hA⟩:∃A:List Int,A=(ct (W * R)).map λ(q:Nat)=>eU W sl S (q:Int) S.length:=⟨_,rfl⟩;obtain⟨B,hB⟩:∃B:List Int,B=(ct (W * R)).map λ(q:Nat)=>eW W sl S (q:Int) S.length:=⟨_,rfl⟩;have eA:D.list (nQ W sl S (W * R))=ints A:=by rw[hA];simp[nQ,Function.comp_def]
 have eB:D.list (q8 W sl S (W * R))=ints B:=by rw[hB];simp[q8,Function.comp_def]
 rw[eA,eB]at c2;have lA:A.length=W * R:=by rw[hA];simp
 have lB:B.length=W * R:=by rw[hB];simp
 have nA:∀q,q < W * R->nth A q=eU W sl S (q:Nat) S.length:=λq hq=>by rw[hA];simp[nth,hq]
 have nB:∀q,q < W * R->nth B q=eW W sl S (q:Nat) S.length:=λq hq=>by rw[hB];simp[nth,hq]
 clear hA hB eA eB;refine cT func93 ntmps93 results93 call93 λw0 S0 M0=> ?_;repeat'(first|(exact rfl)|(show av _ (.loop _) _ _;refine bJ ?_)|refine aq ?_|refine au λK hK=> ?_|refine cA (c1) ?_|refine cA (c2) ?_|(intro hg;try exact ai)|exact fin|apply af)
 refine b_ ?_;refine B3 4 1 3 1 _ rfl rfl ?_;refine dn (ι:=Nat) (λp=>[(1, .box 0 0),(2, .box 1 0),(4, .box 2 0),(6, .box 3 0),(7, .box 4 0),(25,i64 (W * R:Nat)),(26,i64 (p:Nat))]) (λ_=>[.mu (cx W R sl S), .mu [i64 0, .val (.slice none 0 0)], .mu (fy W R sl S), .mu [ints A,ints B], .mu [i64 (W:Nat), .own 0]]) (λp=>[⟨true,3,1,(se W sl S p).map λ(x:Int)=>i64 x⟩])
  (λp=>p<=W * R) (λp=>W * R - p) (λ_ _=>⟨rfl,rfl⟩) 0 (bD _) (br rfl (by try(refine aj ?_;try exact trivial);simp[lA]) ⟨_,rfl⟩ ⟨[],rfl⟩) (λp hp=> ?_) (λ_ _=>bD _)
 by_cases aG:p < W * R
 ·have b1:=AM h (p:=(p:Nat)) ae S.length (aY _);have b2:=Ef h (p:=(p:Nat)) ae S.length (aY _);have e1:=nA p aG;have e2:=nB p aG;have hs:=aiZ W sl S p;have hV:Nx W sl S p=(nth A p + nth B p).tdiv 2:=by rw[e1,e2];rfl
  have hV2:0<=(nth A p + nth B p).tdiv 2/\(nth A p + nth B p).tdiv 2<=99999:=by
   rw[e1,e2,Int.tdiv_eq_ediv_of_nonneg ae];omega
  have T6:((se W sl S p).map λ(x:Int)=>i64 x).length<=100:=by simp;omega
  rw[hV]at hs;refine aj ?_;repeat'(first|(show av _ (.region 9 _ true) _ _;refine bJ ?_)|refine aq ?_|refine au λK hK=> ?_|(intro hg;try exact ai)|exact fin|apply af)
  refine b_ ?_;refine nv (cR 48 [(1, .box 0 0),(2, .box 1 0),(4, .box 2 0),(6, .box 3 0),(7, .box 4 0),(8,i64 (p:Nat)),(25,i64 (W * R:Nat)),(26,i64 (p:Nat))] [.mu (cx W R sl S), .mu [i64 0, .val (.slice none 0 0)], .mu (fy W R sl S), .mu [ints A,ints B], .mu [i64 (W:Nat), .own 0]] [⟨true,3,1,(se W sl S p).map λ(x:Int)=>i64 x⟩]) (br rfl (by simp[put]) ⟨[],rfl⟩ ⟨[],rfl⟩) (ik rfl rfl) (bD _) ?_;refine aiY (by rfl) _ _ _ _ _ A B p W (W * R:Nat) (cx W R sl S) [i64 0, .val (.slice none 0 0)] (fy W R sl S) ((se W sl S p).map λ(x:Int)=>i64 x) rfl rfl rfl T6 ae ae (by rw[e1];omega) (by rw[e2];omega) hV2 _ ?_;simp only[e_,cond_true,cj,bH,<-hs];repeat'(first|refine aq ?_|refine au λK hK=> ?_|(intro hg;try exact ai)|exact fin|apply af)
  all_goals first|(exact⟨p + 1,ae,ae,br rfl (by try refine aj ?_;try simp) ⟨[],rfl⟩ ⟨[],rfl⟩⟩)|skip
 ·obtain rfl:p=W * R:=ae;refine aj ?_;repeat'(first|refine aq ?_|refine au λK hK=> ?_|(intro hg;try exact ai)|exact fin|apply af)
  all_goals skip
theorem P3 {L V V':Nat->Bool}{p:Nat->Bool}{b:Nat->D}(hb:sj p b=b):∀{T:fm},(∀e∈T,L e.1=true->qw p (e.2.2 V)=e.2.2 V')->sj p (bq L V T b)=bq L V' T b
 |[],_=>hb
 |e::T,h=>by
  have h1:=h e (dI ..);have h2:=P3 (L:=L) hb λx hx=>h x (dW _ hx);simp only[bq];cases hL:L e.1 with
  |false=>simp only[cond_false];exact h2
  |true=>
   simp only[cond_true];rw[<-h2,<-h1 hL]
   funext q
   simp only[sj,put];split<;>rfl
theorem ad5 {d:D}{r:Nat}(h:Names 0 0 d):d.qQ r=false:=by
 have key:∀cs:List D,(∀d∈cs,d.qQ r=false)->rO r cs=false:=λcs=>by
  induction cs with
  |nil=>intro _;rfl
  |cons d cs ih=>intro h;simp only[rO,Bool.or_eq_false_iff];exact⟨h d (dI ..),ih λx hx=>h x (dW _ hx)⟩
 induction h with
 |agg cs h ih=>exact key cs ih
 |aF cs h ih=>exact key cs ih
 |ag f cs h ih=>exact key cs ih
 |cL f cs h ih=>exact key cs ih
 |own r h=>exact absurd h (dF _)
 |_=>rfl
theorem u7 {cs:List D}{r:Nat}(h:∀d∈cs,Names 0 0 d):cs.map (gY r)=cs:=by
 exact(oS (g:=id) λd hd=>KD (ad5 (h d hd))).trans (v8 _)
theorem V0 {p:Nat->Bool}:∀{l:List (Nat×D)},(l.all λe=> !(e.2.mb p))=true->sj p (cS l)=cS l
 |[],_=>funext λ_=>rfl
 |e::l,h=>by
  simp only[List.all_cons,c_,Bool.not_eq_true']at h;rw[fN,ajg,V0 h.2];unfold qw;rw[h.1]
theorem aa8 {L:Nat->Bool}{k m:Nat}{v v':(Nat->Bool)->D}{b:Nat->D}{T0:fm}(hL:L k=false)(hn:k∉T0.map (·.1))(hv:∀e∈T0,e.2.2 L=e.2.2 (more L k)):
  bq (more L k) (more L k) ((k,m,v')::T0) b=put (bq L L ((k,m,v)::T0) b) m (v' (more L k)):=by
 simp only[bq,jS,hL,cond_true,cond_false,CQ hn];rw[Gv hv]
theorem aa7 {L:Nat->Bool}{k m:Nat}{v v':(Nat->Bool)->D}{b:Nat->D}{T0:fm}{p:Nat->Bool}(hL:L k=false)(hn:k∉T0.map (·.1))(hb:sj p b=b)(hv:∀e∈T0,L e.1=true->qw p (e.2.2 L)=e.2.2 (more L k)):
  bq (more L k) (more L k) ((k,m,v')::T0) b=put (sj p (bq L L ((k,m,v)::T0) b)) m (v' (more L k)):=by
 simp only[bq,jS,hL,cond_true,cond_false,CQ hn];rw[P3 hb hv]
theorem ahu {d:D}:(flat [d]).length=d.cells.length:=by simp[flat]
def lN (s:aJ)(n:Nat):List D:=flat (cD n (.agg (jt s)))
theorem Hb (s:aJ)(n:Nat):(lN s n).length=n * 4:=by
 have:=qq 4 (cD n (D.agg (jt s))) (λz hz=>by rw[(rv.1 hz).2];rfl);simpa[lN]using this
theorem Sg (s:aJ)(n:Nat):lN s (n + 1)=lN s n++jt s:=by
 unfold lN;rw[alH];simp[flat,D.cells]
theorem aej (s:aJ)(n:Nat):∀d∈lN s n,Names 0 0 d:=λd hd=>by
 simp only[lN,flat,zT,rv]at hd;obtain⟨x,⟨_,rfl⟩,hd⟩:=hd;simp only[D.cells,eK,ny,or_false]at hd;rcases hd with rfl|rfl|rfl|rfl<;>constructor
def sv (s:aJ)(n cap:Nat)(cs:List D):Prop:=cs.length=cap * 4/\n<=cap/\(∃U,cs=lN s n++U)/\∀d∈cs,Names 0 0 d
theorem Vn {p:Prop}(h:p:=by
 intro I T b hT hb pk pj;have hR:∀L m,bq L L T b m=pS L L _ b m:=λL m=>yy (F:=L) (V:=L) (b:=b) hT m;simp only[List.forall_mem_cons,List.not_mem_nil,false_implies,implies_true,and_true]
 and_intros
 all_goals
  intro L o aW hX ho;cases ho;obtain⟨hL,hX⟩:=hX
  replace hX:=And.intro hL hX
  simp only[FA,Nat.reduceDiv,Nat.reduceMod,Nat.reduceBEq,and_true]at hX;first
   |(rw[Gy hL pk pj (by rw[hT];rfl) (by rw[hT];simp[more])]
     try simp only[hX,jS,kr,ne_eq,Nat.reduceEqDiff,not_false_eq_true,cond_true,cond_false,List.cons_append,List.nil_append,List.append_nil]
     first
      |(refine fS.qO rfl (aP.ak7 34 ?_ (bX.of_eq rfl));refine aj ?_;exact trivial)
      |exact fS.qO rfl (aP.ak7 34 aj (bX.of_eq rfl))
      |exact fS.qO rfl (aP.aeh rfl (bC rfl) (bX.of_eq rfl)))
   |(have hE:=u7 (r:=0) (aW (by simp only[hX])).2.2.2
     rw[CR (r:=0) hL pk pj (by rw[hT];rfl) (by rw[hb];simp only[fN,gk,C',Da];rfl) (by rw[hT];simp only[List.forall_mem_cons,List.not_mem_nil,false_implies,implies_true,and_true];and_intros<;>(intro h;first|rfl|(exfalso;simp[hX]at h;done)|(simp only[hX,jS,kr,ne_eq,Nat.reduceEqDiff,not_false_eq_true,cond_true,cond_false];rfl)))];try simp only[hX,jS,kr,ne_eq,Nat.reduceEqDiff,not_false_eq_true,cond_true,cond_false,List.cons_append,List.nil_append,List.append_nil]
     exact zt)):p:=h
theorem eG {d:D}{nb nr:Nat}(h:Names 0 0 d):cq nb nr d=true:=by
 have key:∀cs:List D,(∀d∈cs,cq nb nr d=true)->bN nb nr cs=true:=λcs h=>ec h;induction h with
 |agg cs h ih=>exact key cs ih
 |aF cs h ih=>exact key cs ih
 |ag f cs h ih=>exact key cs ih
 |cL f cs h ih=>exact key cs ih
 |own r h=>exact absurd h (dF _)
 |box i off h=>exact absurd h (dF _)
 |aN i off n c h=>exact absurd h (dF _)
 |bu i h=>exact absurd h (dF _)
 |_=>rfl
theorem acg {d:D}{σ:Nat->Option Nat}(h:Names 0 0 d):d.gX σ=d:=by
 have key:∀cs:List D,(∀d∈cs,d.gX σ=d)->ko σ cs=cs:=λcs=>by
  induction cs with
  |nil=>intro _;rfl
  |cons d cs ih=>intro h;simp only[ko];rw[h d (dI ..),ih λx hx=>h x (dW _ hx)]
 induction h with
 |agg cs h ih=>simp only[D.gX];rw[key cs ih]
 |aF cs h ih=>simp only[D.gX];rw[key cs ih]
 |ag f cs h ih=>simp only[D.gX];rw[key cs ih]
 |cL f cs h ih=>simp only[D.gX];rw[key cs ih]
 |own r h=>exact absurd h (dF _)
 |box i off h=>exact absurd h (dF _)
 |aN i off n c h=>exact absurd h (dF _)
 |bu i h=>exact absurd h (dF _)
 |_=>simp only[D.gX]
theorem AD {cs:List D}{σ:Nat->Option Nat}(h:∀d∈cs,Names 0 0 d):ko σ cs=cs:=by
 rw[GM];exact(oS (g:=id) λd hd=>acg (h d hd)).trans (v8 _)
def AG (s:aJ):Nat->List D->Nat->List Bx
 |0,_,_=>[.mu (eb s), .mp [], .mu (eb s++[.val (.slice none 0 0), .own 0, .bu 1,i64 0, .own 1, .bool true])]
 |j + 1,cs,cap=>[.mu (eb s), .mp [], .mu (eb s++[.aN 3 0 (j + 1) cap, .own 0, .bu 1,i64 0, .own 1, .bool true]), .mu cs]
theorem KZ (s:aJ):∀(j:Nat) (cs:List D) (cap:Nat),(j≠0->sv s j cap cs)->a7 (AG s j cs cap).length 2 (AG s j cs cap)=true
 |0,cs,cap,_=>rfl
 |j + 1,cs,cap,h=>by
  have h1:bN 4 2 cs=true:=ec λd hd=>eG ((h (Nat.succ_ne_zero _)).2.2.2 d hd);show a7 4 2 [.mu (eb s), .mp [], .mu (eb s++[.aN 3 0 (j + 1) cap, .own 0, .bu 1,i64 0, .own 1, .bool true]), .mu cs]=true;simp only[a7,h1,yg];rfl
abbrev ay (s:aJ)(n cap:Nat)(cost:Int):List D:=eb s++[.aN 2 0 n cap, .own 0, .bu 1,i64 cost, .own 1, .bool true]
end Go.Proofs.YtafmfhkplgapjaaGreatDoor
namespace Go.Proofs.YtafmfhkplgapjaaGreatDoor
set_option maxRecDepth 100000
set_option maxHeartbeats 4000000
open Go.Ab Go.oO Go.RowKit Go
theorem WZ {l1 l2:List Deferred}{c:Ctx}{code:Code}{Q:Exit->St->Prop}{s:St}{a:Act}{w:World}{Q':Exit->Act->World->Prop}(hr:RX l1 l2 c s a w)(h:fB l1 l2 c code Q s)(hp:∀e a' w' s',RX l1 l2 c s' a' w'->Q e s'->Q' e a' w'):code.wpIn c.F 0 c.P Q' a w:=
 wpIn_mono (h a w hr) λe a' w' ⟨s',r,q⟩=>hp e a' w' s' r q
theorem W7 {c:Ctx}{code:Code}{Q:Exit->St->Prop}{s:St}{a:Act}{w:World}{Q':Exit->Act->World->Prop}(hr:R c s a w)(h:av c code Q s)(hp:∀e a' w' s',R c s' a' w'->Q e s'->Q' e a' w'):code.wpIn c.F 0 c.P Q' a w:=
 wpIn_mono (h a w hr) λe a' w' ⟨s',r,q⟩=>hp e a' w' s' r q
attribute[local irreducible] av dL dY ak aH IA ez aP fM fB
theorem PN {c:Ctx}{s:St}{a a':Act}{w:World}{g:Gh}{n:Nat}{sl:Nat->D}(h:RG c s a w g)(hs:a'.tmps.size=n)(ed:∀m,Rel w g (a'.tmps.getD m undef) (sl m))(hd:a'.defers=a.defers):RG c ⟨n,sl,s.bx,s.rw⟩ a' w g:=
 ⟨⟨hd▸h.df.cN,h.df.bO,h.df.m0,h.df.gw,h.df.gD,h.df.jA,h.df.fD⟩,hs,h.below,h.cu,h.ba,h.en,h.S0,h.fJ,h.lβ,h.lρ,ed,h.bx,h.fz,h.rw,h.ap,h.mp⟩
theorem Xw {P:Program}{S:Addr->Prop}{M:MM}{w:World}{args:List Value}{ds:List D}{n:Nat}(hT:lG w)(hS:Go.Ab.Good w S)(hM:jf w M)(hl:args.length=ds.length)(hn:ds.length<=n)(bw:∀q x,ds[q]? =some x->Rel w ⟨S,[],[],M⟩ (args.getD q Go.undef) x):
  R ⟨P,w,S,M,none,λb=>w.heap.size<=b,[]⟩ ⟨n,kQ 0 ds,[],[]⟩ {tmps:=args.toArray++gW (n - args.toArray.size) undef,defers:=[]} w:=by
 refine⟨⟨S,[],[],M⟩,⟨⟨uK,λd hd=>by cases hd⟩,hM,λ_ _ h=>h,λ_ _ h=> .inl h,λi b h=>by simp at h,λ_ _=>rfl,hT.fresh hM⟩,by simp;omega, .of (Below.refl _ _),λ_ h=>h,hS,λ_ h=> .inl h,λ_ h=>h,hS,rfl,rfl, ?_, ?_, ?_, ?_, ?_, ?_⟩
 ·intro m;simp only;rw[tU];simp only[dF,if_false,Nat.sub_zero];cases hd:ds[m]? with
  |none=>exact .undef _ _
  |some x=>
   have hm:=(aQ.1 hd).1;have:=bw m x hd;have e:(args.toArray++gW (n - args.toArray.size) undef).getD m undef=args.getD m undef:=by
    have:m < args.length:=ae;simp[Array.getElem?_append,this]
   rw[e];exact this
 ·intro i cs hi;simp at hi
 ·intro i cs hi;simp at hi
 ·intro i cs hi;simp at hi
 ·exact⟨λ_=> .inl 0,λi x b hi=>by simp at hi,λr row v gb hr=>by simp at hr⟩
 ·intro i es hi;simp at hi
theorem wS {P:Program}{ops:Array Oper}{Q:Exit->Act->World->Prop}{o:Oper}{rest:List Oper}{a:Act}{w:World}(hg:o.guard=none)(h:o.wpIn cE 0 P a w (wpListIn cE 0 P ops Q rest) Q):
  wpListIn cE 0 P ops Q (o::rest) a w:=by
 unfold wpListIn;rw[if_pos (by simp[eh,hg])];exact h
theorem S_:aa.underlying 20=some (.interface (aa.methodsAt 20)):=ax
theorem Kz {F:Fence}{n:Nat}{P:Program}{Q:Exit->Act->List Frame->World->Prop}{a:Act}{cs:List Frame}{w:World}{dst:Option Tmp}{ty:TypeId}{pos:String}{aft:Array Edge}(hF:∀f,F.fn f)
  (h:match recoverD cs with|some (v,cm)=>Q .normal (a.put dst v) cm w|none=>Q .normal (a.put dst .nilIface) cs w):
  wpOpsSIn F n P #[⟨dst, .call ⟨.builtin .recover,#[],#[]⟩,ty,pos,aft,none⟩] Q (ct #[(⟨dst, .call ⟨.builtin .recover,#[],#[]⟩,ty,pos,aft,none⟩:Oper)].size) a cs w:=by
 show wpOpsSIn F n P _ Q [0] a cs w;have aV:(execOp a.eval ⟨dst, .call ⟨.builtin .recover,#[],#[]⟩,ty,pos,aft,none⟩).run P w= .ok .recover w:=by
  simp[execOp,resolve,invoke,builtin]
 simp only[wpOpsSIn,List.getElem?_toArray,List.getElem?_cons_zero];refine⟨λf _=>hF f, ?_⟩
 ·rw[if_pos (by simp[eh]),aV];simp only;cases hr:recoverD cs with
  |none=>rw[hr]at h;exact h
  |some p=>obtain⟨v,cm⟩:=p;rw[hr]at h;exact h
theorem acb (tmps:Array Value)(w:World):(results OB tmps).run aa w= .ok (.tuple #[]) w:=by
 rw[GL,show OB.results=#[]from rfl];simp
theorem eq_nil {a:Act}{w:World}{x:Operand}{dst:Option Tmp}{ty:TypeId}{pos:String}{aft:Array Edge}(ha:a.eval x= .nilIface):(execOp a.eval ⟨dst, .binOp .eql 20 x (.const .nilIface) 20,ty,pos,aft,none⟩).run aa w= .ok (.value (.bool true)) w:=by
 have h1:a.eval (.const Value.nilIface)= .nilIface:=rfl;simp[execOp,ha,h1,eqGuard,run_eql_nil_nil (P:=aa) w 20 S_]
theorem acr (args:Array Value)(w:World)(hn:args.size<=2):CallsDIn cE 0 aa 127 args .returning w (λe u' w'=>(∃v,e= .returned v)/\u'= .returning/\w'=w):=by
 refine callsDIn_of_wpSIn func127 rfl trivial λc0 cs hu=> ?_;refine wpSIn_seq (wpSIn_region (Kz (λ_=>trivial) ?_));have gy:recoverD (c0::cs)=none:=by simp[recoverD,hu]
 rw[gy];show Code.wpSIn _ _ _ _ _ _ _ _;refine wpSIn_of_wpIn rfl ?_;have py:OB.ntmps=12:=rfl;generalize ha:(Act.put {tmps:=args++gW (OB.ntmps - args.size) undef,defers:=[]} (some 5) .nilIface:Act)=a;have aR:a.tmps.size=12:=by rw[<-ha];simp[Act.put,py];omega
 have h7:a.eval (.tmp 5)= .nilIface:=by rw[<-ha];simp[Act.put,Act.eval,py];omega
 have hd:a.defers=[]:=by rw[<-ha];rfl
 refine wpIn_block (wpIn_seq (wpIn_region_lit (wS rfl ⟨λ_ _=>trivial, ?_⟩)));rw[Oper.semAt_eq _ _ _ (by intro cl h;cases h),eq_nil h7,Oper.uponIn_value];show Code.wpIn _ _ _ _ _ _ _;have h9:(a.put (some 7) (.bool true)).eval (.tmp 7)= .bool true:=by simp[Act.put,Act.eval,aR]
 refine wpIn_cond_split h9 (λ_=> ?_) (λh=>by cases h);refine wpIn_region_lit (wS rfl ⟨λ_ _=>trivial, ?_⟩);have h4:(execOp (a.put (some 7) (.bool true)).eval ⟨some 2, .assign (.tmp 5),20, "line.go:229",#[],none⟩).run aa w= .ok (.value ((a.put (some 7) (.bool true)).eval (.tmp 5))) w:=by simp[execOp]
 rw[Oper.semAt_eq _ _ _ (by intro cl h;cases h),h4,Oper.uponIn_value];unfold wpListIn;simp only[Exit.inBlock,bodyPostS];refine⟨hd,c0.mode,rfl, .tuple #[],acb _ _,⟨_,rfl⟩,hu,trivial⟩
def Z7:List D:=[.val .nilFunc,i64 0, .bool false, .bool false, .bool false, .val (.slice none 0 0), .val (.slice none 0 0)]
def rS (t:ByteArray):St:=cR 106 [(0, .str t),(2, .box 0 0),(3, .box 1 0)] [.mu Z7, .mu [.bool false]] []
theorem QP (t:ByteArray):(rS t).named:=ik rfl rfl
noncomputable def KX:Code:=match pK.body with|some (.seq _ (.seq _ r))=>r|_=> .skip
theorem adD:aH aa 129 [] [.mu Z7, .mu [.bool false]] [] (λd aB aD=>d= .bu 2/\aB=[.mu Z7, .mu [.bool false], .mp yI]/\aD=[]):=by
 refine(adC.uw [] [] (bR:=[]) (B:=[.mu Z7, .mu [.bool false]]) (RW:=[]) aO aO aO aO rfl rfl rfl (λ_ _ _ _=>bD _)).mono ?_;rintro d aB aD ⟨d0,jc,k_,⟨rfl,rfl,rfl⟩,_,rfl,rfl,rfl⟩;exact⟨rfl,rfl,rfl⟩
theorem Rk (t:ByteArray)(d1 d2:D)(hB:∀(l1 l2:List Deferred) (w0:World) (S0:Addr->Prop) (M0:MM) (own:Nat->Prop) (β:List Nat),β.length=2->
  fB l1 l2 ⟨aa,w0,S0,M0,none,own,β⟩ (KX) (λe s8=>e= .ret/\mQ aa s8 pK.results.toList λds=>ds=[d1,d2]) (rS t)):ak aa 101 [.str t] (.aF [d1,d2]):=by
 have Mt:=call101;unfold ak;refine⟨Mt,λS M w args hT hS hM hl bw=> ?_⟩;refine(callsIn_wide (n:=0)).1 (callsIn_of_wp_marks func101 rfl trivial ?_);have hr:=Xw (P:=aa) (n:=106) hT hS hM hl aO bw;have py:pK.ntmps=106:=rfl;rw[py];generalize({tmps:=args.toArray++gW (106 - args.toArray.size) undef,defers:=[]}:Act)=a0 at hr⊢;refine wpIn_seq (W7 (c:=⟨aa,w,S,M,none,λb=>w.heap.size<=b,[]⟩) (Q:=λe s=>e= .normal/\Le s (rS t)) hr (kI λK hK=> ?_) ?_)
 ·refine aj ?_;exact hK _ ⟨rfl,br (l:=[(0, .str t),(2, .box 0 0),(3, .box 1 0)]) rfl (by try refine aj ?_;try simp) ⟨_,rfl⟩ ⟨_,rfl⟩⟩
 rintro e a2 w2 s1 fO ⟨rfl,D_⟩
 replace cV:=fO.le D_ (QP t) (bD _)
 clear D_ s1 hr fO;show Code.wpIn _ _ _ _ _ _ _;obtain⟨l,eN⟩:∃l,a2.defers=l:=⟨_,rfl⟩;have LR:RX l l ⟨aa,w,S,M,none,λb=>w.heap.size<=b,[]⟩ (rS t) a2 w2:=⟨eN,by
  have:({a2 with defers:=l}:Act)=a2:=by rw[<-eN]
  rw[this];exact cV⟩
 clear cV;refine wpIn_seq (wpIn_region_lit ?_);refine Aw (rest:=[_]) (K:=λs'=>s'=_) (λs3 a3 w3 LQ e3=> ?_) [_] _ a2 w2 rfl LR (by
  simp only[rS,cR,e_];refine aj ?_;exact rfl)
 subst e3;refine wS rfl ⟨λ_ _=>trivial, ?_⟩;obtain⟨xr,g3,de⟩:=LQ;have h9:=de.ev (.tmp 8);change Rel w3 g3 (a3.eval (.tmp 8)) (.ag 127 [.box 0 0, .box 1 0])at h9
 generalize LX:a3.eval (.tmp 8)=v9 at h9;cases h9 with
 |ag _ _ vs _ jn uh=>
 obtain⟨vs⟩:=vs;obtain⟨p1,p2,rfl⟩:∃p1 p2,vs=[p1,p2]:=by
  match vs,jn with
  |[a,b],_=>exact⟨a,b,rfl⟩
 clear uh jn;obtain⟨dd,pB⟩:∃dd:Deferred,dd={target:= .fn (.func 127) #[p1,p2],args:=#[]}:=⟨_,rfl⟩;have L5:(Oper.semAt cE.round a3.eval ⟨none, .defer ⟨.value (.tmp 8),#[],#[]⟩,0, "line.go:228",#[{on:=0,ground:=Go.Ground.data}],none⟩).run aa w3= .ok (.defer dd) w3:=by
  rw[show cE.round=none from rfl,Oper.semAt_none,pB];simp[execOp,resolve,LX,Deferred.ofValue]
 rw[L5,Oper.uponIn_defer];unfold wpListIn;show Code.wpIn _ _ _ _ _ _ _;have qb:g3.β.length=2:=de.lβ;have lu:=de.zz (a':={a3 with defers:=[]}) rfl de.sz de.sl;have DO:RX (dd::l) [] ⟨aa,w3,g3.S,g3.M,none,λb=>w3.heap.size<=b\/(w.heap.size<=b/\dp w3 b),g3.β⟩ _ {a3 with defers:=dd::a3.defers} w3:=⟨by rw[xr],g3,lu⟩;generalize({a3 with defers:=dd::a3.defers}:Act)=a4 at DO;have hinv:∀w:World,(invoke dd.target dd.args).run aa w= .ok (.enter 127 #[p1,p2]) w:=λw=>by
  rw[pB];simp[invoke,call127]
 have L_:∀m,Names 2 0 (put (put (put (put dJ 3 (D.box 1 0)) 2 (D.box 0 0)) 0 (D.str t)) 8 (D.ag 127 [D.box 0 0,D.box 1 0]) m):=
  uZ (l:=[(8,D.ag 127 [D.box 0 0,D.box 1 0]),(0,D.str t),(2,D.box 0 0),(3,D.box 1 0)]) rfl
 have fin:∀(s8:St) (a8:Act) (w8:World) (g8:Gh),RG ⟨aa,w3,g3.S,g3.M,none,λb=>w3.heap.size<=b\/(w.heap.size<=b/\dp w3 b),g3.β⟩ s8 {a8 with defers:=[]} w8 g8->
   (mQ aa s8 pK.results.toList λds=>ds=[d1,d2])->
   LeavesInM cE 0 aa pK a8.tmps (λe' w'=>∃v S' M',e'= .returned v/\Grow w S M w' S' M'/\Go.Ab.Good w' S'/\Rel w' ⟨S',[],[],M'⟩ v (.aF [d1,d2])) l .returning w8:=λs8 a8 w8 g8 h8 iY=>by
  have hb:=PN (a':={a8 with defers:=l}) (de.yL h8 L_) h8.sz h8.sl rfl;exact AL (c:=⟨aa,w,S,M,none,λb=>w.heap.size<=b,[]⟩) (fn:=pK) (ds:=[d1,d2]) l {a8 with defers:=l} w8 hb rfl iY (λv w9 h9 hv=>⟨v,g8.S,g8.M,rfl,
   ⟨⟨h9.below.os,h9.below.tape,h9.below.output,h9.below.size,λk hk hn=>h9.below.block k hk (λh=>h.elim (λh=>absurd (show w.heap.size<=k from h) (Nat.not_le_of_lt hk)) hn)⟩,h9.S0,h9.en,h9.df.m0,h9.df.gw,h9.df.bO⟩,h9.ba,hv⟩)
 have LP:=DO.le (s':=rS t) (br (l:=[(0, .str t),(2, .box 0 0),(3, .box 1 0)]) rfl (by simp[put]) ⟨_,rfl⟩ ⟨_,rfl⟩) (QP t) (by show g3.β.length<=2;omega);refine WZ LP (hB _ _ _ _ _ _ _ qb) ?_;rintro e a8 w8 s8 ⟨HU,g8,vv⟩ ⟨rfl,iY⟩;show LeavesInM _ _ _ _ _ _ _ _ _;rw[HU];refine⟨by simp, .inr ⟨λh=>(by cases h), .func 127,#[p1,p2],127,#[p1,p2],by rw[pB],hinv _,λ_ _=>trivial, ?_⟩⟩;refine(acr #[p1,p2] w8 aO).mono ?_;rintro e u' w9 ⟨⟨v,rfl⟩,rfl,rfl⟩;exact fin s8 a8 _ g8 vv iY
theorem Rj {ops:Array Oper}(bP:ops=dA pK 3)(l1 l2:List Deferred)(o8:World)(S0:Addr->Prop)(M0:MM)(own:Nat->Prop)(β:List Nat)(t w0:ByteArray)(ws:List ByteArray)(f:FuncId)(many:Int)(sO cp act:Bool)(hf:kR (.str w0) yI=some (kP f many sO cp act)):
  FP l1 l2 ⟨aa,o8,S0,M0,none,own,β⟩ 3 ops 106 [(0,12,λL=> .bu 2),(1,13,λL=> .list ((w0::ws).map D.str)),(2,14,λL=> .ro [.str w0]),(3,15,λL=> .str w0),(4,16,λL=> .aF [kP f many sO cp act, .bool true]),(5,11,λL=> .aF [kP f many sO cp act, .bool true]),(6,17,λL=>kP f many sO cp act),(7,18,λL=> .bool true),(8,19,λL=> .box 0 0)] [(0, .str t),(2, .box 0 0),(3, .box 1 0),(4, .list ((w0::ws).map D.str))] (λL=>[.mu (bif L 9 then[.ag f [],i64 many, .bool sO, .bool cp, .bool act, .val (.slice none 0 0), .val (.slice none 0 0)]else Z7), .mu [.bool (L 10)]]++bif L 0 then[.mp yI]else[]) (λL=>([]:List Row)):=by
 have h2:=adD;have hE:=af @hf (af (λ(k:D->Prop)=>(show ry (List.map D.str (w0::ws)) 0 k=k (.str w0) by simp[ry])) (λ(k:D->Prop)=>(show ry (.str w0::List.map D.str ws) 0 k=k (.str w0) by simp[ry])));simp only[dA,eH,e8,pK,fw,Nat.reduceBEq,bK,if_false,if_true,eI,eu,eR,iC,reduceIte,eq_self]at bP;subst bP;exact Ij Tryz.ty.mixed rfl [(0,[18,20]),(1,[0,18,20]),(1,[1,18,20]),(2,[0,3,18,20]),(2,[1,3,18,20]),(3,[0,5,18,20]),(3,[1,5,18,20]),(4,[1,7,18,20]),(5,[1,9,18,20]),(6,[1,11,18,20]),(7,[1,11,18,20]),(7,[1,11,19,20]),(8,[1,18,20]),(9,[1,13,17,20]),(10,[1,15,19])] [] ax rfl rfl iv js iw
theorem adw {ops:Array Oper}(bP:ops=dA pK 11)(l1 l2:List Deferred)(o8:World)(S0:Addr->Prop)(M0:MM)(own:Nat->Prop)(β:List Nat)(t w:ByteArray)(f:FuncId)(m v j wl:Int)(sO cp act:Bool)(xs:List D)(X Y:List D)(hX:X.length<=100)(c1:ak aa 130 [.str w] (i64 v)):
  FP l1 l2 ⟨aa,o8,S0,M0,none,own,β⟩ 11 ops 106 [(0,85,λL=> .box 0 5),(1,86,λL=>bif L 5 then .undef else .own 0),(2,87,λL=> .str w),(3,88,λL=>i64 v),(4,89,λL=> .list [i64 v]),(5,90,λL=> .own 0),(6,91,λL=> .box 0 5)] [(0, .str t),(2, .box 0 0),(3, .box 1 0),(5,i64 m),(6,i64 j),(7, .str w),(67, .list xs),(68,i64 wl),(69,i64 j)] (λL=>[.mu [.ag f [],i64 m, .bool sO, .bool cp, .bool act,bif L 7 then .own 0 else bif L 5 then .undef else .own 0, .own 1], .mu [.bool true]]) (λL=>[⟨true,3,1,bif L 5 then X++[i64 v]else X⟩,⟨true,79,1,Y⟩]):=by
 simp only[dA,eH,e8,pK,fw,Nat.reduceBEq,bK,if_false,if_true,eI,eu,eR,iC,reduceIte,eq_self]at bP;subst bP;exact Ij Tryz.ty.mixed rfl [(0,[10,14]),(1,[1,10,14]),(2,[10,14]),(3,[5,10,14]),(4,[7,10,14]),(5,[3,9,14]),(6,[11,14]),(7,[11,13])] [] ax rfl rfl iv js iw
abbrev AJ:D:= .val (.slice none 0 0)
theorem Gn {ws:List ByteArray}{d:D}(h:d∈ws.map D.str):d.cells.length=1:=by
 obtain⟨y,_,rfl⟩:=eJ.1 h;rfl
theorem KW (t w0:ByteArray)(ws:List ByteArray)(ns:List Int)(f:FuncId)(m:Nat)(act:Bool)(hs:ak aa 128 [.str t, .str ⟨#[32]⟩] (.list ((w0::ws).map D.str)))(hf:kR (.str w0) yI=some (kP f (m:Int) false false act))(hw:ws.length=m)(hn:ns.length=m)(hm:m<=20)
  (hc:∀j,j < m->ak aa 130 [.str (nth ws j)] (i64 (nth ns j))):ak aa 101 [.str t] (.aF [.agg [.ag f [],i64 (m:Nat), .bool false, .bool false, .bool act,ints ns, .list []], .bool true]):=by
 refine Rk t _ _ λl1 l2 o8 S0 M0 own β hβ=> ?_;simp only[KX,pK,rS,cR,e_];repeat'(first
  |(show fB _ _ _ (.region 3 _ true) _ _;refine bJ ?_)
  |refine oE ?_
  |refine oJ ?_
  |refine oD ?_
  |refine oI ?_
  |refine oF ?_
  |((first|refine oG ax λK hK=> ?_|refine oH ?_|refine bo (hs) ?_);(refine aj ?_;try exact trivial))
  |((first|(refine hK _ ?_;clear hK K)|show bH _ _ _ _|show cj _ _ _ _);simp only[bH,cj,if_true,Nat.reduceEqDiff,reduceIte])
  |(intro hg;first|(exfalso;omega)|(exfalso;contradiction)|skip)
  |apply af
  |(with_reducible rfl)
  |(clear hK;omega)
  |omega)
 refine b_ ?_;refine E9 (cR 106 [(0, .str t),(2, .box 0 0),(3, .box 1 0),(4, .list ((w0::ws).map D.str))] [.mu Z7, .mu [.bool false]] []) (br rfl (by simp[put]) ⟨[],rfl⟩ ⟨[],rfl⟩) (ik rfl rfl) (by rw[hβ];exact aY _) ?_;refine Rj (by rfl) l1 l2 o8 S0 M0 own β t w0 ws f m false false act hf _ ?_;simp only[e_,cond_true,cj,bH];repeat'(first
  |(show fB _ _ _ (.loop _) _ _;refine bJ ?_)
  |(exact Gn hg)
  |refine oE ?_
  |refine oJ ?_
  |refine oD ?_
  |refine oI ?_
  |refine oF ?_
  |((first|refine oG ax λK hK=> ?_|refine oH ?_);(refine aj ?_;try exact trivial))
  |((first|(refine hK _ ?_;clear hK K)|show bH _ _ _ _|show cj _ _ _ _);simp only[bH,cj,if_true,Nat.reduceEqDiff,reduceIte])
  |(intro hg;first|(exfalso;omega)|(exfalso;contradiction)|skip)
  |apply af
  |(with_reducible rfl)
  |(clear hK;omega)
  |omega)
 refine b_ ?_;refine I1 (GH 0 5 3 1 [.ag f [],i64 (m:Nat), .bool false, .bool false, .bool act,AJ,AJ] rfl rfl) ?_;refine I1 (GH 0 6 79 1 [.ag f [],i64 (m:Nat), .bool false, .bool false, .bool act, .own 0,AJ] rfl rfl) ?_;refine W6 (ι:=Nat) (λj=>[(0, .str t),(2, .box 0 0),(3, .box 1 0),(5,i64 (m:Nat)),(67, .list (ws.map D.str)),(68,i64 (m:Nat)),(69,i64 (j:Nat))]) (λ_=>[.mu [.ag f [],i64 (m:Nat), .bool false, .bool false, .bool act, .own 0, .own 1], .mu [.bool true]]) (λj=>[⟨true,3,1,(ns.take j).map λ(x:Int)=>i64 x⟩,⟨true,79,1,[]⟩])
  (λj=>j<=m) (λj=>m - j) (λ_ _=>⟨rfl,rfl⟩) 0 (bD _) (br rfl (by try refine aj ?_;try simp[hw,xZ]) ⟨_,rfl⟩ ⟨[],rfl⟩) (λj hj=> ?_) (λ_ _=>by rw[hβ];exact aY _)
 by_cases aG:j < m
 ·have c1:=hc j aG;have qc:(ns.take j).length=j:=by rw[mH];omega
  have qd:(ns.take (j + 1)).map (λ(x:Int)=>i64 x)=(ns.take j).map (λ(x:Int)=>i64 x)++[i64 (nth ns j)]:=by
   rw[Fv ae,show ns[j]=nth ns j by simp[nth,show j < ns.length by omega]];simp
  refine aj ?_;repeat'(first
   |(show fB _ _ _ (.region 11 _ true) _ _;refine bJ ?_)
   |refine oE ?_
   |refine oJ ?_
   |refine oD ?_
   |refine oI ?_
   |refine oF ?_
   |((first|refine oG ax λK hK=> ?_|refine oH ?_);(refine aj ?_;try exact trivial))
   |((first|(refine hK _ ?_;clear hK K)|show bH _ _ _ _|show cj _ _ _ _);simp only[bH,cj,if_true,Nat.reduceEqDiff,reduceIte])
   |(intro hg;first|(exfalso;omega)|(exfalso;contradiction)|skip)
   |apply af
   |(with_reducible rfl)
   |(clear hK;omega)
   |omega)
  refine b_ ?_;refine E9 (cR 106 [(0, .str t),(2, .box 0 0),(3, .box 1 0),(5,i64 (m:Nat)),(6,i64 (j:Nat)),(7, .str (nth ws j)),(67, .list (ws.map D.str)),(68,i64 (m:Nat)),(69,i64 (j:Nat))] [.mu [.ag f [],i64 (m:Nat), .bool false, .bool false, .bool act, .own 0, .own 1], .mu [.bool true]] [⟨true,3,1,(ns.take j).map λ(x:Int)=>i64 x⟩,⟨true,79,1,[]⟩]) (br rfl (by simp[put]) ⟨[],rfl⟩ ⟨[],rfl⟩) (ik rfl rfl) (by rw[hβ];exact aY _) ?_;refine adw (by rfl) l1 l2 o8 S0 M0 own β t (nth ws j) f m (nth ns j) j m false false act (ws.map D.str) ((ns.take j).map λ(x:Int)=>i64 x) [] (by simp;omega) c1 _ ?_;simp only[e_,cond_true,cj,bH,<-qd];repeat'(first
   |(fail)
   |refine oE ?_
   |refine oJ ?_
   |refine oD ?_
   |refine oI ?_
   |refine oF ?_
   |((first|refine oG ax λK hK=> ?_|refine oH ?_);(refine aj ?_;try exact trivial))
   |((first|(refine hK _ ?_;clear hK K)|show bH _ _ _ _|show cj _ _ _ _);simp only[bH,cj,if_true,Nat.reduceEqDiff,reduceIte])
   |(intro hg;first|(exfalso;omega)|(exfalso;contradiction)|skip)
   |apply af
   |(with_reducible rfl)
   |(clear hK;omega)
   |omega)
  all_goals first|(exact⟨j + 1,ae,ae,br rfl (by try refine aj ?_;try simp) ⟨[],rfl⟩ ⟨[],rfl⟩⟩)
 ·obtain rfl:j=m:=ae;refine aj ?_;have qc:ns.take j=ns:=xZ ae;rw[qc];repeat'(first
   |(exact Gn hg)
   |refine oE ?_
   |refine oJ ?_
   |refine oD ?_
   |refine oI ?_
   |refine oF ?_
   |((first|refine oG ax λK hK=> ?_|refine oH ?_);(refine aj ?_;try exact trivial))
   |((first|(refine hK _ ?_;clear hK K)|show bH _ _ _ _|show cj _ _ _ _);simp only[bH,cj,if_true,Nat.reduceEqDiff,reduceIte])
   |(intro hg;first|(exfalso;omega)|(exfalso;contradiction)|skip)
   |apply af
   |(with_reducible rfl)
   |(clear hK;omega)
   |omega)
  all_goals first
  |(rw[show aC aa 187=7 from by kernel_rfl];exact aY _)
  |(show a_ _ _;(refine aj ?_;try exact trivial))
end Go.Proofs.YtafmfhkplgapjaaGreatDoor
namespace Go.Proofs.YtafmfhkplgapjaaGreatDoor
set_option maxRecDepth 100000
set_option maxHeartbeats 4000000
open Go.Ab
attribute[local irreducible] av dL dY ak aH cY IA ez aP fM
theorem ahj (rw:List Row)(x:Row):(rw++[x])[rw.length]? =some x:=by simp
theorem abm (rw:List Row)(x y:Row):(rw++[x]).set rw.length y=rw++[y]:=by simp
theorem GF {p q:Prop}(k:q)(h:p=q:=by simp -implicitDefEqProofs only[go_sem,j5,aU,Nat.reduceAdd,Nat.reduceSub,Nat.reduceMul,Nat.reduceLT,Nat.reduceLeDiff,Nat.reduceEqDiff,Nat.reduceBEq,Int.reduceLT,Int.reduceLE,Int.reduceToNat,Int.reduceAdd,Int.reduceSub,Int.reduceMul,Int.reduceNeg,Int.reduceEq,reduceCtorEq,eq_self,ne_eq,not_false_eq_true,if_true,reduceIte,ahj,abm,beq_self_eq_true,hb,a_,List.length_nil,List.nil_append,List.append_nil,Nat.zero_add]<;>rfl):p:=h.symm▸k
theorem aiJ (l:List aS)(hl:l.length<=1000000)(bx:List Bx)(rw:List Row)(hb:bx.map (ij rw.length)=bx):aH aa 120 [.list (l.map dU)] bx rw (λd aB aD=>d= .own rw.length/\aB=bx/\aD=rw++[⟨true,51,3,l.map dU⟩]):=by
 refine cU func120 ntmps120 results120 call120 λW0 S0 M0 own β hβ=> ?_;repeat'(first|(show av _ (.region 1 _ _) _ _;refine oK 1 (uE _ 38 (.tmp 3) (some 4)) (λ_ _ h=>aP.xF h) rfl rfl (λK1 aA=> ?_);(refine GF ?_))|(refine aA _ (xM 51 3 24 (l.map (dU)) (bC rfl) ax ax ax ax rfl aE aE (λx hx=>by obtain⟨y,_,rfl⟩:=eJ.1 hx;rfl) (by rw[List.length_map];omega) ?_);clear aA K1;simp only[aU,Nat.reduceAdd];(refine GF ?_))|(show cC _ _ _ _ _;(refine GF ?_))|refine bh ?_|((first|refine bj λK hK=> ?_|refine bg ?_|show bb _ _ _ _ _);(refine GF ?_))|(intro hg;try exact ai)|exact fin|apply af)
theorem akE {P:Program}{f:FuncId}{ds:List D}{bx:List Bx}{rw:List Row}{K K':D->List Bx->List Row->Prop}(h:aH P f ds bx rw K)
  (hk:∀d aB aD,K d aB aD->∃jc tl k_ tr,aB=jc++tl/\aD=k_++tr/\Names jc.length k_.length d/\a7 jc.length k_.length jc=true/\bx.length<=jc.length/\K' d jc k_):aH P f ds bx rw K':=by
 unfold aH at h⊢;refine⟨h.1,λc st a W g args hP hg hb hr hl bw=>(h.2 c st a W g args hP hg hb hr hl bw).mono ?_⟩;rintro e w' ⟨v,d,s2,a2,g2,h1,h2,h3,h4⟩;obtain⟨jc,tl,k_,tr,e1,e2,hn,iZ,hle,hK⟩:=hk _ _ _ h4;have h5:=h2.le (s':=⟨s2.n,dJ,jc,k_⟩) ⟨rfl,λm=> .inl rfl,⟨tl,e1⟩,⟨tr,e2⟩⟩ ⟨λm=> .undef,qP _ iZ⟩ (by show g.β.length<=jc.length;rw[hg.lβ,hb];exact hle);exact⟨v,d,⟨s2.n,dJ,jc,k_⟩,a2,_,h1,h5,h3.cut hn,hK⟩
def PJ (d0:D)(bx:List Bx)(rw:List Row):D->List Bx->List Row->Prop:=λd aB aD=>d=d0/\(∃tl,aB=bx++tl)/\∃tr,aD=rw++tr
theorem lD {P:Program}{f:FuncId}{ds:List D}{bx cH:List Bx}{rw fF:List Row}{d0:D}(h:aH P f ds bx rw (PJ d0 cH fF))(hn:cq cH.length fF.length d0=true)(hb:a7 cH.length fF.length cH=true)(hl:bx.length<=cH.length):aH P f ds bx rw (aT d0 cH fF):=by
 refine akE h ?_;rintro d aB aD ⟨rfl,⟨tl,rfl⟩,⟨tr,rfl⟩⟩;exact⟨cH,tl,fF,tr,rfl,rfl,t_ _ hn,hb,hl,rfl,rfl,rfl⟩
theorem Kw (s:aJ)(n cap:Nat)(cost day:Int)(cs U:List D)(W R sl:D)(S:List aS)(rw:List Row)(hd:cs.drop (day.toNat * 4)=W::R::sl:: .list (S.map dU)::U)(bf:cs.length=cap * 4)(hn:n<=cap)(dH:n<=100)(vA:0<=day/\day < n)(B:List Bx):
  aH aa 37 [.box 0 0,i64 day] (.mu (ay s n cap cost):: .mp []:: .mu cs::B) rw (aT (.bool (decide ((S.length:Int) < 12))) (.mu (ay s n cap cost):: .mp []:: .mu cs::B) rw):=by
 have xr:cs.drop (0 + day.toNat * 4 + 3)= .list (S.map dU)::U:=by rw[Nat.zero_add,<-FC,hd];rfl
 refine cU func37 ntmps37 results37 call37 λW0 S0 M0 own β hβ=> ?_;repeat'(first|(show cC _ _ _ _ _;(refine sX (@xr) ?_))|refine bh ?_|((first|refine bj λK hK=> ?_|refine bg ?_|show bb _ _ _ _ _);(refine sX (@xr) ?_))|(intro hg;try exact ai)|exact fin|apply af)
 all_goals rfl
theorem Hp (s:aJ)(m sh mp:D)(cost:Int)(ac:D)(hs:s.aL.length<=100)(k:Int)(B:List Bx)(rw:List Row):aH aa 44 [.box 0 0,i64 k] (.mu (uD s m sh mp cost ac)::B) rw (aT (.bool (decide (0<=k/\k<=(s.aL.length:Int) - 1))) (.mu (uD s m sh mp cost ac)::B) rw):=by
 have c1:=Df k 0 ((s.aL.length:Int) - 1);refine cU func44 ntmps44 results44 call44 λW0 S0 M0 own β hβ=> ?_;repeat'(first|(show cC _ _ _ _ _;refine aj ?_)|refine aq ?_|refine au λK hK=> ?_|refine cA (c1) ?_|(intro hg;try exact ai)|exact fin|apply af)
 all_goals rfl
theorem AR (s:aJ)(m sh mp:D)(cost:Int)(ac:D)(hs:0<=s.dy/\s.dy<=100)(k:Int)(B:List Bx)(rw:List Row):aH aa 35 [.box 0 0,i64 k] (.mu (uD s m sh mp cost ac)::B) rw (aT (.bool (decide (0<=k/\k<=s.dy - 1))) (.mu (uD s m sh mp cost ac)::B) rw):=by
 have c1:=Df k 0 (s.dy - 1);refine cU func35 ntmps35 results35 call35 λW0 S0 M0 own β hβ=> ?_;repeat'(first|(show cC _ _ _ _ _;refine aj ?_)|refine aq ?_|refine au λK hK=> ?_|refine cA (c1) ?_|(intro hg;try exact ai)|exact fin|apply af)
 all_goals rfl
end Go.Proofs.YtafmfhkplgapjaaGreatDoor
