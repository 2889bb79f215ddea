import Derived.Test.YtopobgihpdaggaaGreatDoorZ05
set_option linter.unusedVariables false
set_option linter.unusedSimpArgs false
open Array renaming any_eq_true'->xZ,getElem?_eq_some_iff->bJ,replicate->kq
open Bool renaming and_eq_true->dZ,false_eq_true->cJ,or_eq_true->oC
open List renaming all_eq_true->ic,contains_iff_mem->agV,getElem?_append_left->cZ,getElem?_eq_getElem->cX,getElem?_eq_none->qd,getElem?_eq_some_iff->bm,getElem?_map->dO,getElem?_set_ne->gz,getElem?_set_self->je,mem_cons->eX,mem_cons_of_mem->fE,mem_cons_self->ey,mem_range->ld,range->dB,set_append_left->agS
open Nat renaming lt_or_ge->fL
open Option renaming isSome_iff_exists->tV,map_eq_some_iff->cS
open Go.Region renaming binds->eF,lexB->Cg,lexFrom->vq,ready->kO
namespace Go.Ab
open Go.RowKit
section
variable {P:Program}
def ef (P:Program)(ops:List Oper)(o:Oper)(sl:Nat->D)(bx:List Bx)(rw:List Row)(k:List Bx×D->Prop):Prop:=match kindOf o.op with
 | .A=>iY P ops o sl bx rw λd=>k (bx,d)
 | .B=>iY P ops o sl bx rw λd=>k (bx,d)
 | .L=>BO o/\jo P o.op (cL sl) bx k
 | .W=>BO o/\jo P o.op (cL sl) bx k
 | .X=>False
theorem nt {ops:List Oper}{o:Oper}{sl:Nat->D}{bx:List Bx}{rw:List Row}(h:kindOf o.op= .A\/kindOf o.op= .B):ef P ops o sl bx rw=λk=>iY P ops o sl bx rw λd=>k (bx,d):=by
 funext k;unfold ef;rcases h with h|h<;>rw[h]
theorem h_ {ops:List Oper}{o:Oper}{sl:Nat->D}{bx:List Bx}{rw:List Row}(h:kindOf o.op= .L\/kindOf o.op= .W):ef P ops o sl bx rw=λk=>BO o/\jo P o.op (cL sl) bx k:=by
 funext k;unfold ef;rcases h with h|h<;>rw[h]
theorem sg (ops:List Oper)(o:Oper)(sl:Nat->D)(bx:List Bx)(rw:List Row):CP (ef P ops o sl bx rw):=by
 cases h:kindOf o.op with
 |A=>rw[nt (.inl h)];exact(jS _ _ _ _ _).bind (U:=λd k=>k (bx,d)) λd=> .ret _
 |B=>rw[nt (.inr h)];exact(jS _ _ _ _ _).bind (U:=λd k=>k (bx,d)) λd=> .ret _
 |L=>rw[h_ (.inl h)];exact .and _ (sd _ _ _)
 |W=>rw[h_ (.inr h)];exact .and _ (sd _ _ _)
 |X=>
  have:ef P ops o sl bx rw=λ_=>False:=by funext k;unfold ef;rw[h]
  rw[this];exact .no
theorem r9 {ops:List Oper}{o:Oper}{s:St}{K:St->Prop}(hx:kindOf o.op≠ .X)(hg:kindOf o.op= .L\/kindOf o.op= .W->o.guard=none):
  de P ops o s K↔bp s o.dst/\ef P ops o s.sl s.bx s.rw λr=>K (St.put ⟨s.n,s.sl,r.1,s.rw⟩ o.dst r.2):=by
 cases h:kindOf o.op with
 |A=>rw[nt (.inl h)];exact mq (.inl h)
 |B=>rw[nt (.inr h)];exact mq (.inr h)
 |L=>rw[h_ (.inl h)];exact pO (.inl h) (hg (.inl h))
 |W=>rw[h_ (.inr h)];exact pO (.inr h) (hg (.inr h))
 |X=>exact absurd h hx
theorem Rd {ops:Array Oper}{o:Oper}{s:St}{dst:Option Tmp}{d:D}{bx:List Bx}{rw:List Row}{k:List Bx×D->Prop}(h:∀t,dst=some t->t∉o.looksAt ops):
  ef P ops.toList o (St.put s dst d).sl bx rw k↔ef P ops.toList o s.sl bx rw k:=by
 cases hk:kindOf o.op with
 |A=>rw[nt (.inl hk),nt (.inl hk)];exact za h
 |B=>rw[nt (.inr hk),nt (.inr hk)];exact za h
 |L=>rw[h_ (.inl hk),h_ (.inl hk)];exact and_congr Iff.rfl ⟨zl (tG h),zl λx hx=>(tG h x hx).symm⟩
 |W=>rw[h_ (.inr hk),h_ (.inr hk)];exact and_congr Iff.rfl ⟨zl (tG h),zl λx hx=>(tG h x hx).symm⟩
 |X=>unfold ef;rw[hk]
theorem N7 {n:Nat}{sl:Nat->D}{bx:List Bx}{rw:List Row}{x:Option Tmp}{v:D}:(St.put ⟨n,sl,bx,rw⟩ x v).bx=bx:=by cases x<;>rfl
theorem N4 {n:Nat}{sl:Nat->D}{bx:List Bx}{rw:List Row}{x:Option Tmp}{v:D}:(St.put ⟨n,sl,bx,rw⟩ x v).rw=rw:=by cases x<;>rfl
theorem YE {n:Nat}{sl:Nat->D}{bx aF:List Bx}{rw:List Row}{x:Option Tmp}{v:D}:(⟨(St.put ⟨n,sl,bx,rw⟩ x v).n,(St.put ⟨n,sl,bx,rw⟩ x v).sl,aF,(St.put ⟨n,sl,bx,rw⟩ x v).rw⟩:St)=St.put ⟨n,sl,aF,rw⟩ x v:=by cases x<;>rfl
theorem YD {n:Nat}{sl:Nat->D}{bx aF:List Bx}{rw:List Row}{x:Option Tmp}{v:D}:(⟨(St.put ⟨n,sl,bx,rw⟩ x v).n,(St.put ⟨n,sl,bx,rw⟩ x v).sl,aF,rw⟩:St)=St.put ⟨n,sl,aF,rw⟩ x v:=by cases x<;>rfl
theorem Ri {s:St}{n:Nat}{sl:Nat->D}{bx:List Bx}{rw:List Row}{x y:Option Tmp}{v:D}(hn:n=s.n):bp (St.put ⟨n,sl,bx,rw⟩ x v) y↔bp s y:=by
 subst hn;cases x<;>exact Iff.rfl
theorem Nl {ops:Array Oper}{oi oj:Oper}{s:St}{K D0:St->Prop}(iX:oi.apart ops oj=true)(PG:kindOf oi.op≠ .X)(PF:kindOf oj.op≠ .X)
  (nc:kindOf oi.op= .L\/kindOf oi.op= .W->oi.guard=none)(qT:kindOf oj.op= .L\/kindOf oj.op= .W->oj.guard=none)
  (comm:∀eH d my e,D0 (St.put ⟨s.n,s.sl,eH,s.rw⟩ oi.dst d)->ef P ops.toList oi s.sl s.bx s.rw (λr=>r=(eH,d))->ef P ops.toList oj s.sl eH s.rw (λr=>r=(my,e))->
   ∃pc,ef P ops.toList oj s.sl s.bx s.rw (λr=>r=(pc,e))/\ef P ops.toList oi s.sl pc s.rw (λr=>r=(my,d))):
  de P ops.toList oi s (λs1=>de P ops.toList oj s1 K/\D0 s1)->de P ops.toList oj s (λs1=>de P ops.toList oi s1 K):=by
 obtain⟨h1,h2,h3⟩:=Oper.apart_spec iX;intro h;obtain⟨hd,h⟩:=(r9 PG nc).1 h;obtain⟨⟨eH,d⟩,hi,h,hD⟩:=(sg _ _ _ _ _).ex h;obtain⟨ed,h⟩:=(r9 PF qT).1 h;obtain⟨⟨my,e⟩,hj,hK⟩:=(sg _ _ _ _ _).ex h;simp only[N7,N4]at hj;have hj:=(Rd (s:=⟨s.n,s.sl,eH,s.rw⟩) h1).1 hj;obtain⟨pc,c1,c2⟩:=comm eH d my e hD hi hj;refine(r9 PF qT).2 ⟨(Ri rfl).1 ed,(sg _ _ _ _ _).mono (λr hr=> ?_) c1⟩;subst hr;refine(r9 PG nc).2 ⟨(Ri rfl).2 hd, ?_⟩;simp only[N7,N4];refine(Rd (s:=⟨s.n,s.sl,pc,s.rw⟩) h3).2 ((sg _ _ _ _ _).mono (λr hr=> ?_) c2);subst hr;simp only[YE,YD]at hK⊢;rw[<-yn h2];exact hK
def nx:Op->Option Tmp
 | .load _ (.tmp p)=>some p
 | .store _ (.tmp q) _=>some q
 |_=>none
def B4 (o:Oper):Option Tmp:=match o.op with| .alloc _=>o.dst|_=>none
def mv:D->D->Prop
 | .box i _, .box j _=>i≠j
 |_,_=>True
def rl (ops:Array Oper):Bool:=(dB ops.size).all λi=>match ops[i]? with
 |some o=>(match nx o.op with
   |some m=>o.dst !=some m&&(dB ops.size).all λk=>match ops[k]? with|some ok=>ok.dst !=some m||o.after.any (λe=>eF .any e&&e.on == k)|none=>true
   |none=>true)&&
  (match B4 o with
   |some m=>(dB ops.size).all λk=>k == i||match ops[k]? with|some ok=>ok.dst !=some m|none=>true
   |none=>true)
 |none=>true
theorem x_ {ops:Array Oper}(h:rl ops=true){i:Nat}{o:Oper}{m:Tmp}(ho:ops[i]? =some o)(hm:nx o.op=some m):
  o.dst≠some m/\∀(k:Nat) (ok:Oper),ops[k]? =some ok->ok.dst=some m->∃e∈o.after,eF .any e=true/\e.on=k:=by
 have hi:=(bJ.1 ho).1;have h1:=ic.1 h i (ld.2 hi);simp only[ho,hm,dZ,bne_iff_ne,ne_eq,ic,ld]at h1;refine⟨h1.1.1,λk ok hk hd=> ?_⟩;have h2:=h1.1.2 k (bJ.1 hk).1;simp only[hk,hd,oC,bne_self_eq_false,cJ,false_or,xZ,dZ,beq_iff_eq]at h2;exact h2
theorem Jg {ops:Array Oper}(h:rl ops=true){i:Nat}{o:Oper}{m:Tmp}(ho:ops[i]? =some o)(hm:B4 o=some m):
  ∀(k:Nat) (ok:Oper),ops[k]? =some ok->ok.dst=some m->k=i:=by
 have hi:=(bJ.1 ho).1;have h1:=ic.1 h i (ld.2 hi);simp only[ho,hm,dZ,ic,ld]at h1;intro k ok hk hd;have h2:=h1.2 k (bJ.1 hk).1;simpa[hk,hd]using h2
def Ea (ps:List (Tmp×Tmp))(oi oj:Oper):Bool:=match oi.op,oj.op with
 | .load _ (.tmp p), .store _ (.tmp q) _=>ps.contains (p,q)
 | .store _ (.tmp q) _, .load _ (.tmp p)=>ps.contains (p,q)
 | .store _ (.tmp q) _, .store _ (.tmp p) _=>ps.contains (p,q)
 | .alloc _, .load _ (.tmp p)=>match oi.dst with|some a=>ps.contains (p,a)|none=>false
 | .alloc _, .store _ (.tmp p) _=>match oi.dst with|some a=>ps.contains (p,a)|none=>false
 | .store .., .alloc _=>true
 | .store .., .call ⟨.value _,_,_⟩=>true
 | .call ⟨.value _,_,_⟩, .store .. =>true
 | .alloc _, .call ⟨.value _,_,_⟩=>true
 | .store .., .buildSlice .. =>true
 | .buildSlice .., .store .. =>true
 | .alloc _, .buildSlice .. =>true
 |_,_=>false
def qZ (ps:List (Tmp×Tmp))(oi oj:Oper):Bool:=sS (kindOf oi.op) (kindOf oj.op)||Ea ps oi oj
def DC (ps:List (Tmp×Tmp))(oi oj:Oper)(s1:St):Prop:=∀x y,(x,y)∈ps->(nx oi.op=some x\/nx oj.op=some x)->(nx oi.op=some y\/nx oj.op=some y\/B4 oi=some y)->mv (s1.sl x) (s1.sl y)
def lR (bx aF:List Bx):Prop:=∀(i:Nat) (cs:List D),bx[i]? =some (Bx.fz cs)↔aF[i]? =some (Bx.fz cs)
theorem FP {bx aF:List Bx}(h:lR bx aF)(rw:List Row)(d:D):nO bx rw d=nO aF rw d:=by
 have key:∀{α:Type} (i:Nat) (f:List D->Option α),(match bx[i]? with|some (.fz cs)=>f cs|_=>none)=(match aF[i]? with|some (.fz cs)=>f cs|_=>none):=λi f=>by
  cases hb:bx[i]? with
  |none=>
   cases bT:aF[i]? with
   |none=>rfl
   |some b'=>cases b' with
    |fz cs=>have:=(h i cs).2 bT;rw[hb]at this;cases this
    |_=>rfl
  |some b=>cases b with
   |fz cs=>rw[(h i cs).1 hb]
   |dead=>
    cases bT:aF[i]? with
    |none=>rfl
    |some b'=>cases b' with
     |fz cs=>have:=(h i cs).2 bT;rw[hb]at this;cases this
     |_=>rfl
   |mp _=>
    cases bT:aF[i]? with
    |none=>rfl
    |some b'=>cases b' with
     |fz cs=>have:=(h i cs).2 bT;rw[hb]at this;cases this
     |_=>rfl
   |mu _=>
    cases bT:aF[i]? with
    |none=>rfl
    |some b'=>cases b' with
     |fz cs=>have:=(h i cs).2 bT;rw[hb]at this;cases this
     |_=>rfl
 cases d<;>first|rfl|exact key _ _
theorem FW {bx aF:List Bx}(h:lR bx aF)(rw:List Row):∀ds,mQ bx rw ds=mQ aF rw ds
 |[]=>rfl
 |d::ds=>by simp only[mQ,FP h,FW h rw ds]
theorem YM {bx aF:List Bx}(h:lR bx aF)(rw:List Row)(d:D):oI bx rw d=oI aF rw d:=by
 unfold oI;split
 ·rw[FW h]
 ·exact FP h rw _
theorem Od {bx aF:List Bx}(h:lR bx aF)(rw:List Row):∀ds,nP bx rw ds=nP aF rw ds
 |[]=>rfl
 |d::ds=>by simp only[nP,YM h,Od h rw ds]
theorem Og {bx aF:List Bx}(h:lR bx aF)(rw:List Row)(d:D):mS bx rw d=mS aF rw d:=by
 unfold mS;split
 ·rw[Od h]
 ·rw[FW h]
 ·exact FP h rw _
theorem FT {bx aF:List Bx}(h:lR bx aF)(rw:List Row):∀ds,iU bx rw ds=iU aF rw ds
 |[]=>rfl
 |d::ds=>by simp only[iU,Og h,FT h rw ds]
theorem YP {bx aF:List Bx}(h:lR bx aF)(rw:List Row)(d:D):mR bx rw d=mR aF rw d:=by
 unfold mR;split
 ·rw[FT h]
 ·rw[FT h]
 ·rfl
 ·exact Og h rw _
theorem FX {bx aF:List Bx}(h:lR bx aF)(rw:List Row):∀ds,gJ bx rw ds=gJ aF rw ds
 |[]=>rfl
 |d::ds=>by simp only[gJ,YP h,FX h rw ds]
theorem lR.symm {bx aF:List Bx}(h:lR bx aF):lR aF bx:=λi cs=>(h i cs).symm
theorem Xe {bx:List Bx}{j:Nat}{cs dp:List D}(h:bx[j]? =some (.mu cs)):lR bx (bx.set j (.mu dp)):=by
 have hj:=(bm.1 h).1;intro i ds;by_cases u3:j=i
 ·subst u3;rw[h,je hj];simp
 ·rw[gz u3]
theorem NB {bx:List Bx}{cs:List D}:lR bx (bx++[.mu cs]):=by
 intro i ds;rcases fL i bx.length with h|h
 ·rw[cZ h]
 ·rw[List.getElem?_append_right h,qd h];cases hh:i - bx.length with
  |zero=>simp
  |succ n=>simp
theorem QD {ops:List Oper}{o:Oper}{sl:Nat->D}{bx aF:List Bx}{rw:List Row}{k:D->Prop}(h:∀k,ez P o.op (cL sl) bx rw k->ez P o.op (cL sl) aF rw k)(hh:iY P ops o sl bx rw k):iY P ops o sl aF rw k:=by
 unfold iY at hh⊢;cases hg:o.guard with
 |none=>rw[hg]at hh;exact h _ hh
 |some jw=>
  obtain⟨j,want⟩:=jw;rw[hg]at hh;simp only at hh⊢;cases gM:iD ops j with
  |none=>rw[gM]at hh;exact hh
  |some t=>
   rw[gM]at hh;simp only[bn]at hh⊢;cases bD:sl t<;>rw[bD]at hh<;>simp only[wG]at hh⊢
   case skp=>exact hh
   rename_i b0;cases e_:b0 == want<;>rw[e_]at hh<;>simp only at hh⊢
   ·exact hh
   ·exact h _ hh
theorem Ge {t:TypeId}{p:Tmp}{sl:Nat->D}{bx aF:List Bx}{rw:List Row}(h:∀i off,sl p= .box i off->bx[i]? =aF[i]?):∀k,ez P (.load t (.tmp p)) (cL sl) bx rw k->ez P (.load t (.tmp p)) (cL sl) aF rw k:=by
 intro k hh;have hh:jW P bx t (sl p) k:=hh;show jW P aF t (sl p) k;cases hs:sl p<;>rw[hs]at hh<;>first|exact hh|skip
 rename_i i off;have:=h i off hs;simp only[jW,lO]at hh⊢;rw[<-this];exact hh
theorem Ia {f:Operand}{xs:Array Operand}{at_:Array TypeId}{sl:Nat->D}{bx aF:List Bx}{rw:List Row}(h:lR bx aF):∀k,ez P (.call ⟨.value f,xs,at_⟩) (cL sl) bx rw k->ez P (.call ⟨.value f,xs,at_⟩) (cL sl) aF rw k:=by
 intro k hh;have e:(λf fs cs=>bn (gJ bx rw (fs++xs.toList.map (cL sl)++cs)) λds=>dI P f ds k)=λf fs cs=>bn (gJ aF rw (fs++xs.toList.map (cL sl)++cs)) λds=>dI P f ds k:=by
  funext f fs cs;rw[FX h]
 have hh:lN (cL sl f) (λf fs cs=>bn (gJ bx rw (fs++xs.toList.map (cL sl)++cs)) λds=>dI P f ds k):=hh;rw[e]at hh;exact hh
theorem FB {t:TypeId}{n:Nat}{q:Array (Nat×Operand)}{sl:Nat->D}{bx aF:List Bx}{rw:List Row}(h:lR bx aF):∀k,ez P (.buildSlice t n q) (cL sl) bx rw k->ez P (.buildSlice t n q) (cL sl) aF rw k:=by
 intro k hh;simp only[ez]at hh⊢;rw[<-FX h];exact hh
theorem yf {t:TypeId}{q:Tmp}{y:Operand}{sl:Nat->D}{bx eH:List Bx}{d:D}(h:jo P (.store t (.tmp q) y) (cL sl) bx (λr=>r=(eH,d))):
  ∃i off cs,sl q= .box i off/\bx[i]? =some (.mu cs)/\d= .undef/\eH=bx.set i (.mu (cs.take off++(cL sl y).cells++cs.drop (off + (cL sl y).cells.length)))/\
   (aJ P t≠0/\(cL sl y).cells.length=aJ P t/\(cL sl y).cells.all D.one=true/\off + (cL sl y).cells.length<=cs.length):=by
 have h:(match sl q with
  | .box i off=>match bx[i]? with
   |some (.mu cs)=>aJ P t≠0/\(cL sl y).cells.length=aJ P t/\(cL sl y).cells.all D.one=true/\off + (cL sl y).cells.length<=cs.length/\
     (bx.set i (.mu (cs.take off++(cL sl y).cells++cs.drop (off + (cL sl y).cells.length))),D.undef)=(eH,d)
   |_=>False
  |_=>False):=h
 split at h
 ·rename_i i off hs;split at h
  ·rename_i cs hc;obtain⟨h1,h2,h3,h4,h5⟩:=h;cases h5;exact⟨i,off,cs,hs,hc,rfl,rfl,h1,h2,h3,h4⟩
  ·exact h.elim
 ·exact h.elim
theorem CM {t:TypeId}{q:Tmp}{y:Operand}{sl:Nat->D}{bx:List Bx}{i off:Nat}{cs:List D}(hs:sl q= .box i off)(hb:bx[i]? =some (.mu cs))
  (h:aJ P t≠0/\(cL sl y).cells.length=aJ P t/\(cL sl y).cells.all D.one=true/\off + (cL sl y).cells.length<=cs.length):
  jo P (.store t (.tmp q) y) (cL sl) bx (λr=>r=(bx.set i (.mu (cs.take off++(cL sl y).cells++cs.drop (off + (cL sl y).cells.length))), .undef)):=by
 show(match sl q with
  | .box i off=>match bx[i]? with
   |some (.mu cs)=>aJ P t≠0/\(cL sl y).cells.length=aJ P t/\(cL sl y).cells.all D.one=true/\off + (cL sl y).cells.length<=cs.length/\_
   |_=>False
  |_=>False)
 rw[hs];simp only[hb];exact⟨h.1,h.2.1,h.2.2.1,h.2.2.2,trivial⟩
theorem CN {t:TypeId}{x y:Operand}{sl:Nat->D}{bx eH:List Bx}{d:D}(h:jo P (.store t x y) (cL sl) bx (λr=>r=(eH,d))):lR bx eH:=by
 have h:(match cL sl x with
  | .box i off=>match bx[i]? with
   |some (.mu cs)=>aJ P t≠0/\(cL sl y).cells.length=aJ P t/\(cL sl y).cells.all D.one=true/\off + (cL sl y).cells.length<=cs.length/\
     (bx.set i (.mu (cs.take off++(cL sl y).cells++cs.drop (off + (cL sl y).cells.length))),D.undef)=(eH,d)
   |_=>False
  |_=>False):=h
 split at h
 ·split at h
  ·rename_i cs hc;cases h.2.2.2.2;exact Xe hc
  ·exact h.elim
 ·exact h.elim
theorem B2 {t:TypeId}{sl:Nat->D}{bx eH:List Bx}{d:D}(h:jo P (.alloc t) (cL sl) bx (λr=>r=(eH,d))):∃zs,bX P t=some zs/\eH=bx++[.mu zs]/\d= .box bx.length 0:=by
 obtain⟨zs,hz,h⟩:=cE h;cases h;exact⟨zs,hz,rfl,rfl⟩
theorem Su {t:TypeId}{sl:Nat->D}{bx:List Bx}{zs:List D}(h:bX P t=some zs):jo P (.alloc t) (cL sl) bx (λr=>r=(bx++[.mu zs], .box bx.length 0)):=by
 show bn (bX P t) _;rw[h];rfl
theorem VE {ops:List Oper}{oi oj:Oper}{sl:Nat->D}{bx eH my:List Bx}{rw:List Row}{d e:D}(vi:kindOf oi.op= .A\/kindOf oi.op= .B)(hi:ef P ops oi sl bx rw (λr=>r=(eH,d)))(hj:ef P ops oj sl eH rw (λr=>r=(my,e)))
  (hb:∀k,ez P oi.op (cL sl) bx rw k->ez P oi.op (cL sl) my rw k):∃pc,ef P ops oj sl bx rw (λr=>r=(pc,e))/\ef P ops oi sl pc rw (λr=>r=(my,d)):=by
 rw[nt vi]at hi;obtain⟨d',hv,he⟩:=(jS _ _ _ _ _).ex hi;cases he;refine⟨my,hj, ?_⟩;rw[nt vi];exact(jS _ _ _ _ _).mono (λx hx=>by rw[hx]) (QD hb hv)
theorem EV {ops:List Oper}{oi oj:Oper}{sl:Nat->D}{bx eH my:List Bx}{rw:List Row}{d e:D}(vj:kindOf oj.op= .A\/kindOf oj.op= .B)(hi:ef P ops oi sl bx rw (λr=>r=(eH,d)))(hj:ef P ops oj sl eH rw (λr=>r=(my,e)))
  (hb:∀k,ez P oj.op (cL sl) eH rw k->ez P oj.op (cL sl) bx rw k):∃pc,ef P ops oj sl bx rw (λr=>r=(pc,e))/\ef P ops oi sl pc rw (λr=>r=(my,d)):=by
 rw[nt vj]at hj;obtain⟨d',hv,he⟩:=(jS _ _ _ _ _).ex hj;cases he;refine⟨bx, ?_,hi⟩;rw[nt vj];exact(jS _ _ _ _ _).mono (λx hx=>by rw[hx]) (QD hb hv)
theorem rA {n:Nat}{sl:Nat->D}{bx:List Bx}{rw:List Row}{x:Option Tmp}{v:D}{m:Tmp}(h:x≠some m):(St.put ⟨n,sl,bx,rw⟩ x v).sl m=sl m:=by
 cases x with
 |none=>rfl
 |some t=>simp only[St.put,Ab.put];rw[if_neg (λe=>h (by rw[e]))]
theorem N3 {n:Nat}{sl:Nat->D}{bx:List Bx}{rw:List Row}{v:D}{m:Tmp}:(St.put ⟨n,sl,bx,rw⟩ (some m) v).sl m=v:=by simp[St.put,Ab.put]
theorem ZW {ops:Array Oper}{o:Oper}{m:Tmp}(h:nx o.op=some m):m∈o.looksAt ops:=by
 obtain⟨dst,op,ty,pos,aft,gd⟩:=o;simp only[Oper.looksAt,List.mem_append,List.mem_filterMap];left;refine⟨.tmp m, ?_,rfl⟩;cases op<;>simp only[nx,reduceCtorEq]at h
 ·rename_i t x;cases x<;>simp only[reduceCtorEq]at h
  cases h;simp[Op.operands]
 ·rename_i t x y;cases x<;>simp only[reduceCtorEq]at h
  cases h;simp[Op.operands]
theorem Rh {ps:List (Tmp×Tmp)}{ops:Array Oper}{oi oj:Oper}{s:St}(h:Ea ps oi oj=true)(iX:oi.apart ops oj=true)(uR:∀m,nx oi.op=some m->oi.dst≠some m):
  ∀eH d my e,DC ps oi oj (St.put ⟨s.n,s.sl,eH,s.rw⟩ oi.dst d)->ef P ops.toList oi s.sl s.bx s.rw (λr=>r=(eH,d))->ef P ops.toList oj s.sl eH s.rw (λr=>r=(my,e))->
   ∃pc,ef P ops.toList oj s.sl s.bx s.rw (λr=>r=(pc,e))/\ef P ops.toList oi s.sl pc s.rw (λr=>r=(my,d)):=by
 obtain⟨h1,h2,h3⟩:=Oper.apart_spec iX;have yY:∀m,nx oj.op=some m->oi.dst≠some m:=λm hm e=>h1 m e (ZW hm);obtain⟨di,op,ty,pos,aft,gd⟩:=oi;obtain⟨dj,op',ty',pos',aoG,gd'⟩:=oj;simp only at uR yY h1 h2 h3;intro eH d my e hD hi hj;unfold Ea at h;simp only at h;split at h
 ·
  rename_i p _ q _;have lz:(p,q)∈ps:=by simpa using h
  have hd:=hD p q lz (.inl rfl) (.inr (.inl rfl));rw[rA (uR p rfl),rA (yY q rfl)]at hd;refine VE (.inr rfl) hi hj (Ge λi off hp=> ?_);have kc:eH=s.bx:=by
   rw[nt (.inr rfl)]at hi;obtain⟨d',_,he⟩:=(jS _ _ _ _ _).ex hi;cases he;rfl
  subst kc;rw[h_ (.inr rfl)]at hj;obtain⟨i',nR,cs,e1,e2,e3,e4,_⟩:=yf hj.2;rw[hp,e1]at hd;rw[e4,gz (λe=>hd e.symm)]
 ·
  rename_i q _ _ p;have lz:(p,q)∈ps:=by simpa using h
  have hd:=hD p q lz (.inr rfl) (.inl rfl);rw[rA (yY p rfl),rA (uR q rfl)]at hd;refine EV (.inr rfl) hi hj (Ge λi off hp=> ?_);rw[h_ (.inr rfl)]at hi;obtain⟨i',nR,cs,e1,e2,e3,e4,_⟩:=yf hi.2;rw[hp,e1]at hd;rw[e4,gz (λe=>hd e.symm)]
 ·
  rename_i q y _ p z;have lz:(p,q)∈ps:=by simpa using h
  have hd:=hD p q lz (.inr rfl) (.inl rfl);rw[rA (yY p rfl),rA (uR q rfl)]at hd;rw[h_ (.inr rfl)]at hi hj;obtain⟨i,off,cs,e1,e2,e3,e4,e5⟩:=yf hi.2;obtain⟨i',nR,dp,f1,f2,f3,f4,f5⟩:=yf hj.2;rw[f1,e1]at hd;subst e3 f3 e4;have hd:i'≠i:=hd;rw[gz (Ne.symm hd)]at f2;refine⟨s.bx.set i' (.mu (dp.take nR++(cL s.sl z).cells++dp.drop (nR + (cL s.sl z).cells.length))), ?_, ?_⟩
  ·rw[h_ (.inr rfl)];exact⟨hj.1,CM f1 f2 f5⟩
  ·rw[h_ (.inr rfl)];refine⟨hi.1, ?_⟩;have:=CM (P:=P) (bx:=s.bx.set i' (.mu (dp.take nR++(cL s.sl z).cells++dp.drop (nR + (cL s.sl z).cells.length)))) e1 (by rw[gz hd];exact e2) e5;rw[f4,List.set_comm _ _ (Ne.symm hd)];exact this
 ·
  rename_i p;cases di with
  |none=>simp at h
  |some a=>
   have lz:(p,a)∈ps:=by simpa using h
   have hd:=hD p a lz (.inr rfl) (.inr (.inr rfl));rw[rA (yY p rfl),N3]at hd;have fk:=hi;rw[h_ (.inl rfl)]at fk;obtain⟨zs,e1,e2,e3⟩:=B2 fk.2;refine EV (.inr rfl) hi hj (Ge λi off hp=> ?_);rw[hp,e3]at hd;have hd:i≠s.bx.length:=hd;rw[e2];rcases fL i s.bx.length with aU|il
   ·rw[cZ aU]
   ·rw[qd il,qd (by simp;omega)]
 ·
  rename_i p z;cases di with
  |none=>simp at h
  |some a=>
   have lz:(p,a)∈ps:=by simpa using h
   have hd:=hD p a lz (.inr rfl) (.inr (.inr rfl));rw[rA (yY p rfl),N3]at hd;rw[h_ (.inl rfl)]at hi;rw[h_ (.inr rfl)]at hj;obtain⟨zs,e1,e2,e3⟩:=B2 hi.2;obtain⟨i',nR,dp,f1,f2,f3,f4,f5⟩:=yf hj.2;rw[f1,e3]at hd;have hd:i'≠s.bx.length:=hd;subst e2 e3 f3;have aU:i' < s.bx.length:=by
    have:=(bm.1 f2).1;simp at this;omega
   rw[cZ aU]at f2;refine⟨s.bx.set i' (.mu (dp.take nR++(cL s.sl z).cells++dp.drop (nR + (cL s.sl z).cells.length))), ?_, ?_⟩
   ·rw[h_ (.inr rfl)];exact⟨hj.1,CM f1 f2 f5⟩
   ·rw[h_ (.inl rfl)];refine⟨hi.1, ?_⟩;have:=Su (P:=P) (sl:=s.sl) (bx:=s.bx.set i' (.mu (dp.take nR++(cL s.sl z).cells++dp.drop (nR + (cL s.sl z).cells.length)))) e1;rw[List.length_set]at this;rw[f4,agS _ _ aU];exact this
 ·
  rename_i x y _;rw[h_ (.inr rfl)]at hi;rw[h_ (.inl rfl)]at hj;obtain⟨zs,e1,e2,e3⟩:=B2 hj.2;cases x with
  |tmp q=>
   obtain⟨i',nR,dp,f1,f2,f3,f4,f5⟩:=yf hi.2;subst e2 e3 f3 f4;have aU:=(bm.1 f2).1;refine⟨s.bx++[.mu zs], ?_, ?_⟩
   ·rw[h_ (.inl rfl)];refine⟨hj.1, ?_⟩;have:=Su (P:=P) (sl:=s.sl) (bx:=s.bx) e1;rw[List.length_set];exact this
   ·rw[h_ (.inr rfl)];refine⟨hi.1, ?_⟩;have:=CM (P:=P) (bx:=s.bx++[.mu zs]) f1 (by rw[cZ aU];exact f2) f5;rw[agS _ _ aU]at this;exact this
  |const v=>
   exfalso;have h9:=hi.2;unfold jo at h9;simp only[cL]at h9;cases v<;>simp[tJ]at h9
  |global g=>exact hi.2.elim
  |func f=>exact hi.2.elim
 ·
  have fk:=hi;rw[h_ (.inr rfl)]at fk;exact EV (.inr rfl) hi hj (Ia (CN fk.2).symm)
 ·
  have kc:eH=s.bx:=by
   rw[nt (.inr rfl)]at hi;obtain⟨d',_,he⟩:=(jS _ _ _ _ _).ex hi;cases he;rfl
  subst kc;have gE:=hj;rw[h_ (.inr rfl)]at gE;exact VE (.inr rfl) hi hj (Ia (CN gE.2))
 ·
  have fk:=hi;rw[h_ (.inl rfl)]at fk;obtain⟨zs,e1,e2,e3⟩:=B2 fk.2;exact EV (.inr rfl) hi hj (Ia (by rw[e2];exact NB.symm))
 ·
  have fk:=hi;rw[h_ (.inr rfl)]at fk;exact EV (.inr rfl) hi hj (FB (CN fk.2).symm)
 ·
  have kc:eH=s.bx:=by
   rw[nt (.inr rfl)]at hi;obtain⟨d',_,he⟩:=(jS _ _ _ _ _).ex hi;cases he;rfl
  subst kc;have gE:=hj;rw[h_ (.inr rfl)]at gE;exact VE (.inr rfl) hi hj (FB (CN gE.2))
 ·
  have fk:=hi;rw[h_ (.inl rfl)]at fk;obtain⟨zs,e1,e2,e3⟩:=B2 fk.2;exact EV (.inr rfl) hi hj (FB (by rw[e2];exact NB.symm))
 ·cases h
theorem So {ops:Array Oper}{K:St->Prop}(hk:oO ops.toList=true):∀(fuel:Nat) (listed:Array Bool) (s:St),kh P ops K fuel listed s->
  ∃sf,K sf/\∀m,(∀(j:Nat) (oj:Oper),ops[j]? =some oj->listed.getD j true=false->oj.dst≠some m)->sf.sl m=s.sl m
 |0,listed,s,h=>⟨s,h.2,λ_ _=>rfl⟩
 |fuel + 1,listed,s,h=>by
  by_cases hr:kO .any ops listed=[]
  ·exact⟨s,h.1 hr,λ_ _=>rfl⟩
  ·obtain⟨i,hi⟩:=List.exists_mem_of_ne_nil _ hr;obtain⟨dU,o,ho,_⟩:=mem_ready.1 hi;have hm:=nU hk ho;obtain⟨_,h2⟩:=(r9 hm.1 hm.2).1 (h.2 i hi o ho);obtain⟨r,_,h3⟩:=(sg _ _ _ _ _).ex h2;obtain⟨sf,hK,hs⟩:=So hk fuel _ _ h3;refine⟨sf,hK,λm Bc=> ?_⟩;rw[hs m (λj oj hj hl=>Bc j oj hj ?_),rA (Bc i o ho dU)];by_cases u3:i=j
   ·subst u3;exact dU
   ·rwa [getD_set_ne true u3]at hl
theorem Iq {ps:List (Tmp×Tmp)}{ops:Array Oper}{K:St->Prop}(hk:oO ops.toList=true)(hw:rl ops=true)(hC:∀s,K s->∀x y,(x,y)∈ps->mv (s.sl x) (s.sl y)){i:Nat}{oi:Oper}(hi:ops[i]? =some oi):
  ∀(fuel:Nat) (listed:Array Bool) (s:St),
   (∀(j:Nat) (oj:Oper),ops[j]? =some oj->j≠i->listed.getD j true=false->(∀e∈oj.after,eF .any e=true->e.on≠i)->oi.apart ops oj=true/\qZ ps oi oj=true)->
   i∈kO .any ops listed->de P ops.toList oi s (λs'=>kh P ops K fuel (listed.setIfInBounds i true) s')->kh P ops K (fuel + 1) listed s:=by
 intro fuel;induction fuel with
 |zero=>
  intro listed s _ hr H;refine⟨λh=>(by rw[h]at hr;cases hr),λj hj oj dF=> ?_⟩;by_cases bd:j=i
  ·subst bd;rw[hi]at dF;cases dF;exact H
  ·have uT:=ready_mono hj bd;have hm:=nU hk hi;exfalso;obtain⟨_,h2⟩:=(r9 hm.1 hm.2).1 H;obtain⟨r,_,h3⟩:=(sg _ _ _ _ _).ex h2;rw[h3.1]at uT;cases uT
 |succ fuel ih=>
  intro listed s u4 hr H;refine⟨λh=>(by rw[h]at hr;cases hr),λj hj oj dF=> ?_⟩;by_cases bd:j=i
  ·subst bd;rw[hi]at dF;cases dF;exact H
  ·obtain⟨u2,OJ,uV,bu⟩:=mem_ready.1 hj;rw[dF]at uV;cases uV
   have qV:∀{a b:Nat} {oa:Oper},a∈kO .any ops listed->ops[a]? =some oa->(∃e∈oa.after,eF .any e=true/\e.on=b)->listed.getD b true=true:=λ{a b oa} ha rR ⟨e,he,hb,G3⟩=>by
    obtain⟨_,OK,uW,BA⟩:=mem_ready.1 ha;rw[rR]at uW;cases uW
    have h1:=BA e he hb;rw[G3]at h1;rcases fL b listed.size with h'|h'
    ·simp[h']at h1⊢;exact h1
    ·simp[Array.getElem?_eq_none h']at h1
   have uX:∀e∈oj.after,eF .any e=true->e.on≠i:=λe he hb heq=>by
    have h1:=qV hj dF ⟨e,he,hb,heq⟩;have h0:=(mem_ready.1 hr).1;rw[h0]at h1;cases h1
   obtain⟨iX,ik⟩:=u4 j oj dF bd u2 uX;have qO:=nU hk hi;have th:=nU hk dF;have h2:de P ops.toList oj s λs1=>de P ops.toList oi s1 λs2=>kh P ops K fuel ((listed.setIfInBounds i true).setIfInBounds j true) s2:=by
    simp only[qZ,oC]at ik;rcases ik with ik|ik
    ·exact swap iX ik qO.2 th.2 (n7 qO.1 qO.2 (λs1 gL=>gL.2 j (ready_mono hj bd) oj dF) H)
    ·refine Nl (D0:=DC ps oi oj) iX qO.1 th.1 qO.2 th.2 (Rh ik iX (λm hm=>(x_ hw hi hm).1)) ?_;refine n7 qO.1 qO.2 (λs1 gL=>⟨gL.2 j (ready_mono hj bd) oj dF,λx y iB hx hy=> ?_⟩) H;obtain⟨sf,hK,hs⟩:=So hk _ _ _ gL;have key:∀m,(nx oi.op=some m\/nx oj.op=some m\/B4 oi=some m)->sf.sl m=s1.sl m:=λm hm=>hs m λk ok tj dU hd=>by
      have tq:i≠k:=λe=>by
       subst e;rcases fL i listed.size with h'|h'
       ·simp[h']at dU
       ·simp[h']at dU
      rw[getD_set_ne true tq]at dU;rcases hm with hm|hm|hm
      ·have:=qV hr hi ((x_ hw hi hm).2 k ok tj hd);rw[this]at dU;cases dU
      ·have:=qV hj dF ((x_ hw dF hm).2 k ok tj hd);rw[this]at dU;cases dU
      ·exact tq (Jg hw hi hm k ok tj hd).symm
     have h9:=hC sf hK x y iB;rw[key x (hx.elim .inl λh=> .inr (.inl h)),key y hy]at h9;exact h9
   have Bp:∀(k:Nat) (ok:Oper),ops[k]? =some ok->k≠i->(listed.setIfInBounds j true).getD k true=false->
     (∀e∈ok.after,eF .any e=true->e.on≠i)->oi.apart ops ok=true/\qZ ps oi ok=true:=λk ok hk Bj dU fR=>by
    refine u4 k ok hk Bj ?_ fR;by_cases lE:j=k
    ·subst lE;exact u2
    ·rw[getD_set_ne true lE]at dU;exact dU
   refine n7 th.1 th.2 (λs1 h3=>ih (listed.setIfInBounds j true) s1 Bp (ready_mono hr (Ne.symm bd)) ?_) h2;rw[Array.setIfInBounds_comm _ _ bd];exact h3
def Za (ps:List (Tmp×Tmp))(o:Oper)(i:Nat)(rest:List Oper):Bool:=rest.all λp=>p.after.any (λe=>eF .any e&&e.on == i)||qZ ps o p
def AF (ps:List (Tmp×Tmp)):Nat->List Oper->Bool
 |_,[]=>true
 |i,o::rest=>Za ps o i rest&&AF ps (i + 1) rest
theorem OE (ps:List (Tmp×Tmp)):∀(l:List Oper) (i:Nat),AF ps i l=true->∀(a b:Nat) (oa ob:Oper),a < b->l[a]? =some oa->l[b]? =some ob->
  (∀e∈ob.after,eF .any e=true->e.on≠i + a)->qZ ps oa ob=true
 |[],i,_,a,b,oa,ob,_,ha,_,_=>by simp at ha
 |o::l,i,h,a,b,oa,ob,Qx,ha,hb,fR=>by
  simp only[AF,dZ]at h;obtain⟨b,rfl⟩:∃b',b=b' + 1:=⟨b - 1,ag⟩;cases a with
  |zero=>
   simp at ha;subst ha
   have hm:ob∈l:=List.mem_of_getElem? (by simpa using hb);have:=ic.1 h.1 ob hm;simp only[oC,xZ,dZ,beq_iff_eq]at this;rcases this with⟨e,he,h1,h2⟩|h
   ·exact absurd h2 (fR e he h1)
   ·exact h
  |succ a=>
   exact OE ps l (i + 1) h.2 a b oa ob ag (by simpa using ha) (by simpa using hb) (λe he bT=>by have:=fR e he bT;omega)
theorem Sq {ps:List (Tmp×Tmp)}{ops:Array Oper}{K:St->Prop}(hk:oO ops.toList=true)(hw:rl ops=true)(hC:∀s,K s->∀x y,(x,y)∈ps->mv (s.sl x) (s.sl y))(hp:AF ps 0 ops.toList=true):
  ∀(l:List Oper) (k:Nat) (listed:Array Bool) (s:St),(∀j,l[j]? =ops[k + j]?)->
  (∀j,j < k->listed.getD j true=true)->vq .any ops l.length k listed=true->cq P ops.toList l s K->kh P ops K l.length listed s
 |[],_,_,_,_,_,hB,h=>⟨by simpa[vq]using hB,h⟩
 |o::l,k,listed,s,hl,aU,hB,h=>by
  have h0:ops[k]? =some o:=by simpa using(hl 0).symm
  simp only[List.length_cons,vq,dZ]at hB;obtain⟨⟨hr,hf⟩,tE⟩:=hB;have hm:=nU hk h0;refine Iq hk hw hC h0 l.length listed s (λj oj hj lE dU fR=>⟨Region.free_spec h0 hf j oj hj lE dU fR, ?_⟩) (by simpa using hr)
   (n7 hm.1 hm.2 (λs' ly=>Sq hk hw hC hp l (k + 1) _ s' (λj=>by have:=hl (j + 1);simpa[Nat.add_assoc,Nat.add_comm 1 j]using this) (λj hj=> ?_) tE ly) (D6 h))
  ·have jE:k < j:=by
    rcases Nat.lt_trichotomy j k with h1|h1|h1
    ·rw[aU j h1]at dU;cases dU
    ·exact absurd h1 lE
    ·exact h1
   exact OE ps ops.toList 0 hp k j o oj jE (by simpa using h0) (by simpa using hj) (by simpa using fR)
  ·by_cases h1:k=j
   ·subst h1;by_cases hs:k < listed.size
    ·simp[hs]
    ·simp[hs]
   ·rw[getD_set_ne true h1];exact aU j ag
def Sep (s:St):List (Tmp×Tmp)->Prop
 |[]=>True
 |(x,y)::l=>mv (s.sl x) (s.sl y)/\Sep s l
theorem Sep.at {s:St}:∀{l:List (Tmp×Tmp)},Sep s l->∀x y,(x,y)∈l->mv (s.sl x) (s.sl y)
 |(x',y')::l,h,x,y,hm=>by
  rcases eX.1 hm with e|hm
  ·cases e;exact h.1
  ·exact h.2.at x y hm
theorem tN {c:Ctx}{id:Nat}{l:List Oper}{Q:Exit->St->Prop}{s:St}(ps:List (Tmp×Tmp))(hm:c.P.follows .mixedOrders=true)(hB:(Cg .any l.toArray&&oO l&&AF ps 0 l&&rl l.toArray)=true)
  (h:∀K:St->Prop,(∀s',Q .normal s'/\Sep s' ps->K s')->cq c.P l l s K):az c (.region id l.toArray true) Q s:=by
 intro a w hr;simp only[dZ,Cg]at hB;obtain⟨⟨⟨⟨_,hl⟩,hk⟩,hp⟩,hw⟩:=hB;refine wpIn_region_any hm (B1 (K:=λs=>Q .normal s/\Sep s ps) (λs a w hr hq=>⟨s,hr,hq.1⟩) _ _ s _ _ (RG.ve hr) ?_);have:=Sq (P:=c.P) (ops:=l.toArray) (ps:=ps) (K:=λs=>Q .normal s/\Sep s ps) (by simpa using hk) hw (λs hs=>hs.2.at) (by simpa using hp) l 0 (kq l.length false) s ay ay (by simpa using hl) (h _ (λ_ h=>h));simpa using this
@[go_sem] theorem an4 {s:St}:Sep s []=True:=rfl
@[go_sem] theorem an5 {n:Nat}{sl:Nat->D}{bx:List Bx}{rw:List Row}{x y:Tmp}{l:List (Tmp×Tmp)}:Sep ⟨n,sl,bx,rw⟩ ((x,y)::l)=(mv (sl x) (sl y)/\Sep ⟨n,sl,bx,rw⟩ l):=rfl
@[go_sem] theorem aoc {i j o o':Nat}:mv (.box i o) (.box j o')=(i≠j):=rfl
@[go_sem] theorem aob {cs:List D}{d:D}:mv (.ro cs) d=True:=by cases d<;>rfl
@[congr] theorem aoC {a a' b b':D}(h:a=a')(h':b=b'):mv a b=mv a' b':=by rw[h,h']
end
def lj (m i:Nat):Nat:=if i=m then m + 1 else if i=m + 1 then m else i
mutual
def gQ (m:Nat):D->D
 | .box i off=> .box (lj m i) off
 | .a_ i off n c=> .a_ (lj m i) off n c
 | .agg cs=> .agg (pA m cs)
 | .aQ cs=> .aQ (pA m cs)
 | .aD f cs=> .aD f (pA m cs)
 | .dq f cs=> .dq f (pA m cs)
 | .undef=> .undef
 | .int k n=> .int k n
 | .bool b=> .bool b
 | .str s=> .str s
 | .list xs=> .list xs
 | .ro cs=> .ro cs
 | .own r=> .own r
 | .val v=> .val v
 | .eN f=> .eN f
 | .skp=> .skp
 | .any=> .any
 | .bz i=> .bz (lj m i)
def pA (m:Nat):List D->List D
 |[]=>[]
 |d::ds=>gQ m d::pA m ds
end
theorem Ag (m:Nat):∀cs:List D,pA m cs=cs.map (gQ m)
 |[]=>by simp[pA]
 |d::ds=>by simp[pA,Ag m ds]
theorem Nn (m i:Nat):lj m (lj m i)=i:=by unfold lj;split<;>(try split)<;>(try split)<;>omega
def swp {α:Type}(m:Nat)(l:List α):List α:=match l[m]?,l[m + 1]? with
 |some x,some y=>(l.set m y).set (m + 1) x
 |_,_=>l
theorem Nk {α:Type}(m:Nat)(l:List α):(swp m l).length=l.length:=by unfold swp;split<;>simp
theorem CJ {α:Type}{m:Nat}{l:List α}(h:m + 1 < l.length)(i:Nat):(swp m l)[i]? =l[lj m i]? :=by
 unfold swp;rw[cX (show m < l.length by omega),cX h];simp only[lj];by_cases h1:i=m
 ·subst h1;rw[if_pos rfl,gz ag,je ag,cX h]
 ·rw[if_neg h1];by_cases h2:i=m + 1
  ·subst h2;rw[if_pos rfl,je (by simpa using h),cX (show m < l.length by omega)]
  ·rw[if_neg h2,gz ag,gz ag]
def sK (m:Nat):Bx->Bx
 | .mu cs=> .mu (pA m cs)
 | .fz cs=> .fz cs
 | .mp es=> .mp (es.map λp=>(gQ m p.1,gQ m p.2))
 | .dead=> .dead
def vP (m:Nat)(sl:Nat->D):Nat->D:=λt=>gQ m (sl t)
def St.sw (m:Nat)(s:St):St:=⟨s.n,vP m s.sl,swp m (s.bx.map (sK m)),s.rw⟩
def Gh.sw (m:Nat)(g:Gh):Gh:=⟨g.S,swp m g.β,g.ρ,g.M⟩
theorem Gh.Fu {m:Nat}{g:Gh}(h:m + 1 < g.β.length){i b:Nat}(hb:g.β[i]? =some b):(g.sw m).β[lj m i]? =some b:=by
 show(swp m g.β)[lj m i]? =some b;rw[CJ h,Nn];exact hb
theorem Rel.sw {w:World}{g:Gh}{v:Value}{d:D}{m:Nat}(h:Rel w g v d):m + 1 < g.β.length->Rel w (g.sw m) v (gQ m d):=by
 have key:∀{cs:List D} {q:Nat} {d:D} {T:D->Prop},(pA m cs)[q]? =some d->(∀d0,cs[q]? =some d0->T (gQ m d0))->T d:=λ{cs q d T} hd hT=>by
  rw[Ag,dO,cS]at hd;obtain⟨d0,h0,rfl⟩:=hd;exact hT d0 h0
 have len:∀{cs:List D},(pA m cs).length=cs.length:=λ{cs}=>by rw[Ag];simp
 induction h with
 |undef g v=>intro _;simp only[gQ];exact .undef _ _
 |int g k n=>intro _;simp only[gQ];exact .int _ _ _
 |bool g b=>intro _;simp only[gQ];exact .bool _ _
 |str g s=>intro _;simp only[gQ];exact .str _ _
 |val g v=>intro _;simp only[gQ];exact .val _ _
 |list g A n c xs sz u hn bo fA hm hr ih=>intro _;simp only[gQ];exact .list _ A n c xs sz u hn bo fA hm hr
 |agg g vs cs hl h1 hr ih=>intro hm;simp only[gQ];exact .agg _ vs _ (hl.trans len.symm) (λq hq=>h1 q (by rw[len]at hq;exact hq)) (λq d hd=>key (T:=λd=>Rel w _ (vs.getD q Go.undef) d) hd λd0 h0=>ih q d0 h0 hm)
 |aQ g vs cs hl hr ih=>intro hm;simp only[gQ];exact .aQ _ vs _ (hl.trans len.symm) (λq d hd=>key (T:=λd=>Rel w _ (vs.getD q Go.undef) d) hd λd0 h0=>ih q d0 h0 hm)
 |box g i off b hb=>intro hm;simp only[gQ];exact .box _ _ off b (Gh.Fu hm hb)
 |ro g a cs u hm hr ih=>intro _;simp only[gQ];exact .ro _ a cs u hm hr
 |own g r v h=>intro _;simp only[gQ];exact .own _ r v h
 |aD g f vs cs hl hr ih=>intro hm;simp only[gQ];exact .aD _ f vs _ (hl.trans len.symm) (λq d hd=>key (T:=λd=>Rel w _ (vs.getD q Go.undef) d) hd λd0 h0=>ih q d0 h0 hm)
 |eN g b f h=>intro _;simp only[gQ];exact .eN _ b f h
 |skp g=>intro _;simp only[gQ];exact .skp _
 |any g v h1=>intro _;simp only[gQ];exact .any _ v h1
 |bz g i b hb=>intro hm;simp only[gQ];exact .bz _ _ b (Gh.Fu hm hb)
 |dq g f vs cs hl hr ih=>intro hm;simp only[gQ];exact .dq _ f vs _ (hl.trans len.symm) (λq d hd=>key (T:=λd=>Rel w _ (vs.getD q Go.undef) d) hd λd0 h0=>ih q d0 h0 hm)
 |a_ g i off n c b hb=>intro hm;simp only[gQ];exact .a_ _ _ off n c b (Gh.Fu hm hb)
theorem CK {m:Nat}{s:St}(h:m + 1 < s.bx.length){i:Nat}{x:Bx}(hx:(s.sw m).bx[i]? =some x):∃x0,s.bx[lj m i]? =some x0/\x=sK m x0:=by
 have:(swp m (s.bx.map (sK m)))[i]? =some x:=hx;rw[CJ (by simpa using h),dO,cS]at this;obtain⟨x0,h0,rfl⟩:=this;exact⟨x0,h0,rfl⟩
theorem RG.sw {c:Ctx}{s:St}{a:Act}{w:World}{g:Gh}(h:RG c s a w g){m:Nat}(hm:m + 1 < s.bx.length)(h0:c.β0.length<=m):RG c (s.sw m) a w (g.sw m):=by
 have wD:m + 1 < g.β.length:=by rw[h.lβ];exact hm
 have Cy:∀{i b:Nat},g.β[lj m i]? =some b->(g.sw m).β[i]? =some b:=λ{i b} hb=>by
  show(swp m g.β)[i]? =some b;rw[CJ wD];exact hb
 have Tv:∀{i b:Nat},(g.sw m).β[i]? =some b->g.β[lj m i]? =some b:=λ{i b} hb=>by
  have:(swp m g.β)[i]? =some b:=hb;rw[CJ wD]at this;exact this
 refine⟨h.df.gh rfl (λi b hc hb=> ?_),h.sz,h.below,h.cY,h.bt,h.eD,h.S0,h.fU, ?_,h.lρ,λn=>(h.sl n).sw wD, ?_, ?_, ?_, ?_,λi es hi=>by
  obtain⟨x0,gp,e⟩:=CK hm hi;cases x0<;>simp only[sK,reduceCtorEq,Bx.mp.injEq]at e
  subst e;obtain⟨b,pK⟩:=h.mp _ _ gp;obtain⟨ms,cl,h1,h2,h3⟩:=pK.ex;refine⟨b,Cy pK.β,⟨ms,cl,h1,by rw[h2];simp,λq p mm hp hq=> ?_⟩,pK.nm,pK.own,pK.i_⟩;rw[dO,cS]at hp;obtain⟨p0,jO,rfl⟩:=hp;have h4:=h3 q p0 mm jO hq;exact⟨h4.1.sw (g:=g.mg) wD,h4.2.sw (g:=g.mg) wD⟩⟩
 ·have hi:=(bm.1 hc).1;refine Cy ?_;have:lj m i=i:=by unfold lj;rw[if_neg ag,if_neg ag]
  rw[this];exact hb
 ·show(swp m g.β).length=(swp m (s.bx.map (sK m))).length;rw[Nk,Nk,h.lβ];simp
 ·intro i cs hi;obtain⟨x0,gp,e⟩:=CK hm hi;cases x0<;>simp only[sK,reduceCtorEq,Bx.mu.injEq]at e
  subst e;obtain⟨b,vs,t,e1,e2,e3,e4,e5,e6⟩:=(h.bx _ _ gp).ex;refine⟨b,vs,t,Cy e1,e2,⟨?_,λq d hd=> ?_⟩,e4,e5,λe=>by cases e⟩
  ·rw[e3.1,Ag];simp
  ·rw[Ag,dO,cS]at hd;obtain⟨d0,h0,rfl⟩:=hd;exact⟨(e3.2 q d0 h0).1.sw wD,(e3.2 q d0 h0).2⟩
 ·intro i cs hi;obtain⟨x0,gp,e⟩:=CK hm hi;cases x0<;>simp only[sK,reduceCtorEq,Bx.fz.injEq]at e
  subst e;obtain⟨b,vs,t,e1,e2,e3,e4,e5,e6⟩:=(h.fz _ _ gp).ex;exact⟨b,vs,t,Cy e1,e2,e3,e4,e5,e6⟩
 ·intro r row hi;obtain⟨v,e1,e2,e3⟩:=(h.rw r row hi).ex;have:=e2.sw wD;simp only[gQ]at this;exact⟨v,e1,this,e3⟩
 ·obtain⟨κ,k1,k2⟩:=h.ap;refine⟨λb=>(match κ b with| .inl i=> .inl (lj m i)| .inr r=> .inr r),λi x b hi hx hb=> ?_,λr row v gb hi hl hv ho=> ?_⟩
  ·obtain⟨x0,gp,e⟩:=CK hm hi;have hl:x0.live=true:=by subst e;cases x0<;>first|exact hx|rfl
   have:=k1 _ _ _ gp hl (Tv hb);simp only[this,Nn]
  ·have:=k2 r row v gb hi hl hv ho;simp only[this]
def tR (f g:Nat->D):Prop:=∀m,g m= .undef\/f m=g m
def ra (s s':St):Prop:=s.n=s'.n/\tR s.sl s'.sl/\s.bx=s'.bx/\s.rw=s'.rw
theorem FA {f:Nat->D}:tR f eC:=λ_=> .inl rfl
theorem Fz {f g:Nat->D}{n:Nat}{v:D}(h:f n=v)(hg:tR f g):tR f (Ab.put g n v):=λm=>by
 simp only[Ab.put];by_cases hm:m=n
 ·rw[if_pos hm,hm];exact .inr h
 ·rw[if_neg hm];exact hg m
theorem WZ {f:Nat->D}:tR f f:=λ_=> .inr rfl
theorem FC {n n':Nat}{sl vQ:Nat->D}{bx aF:List Bx}{rw aL:List Row}(h1:n=n')(h2:tR sl vQ)(h3:bx=aF)(h4:rw=aL):ra ⟨n,sl,bx,rw⟩ ⟨n',vQ,aF,aL⟩:=⟨h1,h2,h3,h4⟩
theorem R.sle {c:Ctx}{s s':St}{a:Act}{w:World}(h:R c s a w)(hl:ra s s'):R c s' a w:=by
 obtain⟨g,h⟩:=h;obtain⟨n,sl,bx,rw⟩:=s;obtain⟨n',vQ,aF,aL⟩:=s';obtain⟨h1,h2,h3,h4⟩:=hl;simp only at h1 h2 h3 h4;subst h1;subst h3;subst h4
 refine⟨g,⟨h.df,h.sz,h.below,h.cY,h.bt,h.eD,h.S0,h.fU,h.lβ,h.lρ,λm=> ?_,h.bx,h.fz,h.rw,h.ap,h.mp⟩⟩;rcases h2 m with e|e
 ·show Rel w g _ (vQ m);rw[e];exact .undef _ _
 ·have:=h.sl m;simp only at this e⊢;rw[e]at this;exact this
section
variable {P:Program}
def pick (l:List Oper):List Nat->List Oper
 |[]=>[]
 |i::is=>match l[i]? with
  |some o=>o::pick l is
  |none=>pick l is
@[go_sem] theorem an7 {l:List Oper}:pick l []=[]:=rfl
@[go_sem] theorem an8 {l:List Oper}{i:Nat}{is:List Nat}:pick l (i::is)=match l[i]? with|some o=>o::pick l is|none=>pick l is:=rfl
def pa (P:Program)(ops:List Oper):List Oper->St->(St->Prop)->Prop
 |[],s,K=>K s
 |o::l,s,K=>de P ops o s λs'=>pa P ops l s' K
def Dg (l:List Oper):Prop:=∀o∈l,kindOf o.op≠ .X/\(kindOf o.op= .L\/kindOf o.op= .W->o.guard=none)
theorem D8 {ops:List Oper}:∀{l:List Oper} {s:St} {K K':St->Prop},Dg l->(∀s,K s->K' s)->pa P ops l s K->pa P ops l s K'
 |[],s,K,K',_,h,hk=>h s hk
 |o::l,s,K,K',hl,h,hk=>n7 (hl o (ey ..)).1 (hl o (ey ..)).2 (λs'=>D8 (λx hx=>hl x (fE _ hx)) h) hk
theorem D7 {ops:List Oper}:∀{l:List Oper} {s:St} {K:St->Prop},Dg l->cq P ops l s K->pa P ops l s K
 |[],s,K,_,h=>h
 |o::l,s,K,hl,h=>n7 (hl o (ey ..)).1 (hl o (ey ..)).2 (λs'=>D7 λx hx=>hl x (fE _ hx)) (D6 h)
theorem acx {ops:List Oper}{o:Oper}{s:St}{K:St->Prop}(hx:kindOf o.op≠ .X)(hg:kindOf o.op= .L\/kindOf o.op= .W->o.guard=none)(h:de P ops o s K):
  ∃s',K s'/\de P ops o s λx=>x=s':=by
 obtain⟨hd,h⟩:=(r9 hx hg).1 h;obtain⟨r,h1,h2⟩:=(sg _ _ _ _ _).ex h;exact⟨_,h2,(r9 hx hg).2 ⟨hd,(sg _ _ _ _ _).mono (λr' hr=>by rw[hr]) h1⟩⟩
theorem Q_ {ops:List Oper}:∀{l:List Oper} {s:St} {K:St->Prop},Dg l->pa P ops l s K->∃s',K s'/\pa P ops l s λx=>x=s'
 |[],s,K,_,h=>⟨s,h,rfl⟩
 |o::l,s,K,hl,h=>by
  have ho:=hl o (ey ..);obtain⟨s1,h1,h2⟩:=acx ho.1 ho.2 h;obtain⟨s',h3,h4⟩:=Q_ (λx hx=>hl x (fE _ hx)) h1;exact⟨s',h3,n7 ho.1 ho.2 (λx hx=>by rw[hx];exact h4) h2⟩
def CO (ps:List (Tmp×Tmp))(ops:Array Oper)(listed:Array Bool)(i:Nat):Bool:=(kO .any ops listed).contains i&&match ops[i]? with
 |some oi=>(dB ops.size).all λj=>j == i||listed.getD j true||match ops[j]? with
  |some oj=>oj.after.any (λe=>eF .any e&&e.on == i)||(oi.apart ops oj&&qZ ps oi oj)
  |none=>true
 |none=>false
def yj (ps:List (Tmp×Tmp))(ops:Array Oper):Array Bool->List Nat->Bool
 |listed,[]=>(kO .any ops listed).isEmpty
 |listed,i::is=>CO ps ops listed i&&yj ps ops (listed.setIfInBounds i true) is
theorem Nr {ps:List (Tmp×Tmp)}{ops:Array Oper}{listed:Array Bool}{i:Nat}(h:CO ps ops listed i=true):i∈kO .any ops listed/\∃oi,ops[i]? =some oi/\
  ∀(j:Nat) (oj:Oper),ops[j]? =some oj->j≠i->listed.getD j true=false->(∀e∈oj.after,eF .any e=true->e.on≠i)->oi.apart ops oj=true/\qZ ps oi oj=true:=by
 simp only[CO,dZ,agV]at h;refine⟨h.1, ?_⟩;have h2:=h.2;cases ho:ops[i]? with
 |none=>rw[ho]at h2;cases h2
 |some oi=>
  rw[ho]at h2;refine⟨oi,rfl,λj oj hj bd hl fR=> ?_⟩;have:=ic.1 h2 j (ld.2 (bJ.1 hj).1);simp only[hj,oC,beq_iff_eq,bd,hl,cJ,false_or,xZ,dZ]at this;rcases this with⟨e,he,h1,h2⟩|h
  ·exact absurd h2 (fR e he h1)
  ·exact h
theorem C4 {ops:Array Oper}{i:Nat}{o:Oper}{is:List Nat}(h:ops[i]? =some o):pick ops.toList (i::is)=o::pick ops.toList is:=by
 simp only[pick,Array.getElem?_toList,h]
theorem AO {ops:Array Oper}(hk:oO ops.toList=true):∀is:List Nat,Dg (pick ops.toList is)
 |[]=>λo ho=>by cases ho
 |i::is=>λo ho=>by
  simp only[pick]at ho;split at ho
  ·rename_i o' h';rcases eX.1 ho with e|ho
   ·subst e;exact nU hk (by simpa using h')
   ·exact AO hk is o ho
  ·exact AO hk is o ho
theorem Ip {ps:List (Tmp×Tmp)}{ops:Array Oper}{K:St->Prop}(hk:oO ops.toList=true)(hw:rl ops=true)(hC:∀s,K s->∀x y,(x,y)∈ps->mv (s.sl x) (s.sl y)):
  ∀(is:List Nat) (listed:Array Bool) (s:St),yj ps ops listed is=true->pa P ops.toList (pick ops.toList is) s K->kh P ops K is.length listed s
 |[],listed,s,hB,h=>⟨by simpa[yj,List.isEmpty_iff]using hB,h⟩
 |i::is,listed,s,hB,h=>by
  simp only[yj,dZ]at hB;obtain⟨hr,oi,te,hf⟩:=Nr hB.1;rw[C4 te]at h;have hm:=nU hk te;exact Iq hk hw hC te is.length listed s hf hr (n7 hm.1 hm.2 (λs' ly=>Ip hk hw hC is _ s' hB.2 ly) h)
def Ac (ps:List (Tmp×Tmp))(ops:Array Oper)(a b:Nat)(post:List Nat):Array Bool->List Nat->Bool
 |listed,[]=>(kO .any ops listed).all (λi=>i == a||i == b)&&(kO .any ops listed).contains a&&(ops[a]?).isSome&&(ops[b]?).isSome&&
   yj ps ops (listed.setIfInBounds a true) (b::post)&&yj ps ops (listed.setIfInBounds b true) (a::post)
 |listed,i::is=>CO ps ops listed i&&Ac ps ops a b post (listed.setIfInBounds i true) is
theorem Sm {ps:List (Tmp×Tmp)}{ops:Array Oper}{K:St->Prop}(hk:oO ops.toList=true)(hw:rl ops=true)(hC:∀s,K s->∀x y,(x,y)∈ps->mv (s.sl x) (s.sl y)){a b:Nat}{post:List Nat}:
  ∀(is:List Nat) (listed:Array Bool) (s:St),Ac ps ops a b post listed is=true->
   pa P ops.toList (pick ops.toList is) s (λs1=>pa P ops.toList (pick ops.toList (a::b::post)) s1 K/\pa P ops.toList (pick ops.toList (b::a::post)) s1 K)->kh P ops K (is.length + (post.length + 2)) listed s
 |[],listed,s,hB,h=>by
  simp only[Ac,dZ,ic,oC,beq_iff_eq,agV]at hB;obtain⟨⟨⟨⟨⟨h1,h2⟩,h3⟩,h4⟩,h5⟩,h6⟩:=hB;obtain⟨oa,ha⟩:=tV.1 h3;obtain⟨ob,hb⟩:=tV.1 h4;obtain⟨g1,g2⟩:=h;simp only[List.length_nil,Nat.zero_add];refine⟨λe=>(by rw[e]at h2;cases h2),λi hi o ho=> ?_⟩;rcases h1 i hi with e|e
  ·subst e;have hm:=nU hk ho;rw[C4 ho]at g1;exact n7 hm.1 hm.2 (λs' ly=>Ip hk hw hC (b::post) _ s' h5 ly) g1
  ·subst e;have hm:=nU hk ho;rw[C4 ho]at g2;exact n7 hm.1 hm.2 (λs' ly=>Ip hk hw hC (a::post) _ s' h6 ly) g2
 |i::is,listed,s,hB,h=>by
  simp only[Ac,dZ]at hB;obtain⟨hr,oi,te,hf⟩:=Nr hB.1;rw[C4 te]at h;have hm:=nU hk te;have e:(i::is).length + (post.length + 2)=(is.length + (post.length + 2)) + 1:=by simp;omega
  rw[e];exact Iq hk hw hC te _ listed s hf hr (n7 hm.1 hm.2 (λs' ly=>Sm hk hw hC is _ s' hB.2 ly) h)
def SX (m:Nat)(ps:List (Tmp×Tmp))(s2 s1:St):Prop:=Sep s2 ps/\m + 1 < s2.bx.length/\ra (s2.sw m) s1
theorem B9 {c:Ctx}{id:Nat}{l:List Oper}{Q:Exit->St->Prop}{s:St}(ps:List (Tmp×Tmp))(pre:List Nat)(a b:Nat)(post:List Nat)(hm:c.P.follows .mixedOrders=true)
  (hB:(decide (pre.length + (post.length + 2)=l.length)&&oO l&&rl l.toArray&&Ac ps l.toArray a b post (kq l.length false) pre)=true)
  (h:∀K:St->Prop,(∀s',Q .normal s'/\Sep s' ps->K s')->cq c.P l (pick l pre) s λs1=>cq c.P l (pick l (a::b::post)) s1 λs'=>K s'/\cq c.P l (pick l (b::a::post)) s1 λCS=>SX s.bx.length ps CS s'):
  az c (.region id l.toArray true) Q s:=by
 intro act w hr;simp only[dZ,decide_eq_true_eq]at hB;obtain⟨⟨⟨hlen,hk⟩,hw⟩,ht⟩:=hB;have h0:c.β0.length<=s.bx.length:=by
  obtain⟨g,hg⟩:=hr;rw[<-hg.lβ];rcases fL g.β.length c.β0.length with aU|il
  ·have:=hg.df.eV g.β.length _ (cX aU);rw[qd (Nat.le_refl _)]at this;cases this
  ·exact il
 let K:St->Prop:=λs'=>(∃sf,Q .normal sf/\(ra s' sf\/(s.bx.length + 1 < s'.bx.length/\ra (s'.sw s.bx.length) sf)))/\Sep s' ps
 have fS:oO l.toArray.toList=true:=by simpa using hk
 have k1:=AO fS pre;have k2:=AO fS (a::b::post);have k3:=AO fS (b::a::post);have h1:=h (λs'=>Q .normal s'/\Sep s' ps) (λ_ h=>h);have h2:pa c.P l.toArray.toList (pick l.toArray.toList pre) s (λs1=>pa c.P l.toArray.toList (pick l.toArray.toList (a::b::post)) s1 K/\pa c.P l.toArray.toList (pick l.toArray.toList (b::a::post)) s1 K):=by
  refine D8 k1 (λs1 gL=> ?_) (D7 k1 (by simpa using h1));obtain⟨s',⟨⟨q1,q2⟩,q3⟩,q4⟩:=Q_ k2 (D7 k2 (by simpa using gL));refine⟨D8 k2 (λx hx=> ?_) q4,D8 k3 (λx hx=> ?_) (D7 k3 (by simpa using q3))⟩
  ·rw[hx];exact⟨⟨s',q1, .inl ⟨rfl,WZ,rfl,rfl⟩⟩,q2⟩
  ·exact⟨⟨s',q1, .inr hx.2⟩,hx.1⟩
 refine wpIn_region_any hm (B1 (K:=K) (λs' a w hr hq=> ?_) _ _ s _ _ (RG.ve hr) ?_)
 ·obtain⟨⟨sf,hq,hs⟩,_⟩:=hq;rcases hs with hs|⟨hl,hs⟩
  ·exact⟨sf,hr.sle hs,hq⟩
  ·obtain⟨g,hg⟩:=hr;exact⟨sf,R.sle ⟨_,hg.sw hl h0⟩ hs,hq⟩
 ·have:=Sm (P:=c.P) (ops:=l.toArray) (ps:=ps) (K:=K) fS hw (λs hs=>hs.2.at) (a:=a) (b:=b) (post:=post) pre (kq l.length false) s ht h2;rw[hlen]at this;simpa using this
end
theorem Iz {c:Ctx}{Q:Exit->St->Prop}{s:St}{l:Nat}(h:Q .normal s):az c (.label l) Q s:=λ_ _ hr=>wpIn_label ⟨s,hr,h⟩
def qn (Q:Exit->St->Prop):Exit->St->Prop
 | .goto _,_=>False
 |e,s=>Q e s
theorem Iv {c:Ctx}{Q:Exit->St->Prop}{s:St}{x:Code}(h:az c x (qn Q) s):az c (.scope x) Q s:=by
 intro a w hr;refine Jh (wpIn_mono (h a w hr) ?_);rintro e a' w' ⟨s',r,q⟩;cases e<;>first|exact⟨s',r,q⟩|exact q.elim
attribute[go_sem] gQ pA lj sK
@[go_sem] theorem an6 {m:Nat}{ps:List (Tmp×Tmp)}{n n':Nat}{sl vQ:Nat->D}{bx aF:List Bx}{rw aL:List Row}:
  SX m ps ⟨n,sl,bx,rw⟩ ⟨n',vQ,aF,aL⟩=(Sep ⟨n,sl,bx,rw⟩ ps/\m + 1 < bx.length/\ra ⟨n,vP m sl,swp m (bx.map (sK m)),rw⟩ ⟨n',vQ,aF,aL⟩):=rfl
@[go_sem] theorem an0 {m n:Nat}{f:Nat->D}{v:D}:vP m (Ab.put f n v)=Ab.put (vP m f) n (gQ m v):=by
 funext t;simp only[vP,Ab.put];split<;>rfl
@[go_sem] theorem an1 {m:Nat}:vP m eC=eC:=by funext t;simp[vP,eC,gQ]
@[go_sem] theorem anZ {α:Type}{m:Nat}{l:List α}:swp m l=match l[m]?,l[m + 1]? with|some x,some y=>(l.set m y).set (m + 1) x|_,_=>l:=rfl
@[congr] theorem aoI {a a' b b':St}(h:a=a')(h':b=b'):ra a b=ra a' b':=by rw[h,h']
end Go.Ab
