import Derived.Test.YtopobgihpdaggaaGreatDoorZ12
set_option linter.unusedVariables false
set_option linter.unusedSimpArgs false
open Array renaming getElem?_eq_some_iff->bJ,replicate->kq
open Go.Deferred renaming ofValue->sv
open List renaming getElem?_append_left->cZ,getElem?_eq_some_iff->bm,getElem?_set_ne->gz,getElem?_set_self->je,getElem?_take->ib,length_filter_le->IY,mem_cons->eX,mem_iff_getElem?->po,mem_of_getElem?->fM
open Nat renaming le_refl->cx,le_trans->gj,lt_of_lt_of_le->xB,not_le_of_lt->tW,not_lt_of_le->EW,zero_le->cv
open Go.Region renaming binds->eF,wanted->d_
open Go.Sem renaming run_bind->kN,run_pure->q_
open Go.World renaming alloc_heap_new->zA,cell?_of_block->nz,putObj_heap_other->mB,putObj_heap_same->IE
section
namespace Go.Ab
open Go.RowKit
def vN:Op->Bool
 | .pick .. | .move _| .assign _| .alloc _| .box .. | .build .. | .buildSlice .. | .load .. | .store .. | .binOp .. | .unOp .. | .convert .. | .makeInterface .. | .makeFunc .. | .makeMap .. | .makeSlice ..
 | .slice .. | .fieldAddr .. | .field .. | .indexAddr .. | .index .. | .lookup .. | .mapUpdate .. | .insert .. | .extract .. | .call ⟨.builtin .append,_,_⟩| .call ⟨.builtin .len,_,_⟩| .call ⟨.builtin .copy,_,_⟩| .call ⟨.builtin .max,_,_⟩| .call ⟨.builtin .min,_,_⟩=>true
 |_=>false
def BX:Op->Bool
 | .call ⟨.value _,_,_⟩=>true
 |_=>false
theorem Pb {P:Program}{ρ:Operand->Value}{o:Oper}{w w':World}{n:Next}(hc:vN o.op=true)(h:(execOp ρ o).run P w= .ok n w'):(∃v,n= .value v)\/n= .skip:=by
 obtain⟨dst,op,ty,pos,aft,gd⟩:=o;simp only at hc;unfold vN at hc;split at hc<;>first|(cases hc;done)|skip
 all_goals first
  |(exact .inl (En h))
  |(exact .inr (R0 h))
  |(simp only[execOp,q_]at h;cases h;exact .inl ⟨_,rfl⟩)
  |(simp only[execOp]at h;rw[kN]at h;revert h;generalize(asBool _).run P w=r;cases r with
    |ok v w2=>intro h;simp only[Result.andThen_ok,q_]at h;cases h;exact .inl ⟨_,rfl⟩
    |halt x w2=>intro h;cases h)
  |(simp only[execOp,resolve,invoke,builtin,pure_bind]at h;exact .inl (En h))
  |(simp only[execOp,resolve,invoke,builtin,kN,q_,Result.andThen_ok]at h;exact .inl (En (by simpa[kN]using h)))
def ER (n:Next):Prop:=(∃v,n= .value v)\/n= .skip\/∃f xs,n= .enter f xs
section
variable {c:Ctx} {l1 l2:List Deferred} {s:St} {a:Act} {w:World}
theorem Xu {o:Oper}{K:St->Prop}{Q':Exit->Act->World->Prop}{N:Act->World->Prop}(hr:RX l1 l2 c s a w)(bD:aZ c o s K)(wM:∀cl,o.op≠ .defer cl)
  (hk:∀n w',(execOp a.eval o).run c.P w= .ok n w'->ER n)(hN:∀s' a' w',RX l1 l2 c s' a' w'->K s'->N a' w'):o.wpIn c.F 0 c.P a w N Q':=by
 obtain⟨hd,hr⟩:=hr;have h:=bD {a with defers:=l2} w (λa' w'=>∃s',R c s' a' w'/\K s') (λ_ _ _=>False) hr (λs' a' w' h1 h2=>⟨s',h1,h2⟩);have ij:∀v,(a.put o.dst v).defers=l1/\({a.put o.dst v with defers:=l2}:Act)=({a with defers:=l2}:Act).put o.dst v:=λv=>by
  cases o.dst with
  |none=>exact⟨hd,rfl⟩
  |some n=>exact⟨hd,rfl⟩
 obtain⟨h1,h2⟩:=h;refine⟨h1, ?_⟩;rw[Oper.semAt_eq _ _ _ wM]at h2⊢;have he:({a with defers:=l2}:Act).eval=a.eval:=rfl;rw[he]at h2;cases bg:(execOp a.eval o).run c.P w with
 |ok n w'=>
  rw[bg]at h2;rcases hk n w' bg with⟨v,rfl⟩|rfl|⟨f,xs,rfl⟩
  ·obtain⟨s',e1,e2⟩:=h2;exact hN s' _ _ ⟨(ij v).1,(ij v).2▸e1⟩ e2
  ·obtain⟨s',e1,e2⟩:=h2;exact hN s' _ _ ⟨(ij undef).1,(ij undef).2▸e1⟩ e2
  ·rw[Oper.uponIn_enter]at h2⊢;refine⟨h2.1,h2.2.mono λe MZ h=> ?_⟩;cases e with
   |returned v=>
    obtain⟨s',e1,e2⟩:=h;exact hN s' _ _ ⟨(ij v).1,(ij v).2▸e1⟩ e2
   |panicked ch=>exact h.elim
   |outgrown=>obtain⟨_,_,h⟩:=h;exact h.elim
 |halt x w'=>
  rw[bg]at h2;cases x<;>exact h2.elim
def E9 (P:Program)(f:FuncId):Prop:=∀(args:Array Value) (w:World),(callFunc f args).run P w= .ok (.enter f args) w
theorem afY {o:Oper}{fx:Operand}{xs:Array Operand}{at_:Array TypeId}{k:FuncId->List D->List D->Prop}(ho:o.op= .call {callee:= .value fx,args:=xs,argTypes:=at_})
  (hr:RX l1 l2 c s a w)(hk:lN (s.ev fx) k)(wI:∀f fs cs,k f fs cs->E9 c.P f):∀n w',(execOp a.eval o).run c.P w= .ok n w'->ER n:=by
 obtain⟨wM,g,hg⟩:=hr;obtain⟨f,fs,cs,⟨vf⟩,⟨vs⟩,DI,hv,_⟩:=Fm (hg.ev fx) hk;intro n w' h;have oR:a.eval fx= .func (.func f) vf.toArray vs.toArray:=hv;have qW:=wI _ _ _ DI;simp[execOp,ho,resolve,oR,sv,invoke]at h;rw[qW]at h;cases h;exact .inr (.inr ⟨_,_,rfl⟩)
theorem V8 {o:Oper}{K:St->Prop}(hr:RX l1 l2 c s a w)(bD:c_ c.P o s K)(hk:(vN o.op||BX o.op)=true):∀n w',(execOp a.eval o).run c.P w= .ok n w'->ER n:=by
 intro n w' h;rcases Bool.or_eq_true_iff.1 hk with hk|hk
 ·rcases Pb hk h with h|h
  ·exact .inl h
  ·exact .inr (.inl h)
 ·unfold BX at hk;split at hk<;>first|(cases hk;done)|skip
  rename_i fx xs at_ ho;unfold c_ at bD;rw[ho]at bD;obtain⟨hd,bD⟩:=bD;unfold ez at bD;simp only at bD;refine afY ho hr bD (λf fs cs h=> ?_) n w' h;obtain⟨ds,h1,d,⟨h2,_⟩,_⟩:=cE h;exact h2
theorem Xs {o:Oper}{K:St->Prop}{Q':Exit->Act->World->Prop}{N:Act->World->Prop}(hr:RX l1 l2 c s a w)(bD:c_ c.P o s K)(hk:(vN o.op||BX o.op)=true)(hN:∀s' a' w',RX l1 l2 c s' a' w'->K s'->N a' w'):o.wpIn c.F 0 c.P a w N Q':=
 Xu hr (aZ.of bD) (sL bD) (V8 hr bD hk) hN
theorem CT {ops:Array Oper}{K:St->Prop}{Q:Exit->Act->World->Prop}{rest:List Oper}(hK:∀s a w,RX l1 l2 c s a w->K s->wpListIn c.F 0 c.P ops Q rest a w):
  ∀(l:List Oper) (s:St) (a:Act) (w:World),(l.all λo=>vN o.op||BX o.op)=true->RX l1 l2 c s a w->cq c.P ops.toList l s K->wpListIn c.F 0 c.P ops Q (l++rest) a w
 |[],s,a,w,_,hr,h=>hK s a w hr h
 |o::l,s,a,w,hl,hr,h=>by
  simp only[List.all_cons,Bool.and_eq_true]at hl;obtain⟨kZ,fH⟩:=hl;have A8:=hr;obtain⟨jn,g,hg⟩:=hr;have me:RG c s {a with defers:=l2} w g:=hg;have next:∀{s1:St},c_ c.P o s1 (λs'=>cq c.P ops.toList l s' K)->s1=s->o.wpIn c.F 0 c.P a w (wpListIn c.F 0 c.P ops Q (l++rest)) Q:=λbD e=>by
   subst e;exact Xs A8 bD kZ (λs' a' w' cH fS=>CT hK l s' a' w' fH cH fS)
  have ij:∀v,(a.put o.dst v).defers=l1/\({a.put o.dst v with defers:=l2}:Act)=({a with defers:=l2}:Act).put o.dst v:=λv=>by
   cases o.dst with
   |none=>exact⟨jn,rfl⟩
   |some n=>exact⟨jn,rfl⟩
  unfold cq at h;show wpListIn c.F 0 c.P ops Q (o::(l++rest)) a w;unfold wpListIn;split at h
  ·rename_i cK;rw[if_pos (by simp[d_,cK])];exact next h rfl
  ·rename_i j want cK;obtain⟨t,ht,h⟩:=cE h;cases hb:s.sl t<;>rw[hb]at h<;>simp only[wG]at h
   case skp=>
    have hy:=R.v7 me ht hb;rw[if_neg (by simp only[d_,cK];simp only at hy;rw[hy];simp)];exact⟨λ_ _=>trivial,CT hK l _ _ _ fH ⟨(ij undef).1,g,(ij undef).2▸hg.put h.1 (.skp _)⟩ h.2⟩
   rename_i b;have hy:=R.yielded me ht hb;by_cases e_:b=want
   ·subst e_;rw[if_pos (by simp only[d_,cK];simp only at hy;rw[hy];simp)];exact next (h.1 rfl) (nL hb)
   ·have nh:b= !want:=by cases b<;>cases want<;>simp_all
    rw[if_neg (by simp only[d_,cK];simp only at hy;rw[hy];simp[e_])];obtain⟨hd,h2⟩:=h.2 nh;rw[<-nh,nL hb]at h2;exact⟨λ_ _=>trivial,CT hK l _ _ _ fH ⟨(ij undef).1,g,(ij undef).2▸hg.put hd (.skp _)⟩ h2⟩
theorem pX {id:Nat}{l:List Oper}{Q:Exit->St->Prop}(hl:(l.all λo=>vN o.op||BX o.op)=true)(h:∀K:St->Prop,(∀s',Q .normal s'->K s')->cq c.P l l s K):fN l1 l2 c (.region id l.toArray false) Q s:=by
 intro a w hr;refine wpIn_region_lit ?_;have:=CT (c:=c) (ops:=l.toArray) (K:=Q .normal) (Q:=λe a' w'=>∃s',RX l1 l2 c s' a' w'/\Q e s') (rest:=[]) (λs a w hr hq=>⟨s,hr,hq⟩) l s a w hl hr (by simpa using h _ (λ_ h=>h));simpa using this
theorem Eu {s':St}{code:Code}{Q:Exit->St->Prop}(h:aO c s s')(hk:fN l1 l2 c code Q s'):fN l1 l2 c code Q s:=λa w hr=>hk a w ⟨hr.1,h _ _ hr.2⟩
theorem B6 {code:Code}{Q:Exit->St->Prop}{s:St}(s':St)(hl:Le s s')(hn:s'.named)(h0:c.β0.length<=s'.bx.length)(h:fN l1 l2 c code Q s'):fN l1 l2 c code Q s:=λa w hr=>h a w (hr.le hl hn h0)
theorem pZ {id:Nat}{Q:Exit->St->Prop}(h:Q (.exit id) s):fN l1 l2 c (.exit id) Q s:=λ_ _ hr=>wpIn_exit ⟨s,hr,h⟩
end
end Go.Ab
end
section
namespace Go.Ab
open Go.RowKit
theorem SF {c:Ctx}{id:Nat}{l:List Oper}{Q:Exit->St->Prop}{ι:Type}(hm:c.P.follows .mixedOrders=true)(hc:c.l=none)(hB:BL l.toArray=true)(n:Nat)(T:ι->dX)(b:Nat->D)(B:ι->(Nat->Bool)->List Bx)(W:ι->(Nat->Bool)->List Row)
  (ok:ι->(Nat->Bool)->Prop)(i0:ι)(h0:ok i0 λ_=>false)
  (step:∀i L j o,oe l.toArray L->ok i L->l[j]? =some o->L j=false->(∀e∈o.after,eF .any e=true->L e.on=true)->
   ee c l o ⟨n,aI L L (T i) b,B i L,W i L⟩ (λs'=>∃i',ok i' (more L j)/\aO c s' ⟨n,aI (more L j) (more L j) (T i') b,B i' (more L j),W i' (more L j)⟩))
  (done:∀i L,ok i L->(∀j,j < l.length->L j=true)->Q .normal ⟨n,aI L L (T i) b,B i L,W i L⟩):az c (.region id l.toArray true) Q ⟨n,aI (λ_=>false) (λ_=>false) (T i0) b,B i0 λ_=>false,W i0 λ_=>false⟩:=by
 intro a w hr;have hF:c.F=Fence.wide:=by unfold Ctx.F;rw[hc];rfl
 rw[hF];refine wpIn_region_any hm (Io (λL a w=>oe l.toArray L/\∃i,ok i L/\R c ⟨n,aI L L (T i) b,B i L,W i L⟩ a w) (λi o ho=>HK hB ho) (λL k o ho hL aa a w hI=> ?_) (λL a w hL ⟨_,i,cO,hI⟩=>⟨_,hI,done i L cO (by simpa using hL)⟩) l.toArray.size _ a _ ay ?_ ?_)
 ·obtain⟨bE,i,cO,hI⟩:=hI;have h:=step i L k o bE cO (by simpa using ho) hL aa a w (λa w=>oe l.toArray (λj=>decide (j=k)||L j)/\∃i,ok i (λj=>decide (j=k)||L j)/\R c ⟨n,aI (λj=>decide (j=k)||L j) (λj=>decide (j=k)||L j) (T i) b,B i (λj=>decide (j=k)||L j),W i (λj=>decide (j=k)||L j)⟩ a w) (λe a w=>∃s',R c s' a w/\Q e s') hI (λs' a' w' cH ⟨i',ba,hk⟩=>⟨λj oj hj kJ e he hb=> ?_,i',ba,hk _ _ cH⟩)
  ·rw[hF]at h;exact h
  ·simp only[Bool.or_eq_true,decide_eq_true_eq]at kJ⊢;rcases kJ with rfl|kJ
   ·rw[ho]at hj;cases hj
    exact .inr (aa e he hb)
   ·exact .inr (bE j oj hj kJ e he hb)
 ·exact gj (IY _ _) ay
 ·have e:(λj=>(kq l.toArray.size false).getD j false)=λ_=>false:=by
   funext j
   by_cases hj:j < l.length<;>simp[hj]
  rw[e];exact⟨λj o _ h=>(by cases h),i0,h0,RG.ve hr⟩
theorem aZ.mono {c:Ctx}{o:Oper}{s:St}{K K':St->Prop}(h:aZ c o s K)(hk:∀s,K s->K' s):aZ c o s K':=
 λa w N' Q' hr hN=>h a w N' Q' hr λs a w hr hs=>hN s a w hr (hk s hs)
theorem aZ.Zy {c:Ctx}{s:St}{K:St->Prop}{gd:Option (Nat×Bool)}{t ty:TypeId}{x y:Operand}{dst:Option Tmp}{pos:String}{aft:Array Edge}(hx:s.ev x= .val (.slice none 0 0))
  (h:aZ c ⟨dst, .call ⟨.builtin .append,#[.const (.slice none 0 0),y],#[t,t]⟩,ty,pos,aft,gd⟩ s K):aZ c ⟨dst, .call ⟨.builtin .append,#[x,y],#[t,t]⟩,ty,pos,aft,gd⟩ s K:=by
 rintro a w N' Q' ⟨g,hg⟩ hN;have h1:=h a w N' Q' ⟨g,hg⟩ hN;have hv:=hg.ev x;rw[hx]at hv;generalize qU:a.eval x=v at hv;cases hv;have nX:a.eval (.const (.slice none 0 0))= .slice none 0 0:=rfl;refine⟨λ_ _=>trivial, ?_⟩;have h2:=h1.2;rw[Oper.semAt_eq _ _ _ (by intro cl h;cases h)]at h2⊢;have e:execOp a.eval ⟨dst, .call ⟨.builtin .append,#[x,y],#[t,t]⟩,ty,pos,aft,gd⟩=execOp a.eval ⟨dst, .call ⟨.builtin .append,#[.const (.slice none 0 0),y],#[t,t]⟩,ty,pos,aft,gd⟩:=by
  simp[execOp,resolve,invoke,builtin,qU,nX]
 rw[e];exact h2
end Go.Ab
end
section
namespace Go.Ab
open Go.RowKit
section
variable {c:Ctx} {s:St}
theorem CU (i q:Nat)(e:TypeId)(sz:Nat)(cs:List D)(hi:s.bx[i]? =some (.mu cs))(hq:cs[q]? =some (.val (.slice none 0 0))):aO c s {s with bx:=s.bx.set i (.mu (cs.set q (.own s.rw.length))),rw:=s.rw++[⟨true,e,sz,[]⟩]}:=by
 rintro a w ⟨g,hg⟩;refine⟨⟨g.S,g.β,g.ρ++[.slice none 0 0],g.M⟩, ?_⟩;have hp:=hg.yp e sz;have en:i < s.bx.length:=(bm.1 hi).1;have jm:q < cs.length:=(bm.1 hq).1;have hold:∀(j:Nat) (x:Bx),(s.bx.set i (.mu (cs.set q (.own s.rw.length))))[j]? =some x->(j=i/\x= .mu (cs.set q (.own s.rw.length)))\/(j≠i/\s.bx[j]? =some x):=λj x hj=>by
  by_cases bd:j=i
  ·subst bd;rw[je en]at hj;exact .inl ⟨rfl,(Option.some.inj hj).symm⟩
  ·rw[gz (Ne.symm bd)]at hj;exact .inr ⟨bd,hj⟩
 obtain⟨κ,k1,k2⟩:=hp.ap;refine⟨hp.df,hp.sz,hp.below,hp.cY,hp.bt,hp.eD,hp.S0,hp.fU,by simpa using hp.lβ,hp.lρ,hp.sl,λj ds hj=> ?_,λj ds hj=> ?_,hp.rw,⟨κ,λj x b hj hx hb=> ?_,k2⟩,λj es hj=>by
  rcases hold j _ hj with⟨_,e1⟩|⟨_,gE⟩
  ·cases e1
  ·exact hp.mp j es gE⟩
 ·rcases hold j _ hj with⟨rfl,e1⟩|⟨_,gE⟩
  ·cases e1;obtain⟨b,vs,t,f1,f2,f3,f4,f5,f6⟩:=(hp.bx j cs hi).ex;refine⟨b,vs,t,f1,f2,⟨by rw[List.length_set];exact f3.1,λp d hd=> ?_⟩,f4,f5,λhh=>by cases hh⟩;by_cases pJ:p=q
   ·subst pJ;rw[je jm]at hd;cases hd;obtain⟨g1,g2⟩:=f3.2 p _ hq;refine⟨?_,g2⟩;generalize vs.getD p undef=v at g1;simp only[if_true]at g1⊢;cases g1;exact .own _ _ _ (by rw[<-hg.lρ];simp)
   ·rw[gz (Ne.symm pJ)]at hd;exact f3.2 p d hd
  ·exact hp.bx j ds gE
 ·rcases hold j _ hj with⟨_,e1⟩|⟨_,gE⟩
  ·cases e1
  ·exact hp.fz j ds gE
 ·rcases hold j _ hj with⟨rfl,_⟩|⟨_,gE⟩
  ·exact k1 j _ b hi rfl hb
  ·exact k1 j x b gE hx hb
end
theorem ax.it {P:Program}{f:FuncId}{ds:List D}{d:D}(h:ax P f ds d):E9 P f:=h.1
theorem aT.it {P:Program}{f:FuncId}{ds:List D}{bx:List Bx}{rw:List Row}{K:D->List Bx->List Row->Prop}(h:aT P f ds bx rw K):E9 P f:=h.1
section
variable {c:Ctx} {l1 l2:List Deferred} {s:St}
theorem p_ {id:Nat}{x:Code}{Q:Exit->St->Prop}(h:fN l1 l2 c x (dn id Q) s):fN l1 l2 c (.block id x) Q s:=by
 intro a w hr;refine wpIn_block (wpIn_mono (h a w hr) ?_);rintro e a' w' ⟨s',r,q⟩;cases e with
 |normal=>exact⟨s',r,q⟩
 |exit j6=>
  simp only[dn]at q;simp only[Exit.inBlock];split at q
  ·rw[if_pos (by assumption)];exact⟨s',r,q⟩
  ·rw[if_neg (by assumption)];exact⟨s',r,q⟩
 |goto l=>exact⟨s',r,q⟩
 |ret=>exact⟨s',r,q⟩
 |panic ch=>exact⟨s',r,q⟩
 |outgrown=>exact⟨s',r,q⟩
theorem agz {body:Code}{Q:Exit->St->Prop}{ι:Type}(I:ι->St)(p:ι->Prop)(μ:ι->Nat)(hn:∀i,p i->(I i).named)(hβ:∀i,p i->c.β0.length<=(I i).bx.length)
  (i0:ι)(h0:p i0)(hle:Le s (I i0))
  (round:∀i,p i->fN l1 l2 c body (cF (λs'=>∃j,p j/\μ j < μ i/\Le s' (I j)) Q) (I i)):fN l1 l2 c (.loop body) Q s:=by
 intro a w hr;refine CA (λi a w=>p i/\RX l1 l2 c (I i) a w) μ (λi a w ⟨hp,hr⟩=> ?_) i0 ⟨h0,hr.le hle (hn i0 h0) (hβ i0 h0)⟩;refine wpIn_mono (round i hp a w hr) ?_;rintro e a' w' ⟨s',r,q⟩;cases e with
 |normal=>obtain⟨j,hj,aU,hl⟩:=q;exact⟨j,⟨hj,r.le hl (hn j hj) (hβ j hj)⟩,aU⟩
 |exit id=>exact⟨s',r,q⟩
 |goto l=>exact⟨s',r,q⟩
 |ret=>exact⟨s',r,q⟩
 |panic ch=>exact⟨s',r,q⟩
 |outgrown=>exact⟨s',r,q⟩
theorem SC {body:Code}{Q:Exit->St->Prop}{s:St}{ι:Type}{n:Nat}(l:ι->List (Nat×D))(bx:ι->List Bx)(rw:ι->List Row)(p:ι->Prop)(μ:ι->Nat)
  (hn:∀i,p i->((l i).all λq=>dA (bx i).length (rw i).length q.2)=true/\bZ (bx i).length (rw i).length (bx i)=true)
  (i0:ι)(h0:p i0)(hle:Le s (dD n (l i0) (bx i0) (rw i0)))
  (round:∀i,p i->fN l1 l2 c body (cF (λs'=>∃j,p j/\μ j < μ i/\Le s' (dD n (l j) (bx j) (rw j))) Q) ⟨n,(l i).foldr (λp f=>put f p.1 p.2) eC,bx i,rw i⟩)(hβ:∀i,p i->c.β0.length<=(bx i).length):fN l1 l2 c (.loop body) Q s:=
 agz (λi=>dD n (l i) (bx i) (rw i)) p μ (λi hp=>gT (hn i hp).1 (hn i hp).2) hβ i0 h0 hle round
def jt (l1 l2:List Deferred)(c:Ctx)(ops:List Oper)(o:Oper)(s:St)(K:St->Prop):Prop:=
 ∀(a:Act) (w:World) (N':Act->World->Prop) (Q':Exit->Act->World->Prop),RX l1 l2 c s a w->(∀s a w,RX l1 l2 c s a w->K s->N' a w)->qh c.F c.P ops.toArray o a w N' Q'
theorem jt.of {ops:List Oper}{o:Oper}{K:St->Prop}(h:ee c ops o s K)(wM:∀cl,o.op≠ .defer cl)(hk:∀a w n w',RX l1 l2 c s a w->(execOp a.eval o).run c.P w= .ok n w'->ER n):jt l1 l2 c ops o s K:=λa w N' Q' hr hN=>by
 have h1:=h {a with defers:=l2} w (λa' w'=>∃s',R c s' a' w'/\K s') (λ_ _ _=>False) hr.2 (λs' a' w' h1 h2=>⟨s',h1,h2⟩);have ij:∀v,(a.put o.dst v).defers=l1/\({a.put o.dst v with defers:=l2}:Act)=({a with defers:=l2}:Act).put o.dst v:=λv=>by
  cases o.dst with
  |none=>exact⟨hr.1,rfl⟩
  |some n=>exact⟨hr.1,rfl⟩
 unfold qh at h1⊢;simp only at h1;by_cases hw:d_ o (Go.yielded ops.toArray a.tmps)=true
 ·rw[if_pos hw]at h1⊢;obtain⟨h2,h3⟩:=h1;refine⟨h2, ?_⟩;rw[Oper.semAt_eq _ _ _ wM]at h3⊢;have he:({a with defers:=l2}:Act).eval=a.eval:=rfl;rw[he]at h3;cases bg:(execOp a.eval o).run c.P w with
  |ok n w'=>
   rw[bg]at h3;rcases hk a w n w' hr bg with⟨v,rfl⟩|rfl|⟨f,xs,rfl⟩
   ·obtain⟨s',e1,e2⟩:=h3;exact hN s' _ _ ⟨(ij v).1,(ij v).2▸e1⟩ e2
   ·obtain⟨s',e1,e2⟩:=h3;exact hN s' _ _ ⟨(ij undef).1,(ij undef).2▸e1⟩ e2
   ·rw[Oper.uponIn_enter]at h3⊢;refine⟨h3.1,h3.2.mono λe MZ h=> ?_⟩;cases e with
    |returned v=>
     obtain⟨s',e1,e2⟩:=h;exact hN s' _ _ ⟨(ij v).1,(ij v).2▸e1⟩ e2
    |panicked ch=>exact h.elim
    |outgrown=>obtain⟨_,_,h⟩:=h;exact h.elim
  |halt x w'=>
   rw[bg]at h3;cases x<;>exact h3.elim
 ·rw[if_neg hw]at h1⊢;obtain⟨h2,s',e1,e2⟩:=h1;exact⟨h2,hN s' _ _ ⟨(ij undef).1,(ij undef).2▸e1⟩ e2⟩
theorem jt.sV {ops:List Oper}{o:Oper}{K:St->Prop}(hk:vN o.op=true)(h:ee c ops o s K):jt l1 l2 c ops o s K:=
 jt.of h (by intro cl e;rw[e]at hk;cases hk) (λa w n w' _ bg=>(Pb hk bg).elim .inl λh=> .inr (.inl h))
theorem jt.C' {ops:List Oper}{K:St->Prop}{f:FuncId}{xs:Array Operand}{dst:Option Tmp}{at_:Array TypeId}{ty:TypeId}{pos:String}{aft:Array Edge}{gd:Option (Nat×Bool)}(hc:E9 c.P f)
  (h:ee c ops ⟨dst, .call ⟨.value (.func f),xs,at_⟩,ty,pos,aft,gd⟩ s K):jt l1 l2 c ops ⟨dst, .call ⟨.value (.func f),xs,at_⟩,ty,pos,aft,gd⟩ s K:=
 jt.of h (by intro cl e;cases e) (λa w n w' _ bg=>by
  have hv:a.eval (.func f)= .func (.func f) #[] #[]:=rfl;simp[execOp,resolve,hv,sv,invoke]at bg;rw[hc]at bg;cases bg;exact .inr (.inr ⟨_,_,rfl⟩))
theorem agA {id:Nat}{l:List Oper}{Q:Exit->St->Prop}{ι:Type}(hm:c.P.follows .mixedOrders=true)(hc:c.l=none)(hB:BL l.toArray=true)(n:Nat)(T:ι->dX)(b:Nat->D)(B:ι->(Nat->Bool)->List Bx)(W:ι->(Nat->Bool)->List Row)
  (ok:ι->(Nat->Bool)->Prop)(i0:ι)(h0:ok i0 λ_=>false)
  (step:∀i L j o,oe l.toArray L->ok i L->l[j]? =some o->L j=false->(∀e∈o.after,eF .any e=true->L e.on=true)->
   jt l1 l2 c l o ⟨n,aI L L (T i) b,B i L,W i L⟩ (λs'=>∃i',ok i' (more L j)/\aO c s' ⟨n,aI (more L j) (more L j) (T i') b,B i' (more L j),W i' (more L j)⟩))
  (done:∀i L,ok i L->(∀j,j < l.length->L j=true)->Q .normal ⟨n,aI L L (T i) b,B i L,W i L⟩):fN l1 l2 c (.region id l.toArray true) Q ⟨n,aI (λ_=>false) (λ_=>false) (T i0) b,B i0 λ_=>false,W i0 λ_=>false⟩:=by
 intro a w hr;have hF:c.F=Fence.wide:=by unfold Ctx.F;rw[hc];rfl
 rw[hF];refine wpIn_region_any hm (Io (λL a w=>oe l.toArray L/\∃i,ok i L/\RX l1 l2 c ⟨n,aI L L (T i) b,B i L,W i L⟩ a w) (λi o ho=>HK hB ho) (λL k o ho hL aa a w hI=> ?_) (λL a w hL ⟨_,i,cO,hI⟩=>⟨_,hI,done i L cO (by simpa using hL)⟩) l.toArray.size _ a _ ay ?_ ?_)
 ·obtain⟨bE,i,cO,hI⟩:=hI;have h:=step i L k o bE cO (by simpa using ho) hL aa a w (λa w=>oe l.toArray (λj=>decide (j=k)||L j)/\∃i,ok i (λj=>decide (j=k)||L j)/\RX l1 l2 c ⟨n,aI (λj=>decide (j=k)||L j) (λj=>decide (j=k)||L j) (T i) b,B i (λj=>decide (j=k)||L j),W i (λj=>decide (j=k)||L j)⟩ a w) (λe a w=>∃s',RX l1 l2 c s' a w/\Q e s') hI (λs' a' w' cH ⟨i',ba,hk⟩=>⟨λj oj hj kJ e he hb=> ?_,i',ba,cH.1,hk _ _ cH.2⟩)
  ·rw[hF]at h;exact h
  ·simp only[Bool.or_eq_true,decide_eq_true_eq]at kJ⊢;rcases kJ with rfl|kJ
   ·rw[ho]at hj;cases hj
    exact .inr (aa e he hb)
   ·exact .inr (bE j oj hj kJ e he hb)
 ·exact gj (IY _ _) ay
 ·have e:(λj=>(kq l.toArray.size false).getD j false)=λ_=>false:=by
   funext j
   by_cases hj:j < l.length<;>simp[hj]
  rw[e];exact⟨λj o _ h=>(by cases h),i0,h0,RX.tick hr⟩
theorem jt.mono {ops:List Oper}{o:Oper}{K K':St->Prop}(h:jt l1 l2 c ops o s K)(hk:∀s,K s->K' s):jt l1 l2 c ops o s K':=
 λa w N' Q' hr hN=>h a w N' Q' hr λs a w hr hs=>hN s a w hr (hk s hs)
theorem Ev {id:Nat}{l:List Oper}{Q:Exit->St->Prop}(hm:c.P.follows .mixedOrders=true)(hc:c.l=none)(hB:BL l.toArray=true)(n:Nat)(T:dX)(b:Nat->D)(B:(Nat->Bool)->List Bx)(W:(Nat->Bool)->List Row)
  (step:∀L j o,oe l.toArray L->l[j]? =some o->L j=false->(∀e∈o.after,eF .any e=true->L e.on=true)->
   jt l1 l2 c l o ⟨n,aI L L T b,B L,W L⟩ (λs'=>aO c s' ⟨n,aI (more L j) (more L j) T b,B (more L j),W (more L j)⟩))
  (done:∀L,(∀j,j < l.length->L j=true)->Q .normal ⟨n,aI L L T b,B L,W L⟩):fN l1 l2 c (.region id l.toArray true) Q ⟨n,aI (λ_=>false) (λ_=>false) T b,B λ_=>false,W λ_=>false⟩:=
 agA (ι:=Unit) hm hc hB n (λ_=>T) b (λ_=>B) (λ_=>W) (λ_ _=>True) () trivial (λ_ L j o h1 _ h2 h3 h4=>jt.mono (step L j o h1 h2 h3 h4) λs h=>⟨(),trivial,h⟩) (λ_ L _ h=>done L h)
end
end Go.Ab
end
section
namespace Go.Ab
open Go.RowKit
theorem RG.named {c:Ctx}{s:St}{a:Act}{w:World}{g:Gh}(hg:RG c s a w g):s.named:=by
 have e1:=hg.lβ;have e2:=hg.lρ;have nm:∀{v:Value} {d:D},Rel w g v d->Names s.bx.length s.rw.length d:=λh=>e1▸e2▸h.names;refine⟨λm=>nm (hg.sl m),λi x hx=> ?_⟩;cases x with
 |mu cs=>
  obtain⟨b,vs,t,_,_,h3,_⟩:=(hg.bx i cs hx).ex;intro d hd;obtain⟨q,hq⟩:=po.1 hd;exact nm (h3.2 q d hq).1
 |mp es=>
  obtain⟨b,hm⟩:=hg.mp i es hx;obtain⟨ms,cl,g1,g2,g3⟩:=hm.ex;intro e he;obtain⟨q,hq⟩:=po.1 he;have jm:=(bm.1 hq).1;have hqm:q < ms.size:=ag;obtain⟨r1,r2⟩:=g3 q e ms[q] hq (by simp[hqm]);have h1:=r1.names;have h2:=r2.names
  rw[<-e1];exact⟨h1,h2⟩
 |_=>exact trivial
theorem aZ.Sl {c:Ctx}{s:St}{o:Oper}{K:St->Prop}(m:Tmp)(h0:c_ c.P o s (λs1=>s1=⟨s.n,put s.sl m (.bz s.bx.length),s.bx++[.mp []],s.rw⟩))(hk:K ⟨s.n,put s.sl m .any,s.bx,s.rw⟩):aZ c o s K:=by
 rintro a w N' Q' ⟨g,hg⟩ hN;refine aZ.of h0 a w N' Q' ⟨g,hg⟩ (λs1 a1 w1 hH e=> ?_);subst e;refine hN _ _ _ ?_ hk;have h1:=aO.read (c:=c) (n:=s.n) (sl:=put s.sl m (.bz s.bx.length)) (bx:=s.bx++[.mp []]) (aL:=s.rw) m (d':= .any) (by rw[dN];rfl) _ _ hH;have hn:=hg.named;refine h1.le ⟨rfl,λk=> .inr ?_,⟨_,rfl⟩,⟨[],by simp⟩⟩ ⟨λk=> ?_,hn.2⟩ ?_
 ·simp only[put];split<;>rfl
 ·simp only[put];split
  ·exact .any
  ·exact hn.1 k
 ·rw[<-hg.lβ];rcases Nat.lt_or_ge g.β.length c.β0.length with h|h
  ·exfalso;have h2:=List.getElem?_eq_getElem h;have:=hg.df.eV _ _ h2;rw[List.getElem?_eq_none (cx _)]at this;cases this
  ·exact h
end Go.Ab
end
section
namespace Go.Ab
open Go.RowKit
section
variable {c:Ctx} {s:St}
theorem ZX {ops l:List Oper}{QQ:Exit->Act->World->Prop}(n:Nat){y:Oper}(At:(St->Prop)->St->Prop)(hy:∀(N:St->Prop) (s1:St),At N s1->aZ c y s1 N)
  (hl:l=l.take n++y::l.drop (n + 1))(cK:y.guard=none)(Rest:St->Prop)
  (hR:∀s3 a3 w3,R c s3 a3 w3->Rest s3->wpListIn c.F 0 c.P ops.toArray QQ (l.drop (n + 1)) a3 w3)
  (h:∀K1:St->Prop,(∀s1,At Rest s1->K1 s1)->cq c.P ops (l.take n) s K1){a:Act}{w:World}(hr:R c s a w):wpListIn c.F 0 c.P ops.toArray QQ l a w:=by
 rw[hl];generalize l.take n=l1 at *;generalize l.drop (n + 1)=l2 at *;refine pQ (c:=c) (ops:=ops.toArray) (λs1 a1 w1 hH ba=> ?_) l1 s a w hr (h _ (λs1 h1=>h1));show wpListIn c.F 0 c.P _ _ (y::l2) a1 w1;unfold wpListIn;rw[if_pos (by simp[d_,cK])];exact hy _ s1 ba a1 w1 _ _ hH hR
theorem SD {Q:Exit->St->Prop}{id:Nat}{l:List Oper}(n m:Nat){y:Oper}{wZ:Option Tmp}{AH:Op}{Aa:TypeId}{AD:String}{B3:Array Edge}{j2:Nat}{vH:Bool}
  (At:(St->Prop)->St->Prop)(hy:∀(N:St->Prop) (s1:St),At N s1->aZ c y s1 N)
  (xY:(St->Prop)->St->Prop)(wq:∀(N:St->Prop) (s1:St),xY N s1->aZ c ⟨wZ,AH,Aa,AD,B3,some (j2,vH)⟩ s1 N)
  (hl:l=l.take n++y::l.drop (n + 1))(cK:y.guard=none)
  (fH:l.drop (n + 1)=(l.drop (n + 1)).take m++⟨wZ,AH,Aa,AD,B3,some (j2,vH)⟩::(l.drop (n + 1)).drop (m + 1))
  (h:∀K1:St->Prop,(∀s1,At (λs2=>∀K2:St->Prop,(∀s3,vl l j2 vH wZ xY (λs4=>cq c.P l ((l.drop (n + 1)).drop (m + 1)) s4 (λs5=>Q .normal s5)) s3->K2 s3)->cq c.P l ((l.drop (n + 1)).take m) s2 K2) s1->K1 s1)->cq c.P l (l.take n) s K1):
  az c (.region id l.toArray false) Q s:=by
 intro a w hr;refine wpIn_region_lit ?_;refine ZX (c:=c) n At hy hl cK _ (λs3 a3 w3 kz mZ=> ?_) h hr;refine Gi (c:=c) m xY wq fH _ (λs4 a4 w4 oU pL=> ?_) mZ kz;exact n9 (c:=c) (K:=λs2=>Q .normal s2) (λs5 a5 w5 GX Hc=>⟨s5,GX,Hc⟩) _ _ _ _ oU pL
end
end Go.Ab
end
section
namespace Go.Ab
open Go.RowKit
section
variable {c:Ctx} {s:St} {a:Act} {w:World} {g:Gh}
theorem HM:∀{l:List D},(∀d∈l,∃z:Int,d= .int .i64 z)->flat l=l
 |[],_=>rfl
 |d::l,h=>by
  obtain⟨z,rfl⟩:=h d (List.mem_cons_self ..);show[D.int .i64 z]++flat l=_;rw[HM λx hx=>h x (List.mem_cons_of_mem _ hx)];rfl
end
end Go.Ab
end
section
namespace Go.Ab
open Go.RowKit
theorem agQ {P:Program}{S:Addr->Prop}{M:MM}{w:World}{args:List Value}{ds:List D}{n:Nat}(hT:jG w)(hS:Go.Ab.Good w S)(hM:iN w M)(hl:args.length=ds.length)(hn:ds.length<=n)(b9:∀q x,ds[q]? =some x->Rel w ⟨S,[],[],M⟩ (args.getD q Go.undef) x):
  RG ⟨P,w,S,M,none,λb=>w.heap.size<=b,[]⟩ ⟨n,oK 0 ds,[],[]⟩ {tmps:=args.toArray++kq (n - args.toArray.size) undef,defers:=[]} w ⟨S,[],[],M⟩:=by
 refine⟨⟨⟨List.nodup_nil,λd hd=>by cases hd⟩,hM,λ_ _ h=>h,λ_ _ h=> .inl h,λi b h=>by simp at h,λ_ _=>rfl,hT.fresh hM⟩,by simp;omega, .of (Below.refl _ _),λ_ h=>h,hS,λ_ h=> .inl h,λ_ h=>h,hS,rfl,rfl, ?_, ?_, ?_, ?_, ?_, ?_⟩
 ·intro m;simp only;rw[yu];simp only[Nat.not_lt_zero,if_false,Nat.sub_zero];cases hd:ds[m]? with
  |none=>exact .undef _ _
  |some x=>
   have hm:=(bm.1 hd).1;have:=b9 m x hd;have e:(args.toArray++kq (n - args.toArray.size) undef).getD m undef=args.getD m undef:=by
    have:m < args.length:=ag;simp[Array.getElem?_append,this]
   rw[e];exact this
 ·intro i cs hi;simp at hi
 ·intro i cs hi;simp at hi
 ·intro i cs hi;simp at hi
 ·exact⟨λ_=> .inl 0,λi x b hi=>by simp at hi,λr row v gb hr=>by simp at hr⟩
 ·intro i es hi;simp at hi
theorem aZ.fresh {c:Ctx}{s:St}{K:St->Prop}{fx:Operand}{xs:Array Operand}{dst:Option Tmp}{at_:Array TypeId}{ty:TypeId}{pos:String}{aft:Array Edge}{gd:Option (Nat×Bool)}{f:FuncId}{cs ds:List D}{row:Row}
  (hc:aT c.P f ds [] [] (λd _ aL=>d= .own 0/\aL=[row]))(Bf:row.live=true)(hint:∀d∈row.xs,∃z:Int,d= .int .i64 z)(hd:bp s dst)(hx:s.ev fx= .aD f cs)
  (ack:∀(a:Act) (w:World) (g:Gh),RG c s a w g->∀vs:List Value,vs.length=cs.length->(∀q d,cs[q]? =some d->Rel w g (vs.getD q Go.undef) d)->(xs.toList.map a.eval++vs).length=ds.length/\∀q x,ds[q]? =some x->Rel w ⟨so w,[],[],g.M⟩ ((xs.toList.map a.eval++vs).getD q Go.undef) x)
  (hk:K (St.put {s with rw:=s.rw++[row]} dst (.own s.rw.length))):aZ c ⟨dst, .call ⟨.value fx,xs,at_⟩,ty,pos,aft,gd⟩ s K:=by
 rintro a w N' Q' ⟨g,h⟩ hN;obtain⟨qW,aE⟩:=hc;have eg:=h.ev fx;rw[hx]at eg;generalize GM:a.eval fx=vx at eg;cases eg with
 |aD _ _ vs _ hl hr=>
 refine gK (by intro cl h;cases h) ?_;have bg:(execOp a.eval ⟨dst, .call ⟨.value fx,xs,at_⟩,ty,pos,aft,gd⟩).run c.P w= .ok (.enter f (xs.toList.map a.eval++vs.toList).toArray) w:=by
  simp[execOp,resolve,GM,sv,invoke];rw[qW];simp
 obtain⟨hlen,b9⟩:=ack a w g h vs.toList (by simp[hl]) (λq d hq=>by
  have:=hr q d hq;simpa using this)
 have hi:=agQ (P:=c.P) (S:=so w) (M:=g.M) (w:=w) (args:=xs.toList.map a.eval++vs.toList) (ds:=ds) (n:=ds.length) (h.df.fj.at h.below) (λx hx=>hx) h.df.cb hlen (cx _) b9;have bE:=aE ⟨c.P,w,so w,g.M,none,λb=>w.heap.size<=b,[]⟩ _ _ w _ (xs.toList.map a.eval++vs.toList) rfl hi rfl rfl hlen b9;unfold Oper.wp;rw[bg];refine bE.mono ?_;rintro e W' ⟨v,d,s2,a2,g2,rfl,h2,h3,rfl,pI⟩;obtain⟨v1,e1,e2,e3⟩:=(h2.rw 0 row (by rw[pI];rfl)).ex;cases h3 with
 |own _ _ _ hv=>
 rw[hv]at e1;cases e1;obtain⟨⟨vals,bG⟩,Hl,y0⟩:=e3 Bf;have jD:∀gb,v.ownBlock=some gb->w.heap.size<=gb:=λgb aW=>(y0 gb aW).1.elim id (λh=>h.1);have hbm:qg g.M w.heap.size w W':=⟨h2.below.os,h2.below.tape,h2.below.output,h2.below.size,λk hk hn=>h2.below.block k hk (λh=>h.elim (λh=>h.elim (λh=>absurd h (tW hk)) (λh=>absurd h.1 (tW hk))) hn)⟩;obtain⟨S',BE⟩:∃S':Addr->Prop,S'=λx=>g.S x\/(g2.S x/\w.heap.size<=x.block):=⟨_,rfl⟩;have yO:Grow w g.S g.M W' S' g2.M:=⟨hbm,λx hx=>by rw[BE];exact .inl hx,λx hx=>by rw[BE]at hx;exact hx.imp id (·.2),h2.df.m0,h2.df.fX,h2.df.cb⟩;have wJ:Good W' S':=λx hx=>by
  rw[BE]at hx;rcases hx with hx|hx
  ·obtain⟨u,hu⟩:=h.bt x hx;exact⟨u,(yO.bt h.df.cb h.bt x hx).trans hu⟩
  ·exact h2.bt x hx.1
 have h4:=h.grow yO wJ;have aby:Rel W' ⟨S',g.β,g.ρ,g2.M⟩ v (.list row.xs):=by
  cases e2 with
  |list _ A n c2 _ sz u hn bo fA hm eR=>
   refine .list _ A n c2 _ sz u hn bo fA (λq hq=> ?_) (λq d hd=> ?_)
   ·obtain⟨ad,rfl,h5,h6,h7⟩:=hm q hq;refine⟨ad,rfl,h5, ?_,h7⟩;rw[BE];refine .inr ⟨h6, ?_⟩;have h8:(ad.add q).block=ad.block:=by unfold Addr.add;split<;>rfl
    rw[h8];exact jD ad.block rfl
   ·have h5:=eR q d hd;rw[HM hint]at hd;obtain⟨z,rfl⟩:=hint d (fM hd);generalize u q=x at h5;cases h5;exact .int _ _ _
 have hp:=h4.N8 (v:=v) (xs:=row.xs) (e:=row.e) (sz:=row.sz) (vals:=vals) aby bG Hl (λgb aW=>⟨h.cY _ (gj h.below.size (jD gb aW)),λx hx hb=>by
   simp only[BE]at hx;rcases hx with hx|hx
   ·exact absurd (h.bt.lt hx) (by rw[hb];exact EW (jD gb aW))
   ·exact(y0 gb aW).2 x hx.1 hb⟩)
  (λgb aW i x b hi hl hb e=>absurd (h.om hi hl hb).1 (by rw[e];exact EW (jD gb aW)))
  (λgb aW r Ap v2 g3 hr hl j8 h5 e=>absurd (h.oG hr hl j8 h5).1 (by rw[e];exact EW (jD gb aW)))
 have qK:(⟨true,row.e,row.sz,row.xs⟩:Row)=row:=by cases row;simp only at Bf;subst Bf;rfl
 rw[qK]at hp;refine hN _ _ _ ⟨_,hp.put (by cases dst<;>first|exact trivial|exact hd) (.own _ _ _ ?_)⟩ hk;show(g.ρ++[v])[s.rw.length]? =some v;rw[<-h.lρ];simp
end Go.Ab
end
section
namespace Go.Ab
open Go.RowKit Go
section
variable {c c2:Ctx} {s s2:St} {a a2:Act} {w w2:World} {g g2:Gh}
theorem RG.af6 (h:RG c s a w g)(h2:RG c2 s2 a2 w2 g2){p:Nat->Prop}(hl:mI p w g w2 g2)(hp:∀b,p b->c.own b)(jN:∀b,c2.own b->c.own b)(eV:∀(i b:Nat),g.β[i]? =some b->g2.β[i]? =some b):RG c s2 a2 w2 g2:=by
 have bo:c.w0.heap.size<=w.heap.size:=h.below.size;refine⟨⟨⟨h2.df.cW.1,λd hd=> ?_⟩,h2.df.cb,λb f hb=>hl.m1 b f (h.df.m0 b f hb),λb f hb=> ?_,λi b hb=>eV i b (h.df.eV i b hb),λx hx=>(hl.kp x (h.S0 x hx)).trans (h.df.iA x hx),h.df.fj⟩,h2.sz,
  h.below.trans hl.below bo (λi hi hn=> ?_),h.cY,h2.bt,λx hx=> ?_,λx hx=>hl.s1 x (h.S0 x hx),h.fU,h2.lβ,h2.lρ,h2.sl,λi cs hi=> ?_,λi cs hi=> ?_,λr row hr=> ?_,h2.ap,λi es hi=>(h2.mp i es hi).imp λb hm=>hm.ctx (jN b hm.own)⟩
 ·obtain⟨D,hB,e,ed⟩:=h2.df.cW.2 d hd;exact⟨D,jN D hB,e,ed⟩
 ·rcases hl.m2 b f hb with hb|hb
  ·exact h.df.fX b f hb
  ·exact .inr (gj bo hb)
 ·rcases hn with hn|hn
  ·exact .inl (hp i hn)
  ·cases hm:g.M i with
   |none=>exact(hn hm).elim
   |some f=>
         rcases h.df.fX i f hm with h1|h1
         ·exact .inr (by rw[h1];simp)
         ·omega
 ·rcases hl.s2 x hx with hx|hx
  ·exact h.eD x hx
  ·exact .inr (hp _ hx)
 ·obtain⟨b,vs,t,e1,e2,e3,e4,e5⟩:=(h2.bx i cs hi).ex;exact⟨b,vs,t,e1,e2,e3,jN b e4,e5⟩
 ·obtain⟨b,vs,t,e1,e2,e3,e4,e5⟩:=(h2.fz i cs hi).ex;exact⟨b,vs,t,e1,e2,e3,jN b e4,e5⟩
 ·obtain⟨v,e1,e2,e3⟩:=(h2.rw r row hr).ex;refine⟨v,e1,e2,λhl=> ?_⟩;obtain⟨h1,h2,h3⟩:=e3 hl;exact⟨h1,h2,λgb aW=>⟨jN gb (h3 gb aW).1,(h3 gb aW).2⟩⟩
end
end Go.Ab
end
section
namespace Go.Ab
open Go.RowKit Go
structure rk (c:Ctx)(T:Nat->Prop)(s:St)(a:Act)(w:World)(g:Gh):Prop where
 bx:∀(i:Nat) (x:Bx) (b:Nat),s.bx[i]? =some x->x.live=true->g.β[i]? =some b->¬T b
 rw:∀(r:Nat) (row:Row) (v:Value) (gb:Nat),s.rw[r]? =some row->row.live=true->g.ρ[r]? =some v->v.ownBlock=some gb->¬T gb
 df:∀d∈a.defers,∀D,d.target= .collected D->¬T D
 sx:∀x,g.S x->¬T x.block
 lt:∀b,T b->b < w.heap.size/\g.M b=none/\c.own b/\eb w b
def Ctx.aside (c:Ctx)(T:Nat->Prop)(w:World)(g:Gh):Ctx:=⟨c.P,w,g.S,g.M,c.l,λb=>w.heap.size<=b\/(c.own b/\¬T b),g.β⟩
section
variable {c:Ctx} {T:Nat->Prop} {s s2:St} {a a2:Act} {w w2:World} {g g2:Gh}
theorem RG.aside (h:RG c s a w g)(hf:rk c T s a w g):RG (c.aside T w g) s a w g:=by
 refine⟨⟨⟨h.df.cW.1,λd hd=> ?_⟩,h.df.cb,λ_ _ h=>h,λ_ _ h=> .inl h,λ_ _ h=>h,λ_ _=>rfl,h.df.fj.own h.below h.df.cb (λb hb=>hb.elim .inl (λhb=> .inr (.inl hb.1)))⟩,h.sz, .of (Below.refl _ _),λ_ h=> .inl h,h.bt,λ_ h=> .inl h,λ_ h=>h,h.bt,h.lβ,h.lρ,h.sl,λi cs hi=> ?_,λi cs hi=> ?_,λr row hr=> ?_,h.ap,λi es hi=>(h.mp i es hi).imp λb hm=>hm.ctx (.inr ⟨hm.own,hf.bx i _ b hi rfl hm.β⟩)⟩
 ·obtain⟨D,hB,e,hD⟩:=h.df.cW.2 d hd;exact⟨D, .inr ⟨hB,hf.df d hd D (by rw[e])⟩,e,hD⟩
 ·obtain⟨b,vs,t,e1,e2,e3,e4,e5⟩:=(h.bx i cs hi).ex;exact⟨b,vs,t,e1,e2,e3, .inr ⟨e4,hf.bx i _ b hi rfl e1⟩,e5⟩
 ·obtain⟨b,vs,t,e1,e2,e3,e4,e5⟩:=(h.fz i cs hi).ex;exact⟨b,vs,t,e1,e2,e3, .inr ⟨e4,hf.bx i _ b hi rfl e1⟩,e5⟩
 ·obtain⟨v,e1,e2,e3⟩:=(h.rw r row hr).ex;refine⟨v,e1,e2,λhl=> ?_⟩;obtain⟨h1,h2,h3⟩:=e3 hl;exact⟨h1,h2,λgb aW=>⟨.inr ⟨(h3 gb aW).1,hf.rw r row v gb hr hl e1 aW⟩,(h3 gb aW).2⟩⟩
theorem rk.back (h:RG c s a w g)(hf:rk c T s a w g)(h2:RG (c.aside T w g) s2 a2 w2 g2):
  RG c s2 a2 w2 g2/\rk c T s2 a2 w2 g2/\∀b,T b->w2.heap[b]? =w.heap[b]? :=by
 have bG:∀b,(c.aside T w g).own b->c.own b:=λb hb=>hb.elim (λh1=>h.cY b (gj h.below.size h1)) (λh1=>h1.1);have hT:∀b,T b->¬(c.aside T w g).own b:=λb hb ho=>ho.elim (λh1=>by have:=(hf.lt b hb).1;omega) (λh1=>h1.2 hb);have hM:∀b,T b->g2.M b=none:=λb hb=>by
  cases hm:g2.M b with
  |none=>rfl
  |some f=>
   rcases h2.df.fX b f hm with h1|h1
   ·have h3:g.M b=some f:=h1;rw[(hf.lt b hb).2.1]at h3;cases h3
   ·have h3:w.heap.size<=b:=h1;have:=(hf.lt b hb).1;omega
 have iW:∀b,T b->w2.heap[b]? =w.heap[b]? :=λb hb=>h2.below.block b (hf.lt b hb).1 (λhm=>hm.elim (hT b hb) (λhm=>hm (hf.lt b hb).2.1));refine⟨h.af6 h2 (h2.later rfl rfl rfl (λ_ hb=>hb)) bG bG h2.df.eV,⟨λi x b hi hl hb ht=>hT b ht (h2.om hi hl hb).2,λr row v gb hr hl hv aW ht=>hT gb ht (h2.oG hr hl hv aW).2,λd hd D hD ht=> ?_,λx hx ht=> ?_,λb hb=>⟨xB (hf.lt b hb).1 h2.below.size,hM b hb,(hf.lt b hb).2.2.1, ?_⟩⟩,iW⟩
 ·obtain⟨D',hB,e,_⟩:=h2.df.cW.2 d hd;rw[e]at hD;cases hD;exact hT D ht hB
 ·rcases h2.eD x hx with h1|h1
  ·exact hf.sx x h1 ht
  ·exact hT _ ht h1
 ·have hh:=(hf.lt b hb).2.2.2;unfold eb at hh⊢;rw[iW b hb];exact hh
end
section
variable {J:Type} (BJ:J->(Nat->Prop)->World->Prop)
def xw:Prop:=∀j T w w',BJ j T w->(∀b,T b->w'.heap[b]? =w.heap[b]?)->BJ j T w'
def RB (c:Ctx)(j:J)(s:St)(a:Act)(w:World):Prop:=∃g T,RG c s a w g/\rk c T s a w g/\BJ j T w
def eK (c:Ctx)(code:Code)(Q:Exit->St->J->Prop)(s:St)(j:J):Prop:=
 ∀a w,RB BJ c j s a w->code.wpIn c.F 0 c.P (λe a' w'=>∃s' j',RB BJ c j' s' a' w'/\Q e s' j') a w
end
section
variable {J:Type} {BJ:J->(Nat->Prop)->World->Prop} {c:Ctx} {Q:Exit->St->J->Prop} {s:St} {j:J} {a:Act} {w:World}
theorem RB.step (mn:xw BJ)(hr:RB BJ c j s a w):∃c':Ctx,c'.P=c.P/\c'.l=c.l/\c'.β0.length=s.bx.length/\(∃w' S' M' o' b',c'=⟨c.P,w',S',M',c.l,o',b'⟩)/\R c' s a w/\∀s2 a2 w2,R c' s2 a2 w2->RB BJ c j s2 a2 w2:=by
 obtain⟨g,T,hg,hf,hj⟩:=hr;refine⟨c.aside T w g,rfl,rfl,hg.lβ,⟨_,_,_,_,_,rfl⟩,⟨g,hg.aside hf⟩,λs2 a2 w2 ⟨g2,h2⟩=> ?_⟩;obtain⟨e1,e2,e3⟩:=hf.back hg h2;exact⟨g2,T,e1,e2,mn _ _ _ _ hj e3⟩
theorem lI (mn:xw BJ){code:Code}(h:∀(w1:World) (S1:Addr->Prop) (M1:MM) (o1:Nat->Prop) (b1:List Nat),b1.length=s.bx.length->az ⟨c.P,w1,S1,M1,c.l,o1,b1⟩ code (λe s'=>Q e s' j) s):eK BJ c code Q s j:=by
 intro a w hr;obtain⟨c',h1,h2,h3,⟨w1,S1,M1,o1,b1,rfl⟩,h5,h6⟩:=hr.step mn;exact wpIn_mono (h w1 S1 M1 o1 b1 h3 a w h5) λe a' w' ⟨s',r,q⟩=>⟨s',j,h6 _ _ _ r,q⟩
theorem eK.mono {code:Code}{Q':Exit->St->J->Prop}(h:eK BJ c code Q s j)(hq:∀e s j,Q e s j->Q' e s j):eK BJ c code Q' s j:=
 λa w hr=>wpIn_mono (h a w hr) λ_ _ _ ⟨s',j',r,q⟩=>⟨s',j',r,hq _ _ _ q⟩
def Nh (K:St->J->Prop)(Q:Exit->St->J->Prop):Exit->St->J->Prop
 | .normal,s,j=>K s j
 |e,s,j=>Q e s j
def R6 (id:Nat)(Q:Exit->St->J->Prop):Exit->St->J->Prop
 | .exit j6,s,j=>if j6=id then Q .normal s j else Q (.exit j6) s j
 |e,s,j=>Q e s j
theorem agB (h:Q .ret s j):eK BJ c .ret Q s j:=λ_ _ hr=>wpIn_ret ⟨s,j,hr,h⟩
theorem ny {x y:Code}(h:eK BJ c x (Nh (λs' j'=>eK BJ c y Q s' j') Q) s j):eK BJ c (.seq x y) Q s j:=by
 intro a w hr;refine wpIn_seq (wpIn_mono (h a w hr) ?_);rintro e a' w' ⟨s',j',r,q⟩;cases e with
 |normal=>exact q a' w' r
 |exit id=>exact⟨s',j',r,q⟩
 |goto l=>exact⟨s',j',r,q⟩
 |ret=>exact⟨s',j',r,q⟩
 |panic ch=>exact⟨s',j',r,q⟩
 |outgrown=>exact⟨s',j',r,q⟩
theorem B8 {id:Nat}{x:Code}(h:eK BJ c x (R6 id Q) s j):eK BJ c (.block id x) Q s j:=by
 intro a w hr;refine wpIn_block (wpIn_mono (h a w hr) ?_);rintro e a' w' ⟨s',j',r,q⟩;cases e with
 |normal=>exact⟨s',j',r,q⟩
 |exit j6=>
  simp only[R6]at q;simp only[Exit.inBlock];split at q
  ·rw[if_pos (by assumption)];exact⟨s',j',r,q⟩
  ·rw[if_neg (by assumption)];exact⟨s',j',r,q⟩
 |goto l=>exact⟨s',j',r,q⟩
 |ret=>exact⟨s',j',r,q⟩
 |panic ch=>exact⟨s',j',r,q⟩
 |outgrown=>exact⟨s',j',r,q⟩
def sr (BJ:J->(Nat->Prop)->World->Prop)(c:Ctx)(o:Oper)(s:St)(j:J)(K:St->J->Prop):Prop:=
 ∀(a:Act) (w:World) (N':Act->World->Prop) (Q':Exit->Act->World->Prop),RB BJ c j s a w->(∀s j a w,RB BJ c j s a w->K s j->N' a w)->o.wpIn c.F 0 c.P a w N' Q'
theorem B7 (mn:xw BJ){id:Nat}{l:List Oper}(n:Nat){y:Oper}(At:(St->J->Prop)->St->J->Prop)(hy:∀(N:St->J->Prop) (s1:St) (j1:J),At N s1 j1->sr BJ c y s1 j1 N)
  (hl:l=l.take n++y::l.drop (n + 1))(cK:y.guard=none)
  (h:∀K1:St->Prop,(∀s1,At (λs2 j2=>cq c.P l (l.drop (n + 1)) s2 (λs3=>Q .normal s3 j2)) s1 j->K1 s1)->cq c.P l (l.take n) s K1):
  eK BJ c (.region id l.toArray false) Q s j:=by
 intro a w hr;refine wpIn_region_lit ?_;rw[hl];rw[hl]at h;have kZ:(l.take n++y::l.drop (n + 1)).take n=l.take n:=by rw[<-hl]
 have fH:(l.take n++y::l.drop (n + 1)).drop (n + 1)=l.drop (n + 1):=by rw[<-hl]
 rw[kZ,fH]at h;generalize l.take n=l1 at *;generalize l.drop (n + 1)=l2 at *;obtain⟨c',_,_,_,⟨w1,S1,M1,o1,b1,rfl⟩,h5,h6⟩:=hr.step mn;refine pQ (c:=⟨c.P,w1,S1,M1,c.l,o1,b1⟩) (λs1 a1 w1 hH ba=> ?_) l1 s a w h5 (h _ (λs1 h1=>h1));show wpListIn c.F 0 c.P _ _ (y::l2) a1 w1;unfold wpListIn;rw[if_pos (by simp[d_,cK])];refine hy _ s1 j ba a1 w1 _ _ (h6 _ _ _ hH) (λs3 j3 a3 w3 kz mZ=> ?_);obtain⟨c2,_,_,_,⟨w2,S2,M2,o2,b2,rfl⟩,g5,g6⟩:=kz.step mn;exact n9 (c:=⟨c.P,w2,S2,M2,c.l,o2,b2⟩) (K:=λs2=>Q .normal s2 j3) (λs4 a4 w4 oU pL=>⟨s4,j3,g6 _ _ _ oU,pL⟩) l2 _ _ _ g5 mZ
end
end Go.Ab
end
section
namespace Go.Ab
open Go.RowKit Go
section
variable {J:Type} {BJ:J->(Nat->Prop)->World->Prop}
variable {c c2:Ctx} {s s2 st:St} {a a2:Act} {w W W2:World} {g g2:Gh}
def JB (BJ:J->(Nat->Prop)->World->Prop)(c:Ctx)(a:Act)(L D:Nat)(st:St)(j:J)(r:Loop):Inv:=λT S M W=>∃(g:Gh) (T0:Nat->Prop),g.S=S/\g.M=M/\RG c st a W g/\xW (c:=c) T st a W g/\W.heap[L]? =some (.loop r)/\W.heap[D]? =some (.deferred (some []))/\(∀b,T b->b≠L/\b≠D)/\
 rk c T0 st a W g/\BJ j T0 W/\∀b,T0 b->¬T b
theorem JB.jj {L D:Nat}{j:J}{r:Loop}{T:Nat->Prop}{S:Addr->Prop}{M:MM}(h:JB BJ c a L D st j r T S M W):JJ c a L D st r T S M W:=by
 obtain⟨g,T0,h1,h2,h3,h4,h5,h6,h7,_⟩:=h;exact⟨g,h1,h2,h3,h4,h5,h6,h7⟩
theorem eb.eq {W W':World}{b:Nat}(h:eb W b)(e:W'.heap[b]? =W.heap[b]?):eb W' b:=by
 unfold eb at h⊢;rw[e];exact h
theorem agW (mn:xw BJ){L D:Nat}{j:J}{r:Loop}:Abides (JB BJ c a L D st j r):=by
 rintro T S M W T' S' M' W' ⟨g,T0,rfl,rfl,hg,hf,hL,hD,hT,hb,hj,hd⟩ hi;obtain⟨h1,h2⟩:=hg.PB hf hi;have hl:=(bJ.1 hL).1;have Bs:=(bJ.1 hD).1;have iW:∀b,T0 b->W'.heap[b]? =W.heap[b]? :=λb h0=>hi.below.block b (hb.lt b h0).1 (λh=>h.elim (hd b h0) (λh=>h (hb.lt b h0).2.1));refine⟨_,T0,rfl,rfl,h1,h2, ?_, ?_,λb hb=> ?_,⟨λi x b fk kH bT=> ?_,λr' row v gb cH kH hv aW=>hb.rw r' row v gb cH kH hv aW,hb.df,λx hx h0=> ?_,λb h0=>⟨xB (hb.lt b h0).1 hi.below.size, ?_,(hb.lt b h0).2.2.1,(hb.lt b h0).2.2.2.eq (iW b h0)⟩⟩,mn _ _ _ _ hj iW,λb h0 ht=> ?_⟩
 ·exact(hi.below.block L hl (λh=>h.elim (λh=>(hT L h).1 rfl) (λh=>h (hg.df.cb.yv hL)))).trans hL
 ·exact(hi.below.block D Bs (λh=>h.elim (λh=>(hT D h).2 rfl) (λh=>h (hg.df.cb.uC hD)))).trans hD
 ·rcases hi.t1 b hb with h|h
  ·exact hT b h
  ·exact⟨ag,ag⟩
 ·exact hb.bx i x b fk kH bT
 ·rcases hi.s2 x hx with h|h|h
  ·exact hb.sx x h h0
  ·exact hd _ h0 h
  ·have:=(hb.lt _ h0).1;omega
 ·cases hm:M' b with
  |none=>exact hm
  |some f=>
   rcases hi.m2 b f hm with h|h
   ·rw[(hb.lt b h0).2.1]at h;cases h
   ·have:=(hb.lt b h0).1;omega
 ·rcases hi.t1 b ht with h|h
  ·exact hd b h0 h
  ·have:=(hb.lt b h0).1;omega
theorem XJ (mn:xw BJ){T:Nat->Prop}{L D nb:Nat}{r r2 rB:Loop}{W3:World}{g3:Gh}{s3:St}{a3:Act}{aF:List Bx}{aL:List Row}{T3:Nat->Prop}{j3:J}(h:RG c st a W g)(hf:xW (c:=c) T st a W g)(hL:W.heap[L]? =some (.loop r))(hD:W.heap[D]? =some (.deferred (some [])))
  (hT:∀b,T b->b≠L/\b≠D)(BF:c.w0.heap.size<=L)(kB:st.bx.length=nb)
  (h3:RG c2 s3 a3 W3 g3)(hβ:c2.β0=g.β)(bG:∀b,c2.own b->W.heap.size<=b\/(c.own b/\¬T b/\eb W b))
  (hl:mI (λb=>W.heap.size<=b\/b=L\/(c.own b/\¬T b/\eb W b)) W g W3 g3)(mj:W3.heap[L]? =some (.loop rB))
  (fY:∀m,Names st.bx.length 0 (st.sl m))(hle:Le s3 ⟨st.n,eC,aF,aL⟩)(hlen:aF.length=nb)(eT:(⟨st.n,eC,aF,aL⟩:St).named)
  (k6:rk c2 T3 s3 a3 W3 g3)(Hd:BJ j3 T3 W3):
  ∃S' M',xX T g.S g.M W S' M' (W3.putObj L (.loop r2))/\JB BJ c a L D ⟨st.n,st.sl,aF,aL⟩ j3 r2 T S' M' (W3.putObj L (.loop r2)):=by
 have bo:c.w0.heap.size<=W.heap.size:=h.below.size;have qQ:=(bJ.1 hL).1;have jn:=(bJ.1 hD).1;have Bw:c2.β0.length<=aF.length:=by rw[hβ,h.lβ,kB,hlen];exact cx _
 have h4:=h3.le hle eT Bw;have abh:∀(i b:Nat),(g3.β.take (⟨st.n,eC,aF,aL⟩:St).bx.length)[i]? =some b->g3.β[i]? =some b:=λi b hb=>by
  rw[ib]at hb;split at hb
  ·exact hb
  ·cases hb
 have abe:∀(i:Nat) (b:Value),(g3.ρ.take (⟨st.n,eC,aF,aL⟩:St).rw.length)[i]? =some b->g3.ρ[i]? =some b:=λi b hb=>by
  rw[ib]at hb;split at hb
  ·exact hb
  ·cases hb
 have acb:∀(i:Nat) (x:Bx),aF[i]? =some x->s3.bx[i]? =some x:=λi x hx=>by
  obtain⟨t,ht⟩:=hle.bx;rw[ht,cZ (by have:=(bm.1 hx).1;simpa using this)];exact hx
 have abt:∀(i:Nat) (x:Row),aL[i]? =some x->s3.rw[i]? =some x:=λi x hx=>by
  obtain⟨t,ht⟩:=hle.rw;rw[ht,cZ (by have:=(bm.1 hx).1;simpa using this)];exact hx
 generalize wK:(⟨g3.S,g3.β.take (⟨st.n,eC,aF,aL⟩:St).bx.length,g3.ρ.take (⟨st.n,eC,aF,aL⟩:St).rw.length,g3.M⟩:Gh)=g4 at h4;have eS:g4.S=g3.S:=by rw[<-wK]
 have eM:g4.M=g3.M:=by rw[<-wK]
 have eβ:∀(i b:Nat),g4.β[i]? =some b->g3.β[i]? =some b:=λi b hb=>abh i b (by rw[<-wK]at hb;exact hb);have eρ:∀(i:Nat) (b:Value),g4.ρ[i]? =some b->g3.ρ[i]? =some b:=λi b hb=>abe i b (by rw[<-wK]at hb;exact hb);have wH:mI (λb=>W.heap.size<=b\/b=L\/(c.own b/\¬T b/\eb W b)) W g W3 g4:=
  ⟨hl.below,hl.kp,eS▸hl.s1,eS▸hl.s2,eM▸hl.m1,eM▸hl.m2⟩
 have yX:∀(i b:Nat),g.β[i]? =some b->g4.β[i]? =some b:=λi b hb=>h4.df.eV i b (hβ▸hb);have yV:=h.back h4 wH (λb hb=>by
   rcases hb with hb|rfl|hb
   ·exact h.cY b (gj bo hb)
   ·exact h.cY _ BF
   ·exact hb.1) (λb hb=>by
   rcases bG b hb with hb|hb
   ·exact h.cY b (gj bo hb)
   ·exact hb.1) yX fY (λd hd D' lG hp=>by
   obtain⟨D2,_,rfl,eU⟩:=h.df.cW.2 d hd;cases lG;rcases hp with hp|rfl|⟨_,_,hp⟩
   ·have:=(bJ.1 eU).1;omega
   ·rw[hL]at eU;cases eU
   ·exact eb.not eU rfl ay hp)
 have Hk:zS c.own (W3.putObj L (.loop r2)) a.defers:=⟨h.df.cW.1,λd hd=>by
  obtain⟨D2,hB,rfl,eU⟩:=yV.df.cW.2 d hd;exact⟨D2,hB,rfl,(mB (λe=>by subst e;rw[mj]at eU;cases eU)).trans eU⟩⟩
 have h5:RG c ⟨st.n,st.sl,aF,aL⟩ a (W3.putObj L (.loop r2)) g4:=yV.sJ mj rfl ay (h.cY _ BF) rfl Hk;have im:=wH.trans (Df (g:=g4) h4.bt mj (.inr (.inl rfl)) (.loop r2)) (λb hb=> .inl hb);have BC:∀b,T b->¬(W.heap.size<=b\/b=L\/(c.own b/\¬T b/\eb W b)):=λb hb hp=>by
  rcases hp with hp|hp|hp
  ·have:=(hf.lt b hb).1;omega
  ·exact(hT b hb).1 hp
  ·exact hp.2.1 hb
 have GO:∀x,g4.S x->T x.block->g.S x:=λx hx ht=>(im.s2 x hx).elim id (λh1=>(BC _ ht h1).elim);have yZ:∀b,c2.own b->¬T b:=λb hb ht=>by
  rcases bG b hb with h1|h1
  ·have:=(hf.lt b ht).1;omega
  ·exact h1.2.1 ht
 have BD:∀b,T b->g4.M b=none:=λb hb=>by
  cases hm:g4.M b with
  |none=>rfl
  |some f=>
        rcases im.m2 b f hm with h1|h1
        ·rw[(hf.lt b hb).2.1]at h1;cases h1
        ·have:=(hf.lt b hb).1;omega
 have hD3:(W3.putObj L (.loop r2)).heap[D]? =some (.deferred (some [])):=by
  refine(im.below.block D jn (λhn=>hn.elim (λhp=> ?_) (λhn=>hn (h.df.cb.uC hD)))).trans hD;rcases hp with hp|rfl|⟨_,_,hp⟩
  ·omega
  ·rw[hL]at hD;cases hD
  ·exact eb.not hD rfl ay hp
 have aco:∀b,T3 b->b≠L:=λb hb e=>by
  subst e;exact eb.not mj rfl ay (k6.lt b hb).2.2.2
 have iW:∀b,T3 b->(W3.putObj L (.loop r2)).heap[b]? =W3.heap[b]? :=λb hb=>mB (λe=>aco b hb e);refine⟨g4.S,g4.M,⟨im.below.os,im.below.tape,im.below.output,im.below.size,λb hb=>im.below.block b (hf.lt b hb).1 (λh=>h.elim (BC b hb) (λh=>h (hf.lt b hb).2.1)),im.kp,im.s1,GO,(λ_=>h5.df.fj.at h5.below),im.m1,BD,h5.df.cb,h5.bt⟩,
  g4,T3,rfl,rfl,h5,⟨λi x b hi hx hb=>yZ b (h4.om (x:=x) hi hx hb).2,λr row v gb hr hl hv aW=>yZ gb (h4.oG hr hl hv aW).2,hf.df,λb hb=>⟨xB (hf.lt b hb).1 im.below.size,BD b hb,(hf.lt b hb).2.2⟩⟩,
  IE (bJ.1 mj).1,hD3,hT,
  ⟨λi x b hi hx hb=>k6.bx i x b (acb i x hi) hx (eβ i b hb),λr row v gb hr hl hv aW=>k6.rw r row v gb (abt r row hr) hl (eρ r v hv) aW,λd hd D' lG ht=> ?_,λx hx=>k6.sx x (eS▸hx),λb hb=>⟨by simpa using(k6.lt b hb).1,by rw[eM];exact(k6.lt b hb).2.1, ?_,(k6.lt b hb).2.2.2.eq (iW b hb)⟩⟩,
  mn _ _ _ _ Hd iW,λb hb=>yZ b (k6.lt b hb).2.2.1⟩
 ·obtain⟨D2,_,rfl,eU⟩:=yV.df.cW.2 d hd;cases lG;exact eb.not eU rfl ay (k6.lt _ ht).2.2.2
 ·rcases bG b (k6.lt b hb).2.2.1 with h1|h1
  ·exact h.cY b (gj bo h1)
  ·exact h1.1
end
def XL {J:Type}(n nb:Nat)(fv:Nat->D)(aF:List Bx)(aL:List Row)(j':J)(Q:Exit->St->J->Prop):Exit->St->J->Prop
 | .normal,s',j=>Le s' ⟨n,eC,aF,aL⟩/\j=j'
 |_,_,_=>False
section
variable {J:Type} {BJ:J->(Nat->Prop)->World->Prop}
variable {P:Program} {w0:World} {S0:Addr->Prop} {M0:MM} {own:Nat->Prop} {β0:List Nat}
theorem agC (mn:xw BJ){gx:Operand}{ps:Array Tmp}{assign body:Code}{Q:Exit->St->J->Prop}{s:St}{gf:FuncId}{cs dp:List D}{xs:List (List D)}(j:Nat->J)
  (hg:s.ev gx= .aD gf cs)(hp:gJ s.bx s.rw cs=some dp)(hI:Iter P gf dp xs)(gU:∀x∈xs,x.length=ps.size)(lz:∀p∈ps.toList,p < s.n)
  (fv:Nat->D)(bx:Nat->List Bx)(rw:Nat->List Row)(nb:Nat)(hle:Le s ⟨s.n,fv,bx 0,rw 0⟩)(fY:∀m,Names nb 0 (fv m))
  (kB:∀k,k<=xs.length->(bx k).length=nb)(eT:∀k,k<=xs.length->(⟨s.n,eC,bx k,rw k⟩:St).named)(hβ:β0.length<=nb)
  (round:∀(k:Nat) (x:List D),xs[k]? =some x->∀(w1:World) (S1:Addr->Prop) (M1:MM) (l:Nat) (o1:Nat->Prop) (b1:List Nat),b1.length=nb->
   eK BJ ⟨P,w1,S1,M1,some l,o1,b1⟩ assign (Nh (λs' j'=>∀(w2:World) (S2:Addr->Prop) (M2:MM) (o2:Nat->Prop),eK BJ ⟨P,w2,S2,M2,some l,o2,b1⟩ body (XL s.n nb fv (bx (k + 1)) (rw (k + 1)) (j (k + 1)) Q) s' j') (λ_ _ _=>False))
    ⟨s.n,pD ps.toList x fv,bx k,rw k⟩ (j k))
  (done:Q .normal ⟨s.n,fv,bx xs.length,rw xs.length⟩ (j xs.length)):eK BJ ⟨P,w0,S0,M0,none,own,β0⟩ (.rangeFunc gx ps assign body) Q s (j 0):=by
 obtain⟨c,hc⟩:∃c:Ctx,c=⟨P,w0,S0,M0,none,own,β0⟩:=⟨_,rfl⟩;rw[<-hc];have u_:c.P=P:=by rw[hc]
 have r7:c.F=Fence.wide:=by rw[hc];rfl
 intro a w hr;obtain⟨g,T0,gM,tB,hjs⟩:=hr;have hv:=gM.ev gx;rw[hg]at hv;generalize A4:a.eval gx=vx at hv;have G6:(⟨s.n,fv,bx 0,rw 0⟩:St).named:=⟨λm=>by
  have h1:=fY m;have mi:=kB 0 (cv _);simp only[mi];exact h1.OU,(eT 0 (cv _)).2⟩
 have GD:c.β0.length<=(⟨s.n,fv,bx 0,rw 0⟩:St).bx.length:=by rw[hc];simpa[kB 0 (cv _)]using hβ
 have h0:=gM.le hle G6 GD;cases hv with
 |aD _ _ vs _ kX A3=>
 obtain⟨vs⟩:=vs;obtain⟨e1,e2⟩:=vY hp;have DG:vs.length=dp.length:=by rw[e1];simpa using kX
 have G9:∀q x,dp[q]? =some x->Rel w ⟨g.S,[],[],g.M⟩ (vs.getD q Go.undef) x:=λq x hx=>by
  obtain⟨y,hy,ta⟩:=e2 q x hx;exact rC gM (by simpa using A3 q y hy) ta
 refine wpIn_rangeFunc ?_;intro fn tv;have wy:c.F.round=none:=by rw[r7];rfl
 rw[wy];obtain⟨rec,j9⟩:∃rec:LoopState->Option Code->Loop,rec=λst pe=>{state:=st,pending:=pe,fn,tmps:=a.tmps,params:=ps,assign,body,defers:=w.heap.size}:=⟨_,rfl⟩;obtain⟨W1,tC⟩:∃W1,(w.alloc (.deferred (some []))).alloc (.loop (rec .ready none))=W1:=⟨_,rfl⟩;have y9:W1.heap[w.heap.size + 1]? =some (.loop (rec .ready none)):=by
  rw[<-tC];have:=zA (w.alloc (.deferred (some []))) (.loop (rec .ready none));rwa [World.size_alloc]at this
 have aK:W1.heap[w.heap.size]? =some (.deferred (some [])):=by
  rw[<-tC];exact(Below.heap_alloc _ _ _ ay).trans (zA w _)
 have hO:Below w.heap.size w W1:=by rw[<-tC];exact(((Below.refl _ w).alloc (cx _) _).alloc ay _)
 have bo:c.w0.heap.size<=w.heap.size:=gM.below.size;have h1:=h0.world hO (λ_ h=>h) (λ_ h=> .inl h) (h0.bt.below hO);have tD:iN W1 g.M:=h1.df.cb;have HA:Good W1 g.S:=h1.bt;refine⟨w.heap.size + 1,[{target:= .collected w.heap.size,args:=#[]}],W1,{target:= .fn (.func gf) vs.toArray,args:=#[.func (.yield (w.heap.size + 1)) #[] #[]]},W1,gf,
  (Value.func (.yield (w.heap.size + 1)) #[] #[]::vs).toArray,W1, ?_, ?_, ?_, ?_,λh=>(by rw[r7]at h;cases h), ?_⟩
 ·rw[<-tC,j9];exact run_enterLoop_outer _ _ _ _ _
 ·simp only[resolve,A4];simp[go_sem]
 ·intro f' _;rw[r7];trivial
 ·have:=hI.1 (Value.func (.yield (w.heap.size + 1)) #[] #[]::vs).toArray W1;rw[u_];simp[invoke,go_sem];simpa using this
 rw[r7,u_];refine callsIn_wide.2 ((hI.2 g.S g.M W1 vs (h1.df.fj.at h1.below) HA tD DG (λq x hx=>(G9 q x hx).bb ⟨λy hy=>by
   obtain⟨u,hu⟩:=gM.bt y hy;obtain⟨cc,tt,ff,Bu⟩:=si hu;exact nz (hO.block _ (bJ.1 Bu).1),λ_ h=>h,λ_ _ h=>h,λ_ _ h=>h,λ_ _ h=>h⟩)
  (w.heap.size + 1) (λk T S M W=>k<=xs.length/\JB BJ c a (w.heap.size + 1) w.heap.size ⟨s.n,fv,bx k,rw k⟩ (j k) (rec .ready none) T S M W)
  (λ_ _ _ _ _=>False)
  (λk T S M W T' S' M' W' h hi=>⟨h.1,agW mn T S M W T' S' M' W' h.2 hi⟩)
  (λk T S M W T' S' M' W' h hi=>h.elim) ?_ ?_).mono ?_)
 ·
  rintro k T S M W args x hx ⟨hk,g1,T1,rfl,rfl,bM,hf,hL,hD,hT,kI,He,Qq⟩ hlen b9;have qF:x.length=ps.size:=gU x (fM hx);have nZ:k < xs.length:=(bm.1 hx).1;have r8:(bx k).length=nb:=kB k hk;have hy:=run_yield (P:=P) (args:=args.toArray) hL (by rw[j9];simp;omega);rw[j9]at hy;refine⟨fn,_,assign,body,hy,roundIn_of_wpIn trivial ?_⟩;have Bq:((ps.zip args.toArray).foldl (λt (p,v)=>t.setIfInBounds p v) a.tmps)=((ps.toList.zip args).foldl (λt (p,v)=>t.setIfInBounds p v) a.tmps):=by
   rw[<-Array.foldl_toList];simp
  obtain⟨q1,q2⟩:=FL (w:=W) (g:=g1) ps.toList x args fv a.tmps hlen (λq d hd=>(b9 q d hd).bb (HR _ _ _ _ _)) (λp hp=>by rw[bM.sz];exact lz p hp) (λm=>bM.sl m);have tw:=bM.enter hf (some (w.heap.size + 1)) (a':={tmps:=(ps.zip args.toArray).foldl (λt (p,v)=>t.setIfInBounds p v) a.tmps,defers:=[]}) (sl:=pD ps.toList x fv) rfl (by rw[Bq];exact q1) (by rw[Bq];exact q2);rw[u_]at tw;have acf:rk ⟨P,W,g1.S,g1.M,some (w.heap.size + 1),λb=>W.heap.size<=b\/(c.own b/\¬T b/\eb W b),g1.β⟩ T1 ⟨s.n,pD ps.toList x fv,bx k,rw k⟩ {tmps:=(ps.zip args.toArray).foldl (λt (p,v)=>t.setIfInBounds p v) a.tmps,defers:=[]} W g1:=
   ⟨kI.bx,kI.rw,λd hd=>(by cases hd),kI.sx,λb hb=>⟨(kI.lt b hb).1,(kI.lt b hb).2.1, .inr ⟨(kI.lt b hb).2.2.1,Qq b hb,(kI.lt b hb).2.2.2⟩,(kI.lt b hb).2.2.2⟩⟩
  have hA:=round k x hx W g1.S g1.M (w.heap.size + 1) _ g1.β (by rw[bM.lβ];exact r8) _ W ⟨g1,T1,tw,acf,He⟩;refine wpIn_mono hA ?_;rintro e a1 w1 ⟨s1,j1,⟨g2,T2,h2,tA,Qd⟩,hq⟩;cases e with
  |normal=>
   have Hx:=(bJ.1 hL).1;have BG:¬(W.heap.size<=w.heap.size + 1\/(c.own (w.heap.size + 1)/\¬T (w.heap.size + 1)/\eb W (w.heap.size + 1))):=λh=>by
    rcases h with h|⟨_,_,h⟩
    ·omega
    ·exact eb.not hL rfl ay h
   have ml:w1.heap[w.heap.size + 1]? =some (.loop (rec .ready none)):=(h2.below.block _ Hx (λh=>h.elim BG (λh=>h (bM.df.cb.yv hL)))).trans hL;have Ho:=run_beginRound (P:=P) ml (by rw[j9]);have lZ:=h2.NY (w':=w1.putObj (w.heap.size + 1) (.loop {rec .ready none with state:= .busy})) (FK ml) (N6 ml) ⟨h2.df.cW.1,λd hd=>by
    obtain⟨D2,hB,rfl,eU⟩:=h2.df.cW.2 d hd;exact⟨D2,hB,rfl,(mB (λe=>by subst e;rw[ml]at eU;cases eU)).trans eU⟩⟩ (λb hb=>h2.cY b (by have:=h2.below.size;simp only[World.putObj_size]at hb;exact gj this hb))
   have Qy:∀b,T2 b->(w1.putObj (w.heap.size + 1) (.loop {rec .ready none with state:= .busy})).heap[b]? =w1.heap[b]? :=λb hb=>mB (λe=>by
    subst e;exact eb.not ml rfl ay (tA.lt _ hb).2.2.2)
   have hB:=hq (w1.putObj (w.heap.size + 1) (.loop {rec .ready none with state:= .busy})) g2.S g2.M _ a1 _ ⟨g2,T2,lZ,⟨tA.bx,tA.rw,tA.df,tA.sx,λb hb=>⟨by simpa using(tA.lt b hb).1,(tA.lt b hb).2.1,(tA.lt b hb).2.2.1,(tA.lt b hb).2.2.2.eq (Qy b hb)⟩⟩,mn _ _ _ _ Qd Qy⟩;refine⟨_,Ho,wpIn_mono hB ?_⟩;rintro e a3 W3 ⟨s3,j3,⟨g3,T3,h3,ace,hj4⟩,mY⟩;have wU:(w1.putObj (w.heap.size + 1) (.loop {rec .ready none with state:= .busy})).heap[w.heap.size + 1]? =some (.loop {rec .ready none with state:= .busy}):=IE (bJ.1 ml).1;have wF:=(bJ.1 wU).1;have mj:W3.heap[w.heap.size + 1]? =some (.loop {rec .ready none with state:= .busy}):=(h3.below.block _ wF (λh=>h.elim BG (λh=>h (lZ.df.cb.yv wU)))).trans wU;have l1:mI (λb=>W.heap.size<=b\/b=w.heap.size + 1\/(c.own b/\¬T b/\eb W b)) W g1 w1 g2:=h2.later rfl rfl rfl (λb hb=>hb.elim .inl (λh=> .inr (.inr h)));have l2:=Df (p:=λb=>W.heap.size<=b\/b=w.heap.size + 1\/(c.own b/\¬T b/\eb W b)) h2.bt ml (.inr (.inl rfl)) (.loop {rec .ready none with state:= .busy});have l3:mI (λb=>W.heap.size<=b\/b=w.heap.size + 1\/(c.own b/\¬T b/\eb W b)) _ g2 W3 g3:=h3.later rfl rfl rfl (λb hb=>hb.elim .inl (λh=> .inr (.inr h)));have hl:=(l1.trans l2 (λb hb=> .inl hb)).trans l3 (λb hb=> .inl hb);cases e with
   |normal=>
    obtain⟨mY,rfl⟩:=mY;have he:=run_endRound (P:=P) none mj;obtain⟨S',M',f1,f2⟩:=XJ (st:=⟨s.n,fv,bx k,rw k⟩) (nb:=nb) (r2:=rec .ready none) mn bM hf hL hD hT ag r8 h3 rfl (λb hb=>hb) hl mj (by rw[show(⟨s.n,fv,bx k,rw k⟩:St).bx.length=nb from r8];exact fY) mY (kB _ nZ) (eT _ nZ) ace hj4;rw[j9]at he f1 f2⊢;exact⟨_,_,he,S',M',f1, .inl ⟨rfl,nZ,f2⟩⟩
   |ret=>exact mY.elim
   |exit id=>exact mY.elim
   |goto t=>exact mY.elim
   |panic ch=>exact mY.elim
   |outgrown=>exact mY.elim
  |exit id=>exact hq.elim
  |goto l=>exact hq.elim
  |ret=>exact hq.elim
  |panic ch=>exact hq.elim
  |outgrown=>exact hq.elim
 ·
  have abO:∀(i:Nat) (x:Bx),(bx 0)[i]? =some x->s.bx[i]? =some x:=λi x hx=>by
   obtain⟨t,ht⟩:=hle.bx;rw[ht,cZ (by have:=(bm.1 hx).1;simpa using this)];exact hx
  have abv:∀(i:Nat) (x:Row),(rw 0)[i]? =some x->s.rw[i]? =some x:=λi x hx=>by
   obtain⟨t,ht⟩:=hle.rw;rw[ht,cZ (by have:=(bm.1 hx).1;simpa using this)];exact hx
  have iW:∀b,T0 b->W1.heap[b]? =w.heap[b]? :=λb hb=>hO.block b (tB.lt b hb).1;refine⟨cv _,_,T0, ?_, ?_,h1,⟨λ_ _ _ _ _ _ h=>h,λ_ _ _ _ _ _ _ _ h=>h,λ_ _ _ _ h=>h,λ_ h=>h.elim⟩,y9,aK,λ_ h=>h.elim,
   ⟨λi x b hi hl hb=>tB.bx i x b (abO i x hi) hl ?_,λr row v gb hr hl hv aW=>tB.rw r row v gb (abv r row hr) hl ?_ aW,tB.df,tB.sx,λb hb=>⟨xB (tB.lt b hb).1 hO.size,(tB.lt b hb).2.1,(tB.lt b hb).2.2.1,(tB.lt b hb).2.2.2.eq (iW b hb)⟩⟩,mn _ _ _ _ hjs iW,λ_ _ h=>h⟩
  ·rfl
  ·rfl
  ·rw[ib]at hb;split at hb
   ·exact hb
   ·cases hb
  ·rw[ib]at hv;split at hv
   ·exact hv
   ·cases hv
 ·
  rintro e W2 ⟨⟨v,rfl⟩,T,S',M',⟨hk,hJ⟩|⟨k,hJ⟩⟩
  ·obtain⟨g1,T1,rfl,rfl,bM,hf,hL,hD,hT,kI,He,Qq⟩:=hJ;have h3:=run_endLoop (P:=P) hL (by rw[j9];simp);have acp:∀b,T1 b->b≠w.heap.size + 1:=λb hb e=>by
    subst e;exact eb.not hL rfl ay (kI.lt _ hb).2.2.2
   have acq:∀b,T1 b->b≠w.heap.size:=λb hb e=>by
    subst e;exact eb.not hD rfl ay (kI.lt _ hb).2.2.2
   have iW:∀b,T1 b->(W2.putObj (w.heap.size + 1) (.loop {rec .ready none with state:= .exhausted})).heap[b]? =W2.heap[b]? :=λb hb=>mB (λe=>acp b hb e);have h4:RB BJ c (j xs.length) ⟨s.n,fv,bx xs.length,rw xs.length⟩ {a with defers:={target:= .collected w.heap.size,args:=#[]}::a.defers} (W2.putObj (w.heap.size + 1) (.loop {rec .ready none with state:= .exhausted})):=by
    refine⟨g1,T1,bM.sJ hL rfl ay (bM.cY _ ag) rfl ⟨List.nodup_cons.2 ⟨λhm=> ?_,bM.df.cW.1⟩,λd hd=> ?_⟩,⟨kI.bx,kI.rw,λd hd D lG ht=> ?_,kI.sx,λb hb=>⟨by simpa using(kI.lt b hb).1,(kI.lt b hb).2.1,(kI.lt b hb).2.2.1,(kI.lt b hb).2.2.2.eq (iW b hb)⟩⟩,mn _ _ _ _ He iW⟩
    ·obtain⟨D',_,e,ed⟩:=gM.df.cW.2 _ hm;cases e;have:=(bJ.1 ed).1;omega
    ·rcases eX.1 hd with rfl|hd
     ·exact⟨w.heap.size,bM.cY _ bo,rfl,(mB ag).trans hD⟩
     ·obtain⟨D2,hB,rfl,eU⟩:=bM.df.cW.2 d hd;exact⟨D2,hB,rfl,(mB (λe=>by subst e;rw[hL]at eU;cases eU)).trans eU⟩
    ·rcases eX.1 hd with rfl|hd
     ·cases lG;exact acq _ ht rfl
     ·exact kI.df d hd D lG ht
   rw[j9]at h3 h4;exact⟨none,_,h3,_,_,h4,done⟩
  ·exact hJ.elim
end
end Go.Ab
end
section
namespace Go.Ab
open Go.RowKit Go
section
variable {c:Ctx} {T T':Nat->Prop} {s:St} {a:Act} {w w':World} {g:Gh}
theorem rk.sJ (h:RG c s a w g)(hf:rk c T s a w g)(l_:w'.os=w.os)(Du:w'.tape=w.tape)(Dy:w'.output=w.output)(bo:w.heap.size<=w'.heap.size)(hk:∀k,k < w.heap.size->¬T k->w'.heap[k]? =w.heap[k]?)
  (hT:∀b,T' b->T b\/w.heap.size<=b)(hl:∀b,T' b->eb w' b):RG c s a w' g/\rk c T' s a w' g:=by
 have hM:=h.df.cb;have hMT:∀b f,g.M b=some f->¬T b:=λb f hb ht=>by rw[(hf.lt b ht).2.1]at hb;cases hb
 have fI:∀x,g.S x->w'.cell? x=w.cell? x:=λx hx=>nz (hk _ (h.bt.lt hx) (hf.sx x hx));have k:ep w g w' g:=⟨fI,λ_ h=>h,λ_ _ h=>h,λ_ _ h=>h,λ_ _ h=>h⟩;have abN:c.w0.heap.size<=w.heap.size:=h.below.size;refine⟨⟨⟨⟨h.df.cW.1,λd hd=> ?_⟩,λb f hb=> ?_,h.df.m0,h.df.fX,h.df.eV,λx hx=>(fI x (h.S0 x hx)).trans (h.df.iA x hx),h.df.fj⟩,h.sz,⟨l_.trans h.below.os,Du.trans h.below.tape,Dy.trans h.below.output,gj h.below.size bo,λi hi hn=> ?_⟩,h.cY,λx hx=> ?_,h.eD,h.S0,h.fU,h.lβ,h.lρ,λn=>(h.sl n).bb k,λi cs hi=> ?_,λi cs hi=> ?_,λr row hr=> ?_,h.ap,λi es hi=> ?_⟩,⟨λi x b hi hx hb ht=> ?_,λr row v gb hr hx hv aW ht=> ?_,λd hd D hD ht=> ?_,λx hx ht=> ?_,λb hb=>⟨?_, ?_, ?_,hl b hb⟩⟩⟩
 ·obtain⟨D,hB,e,hD⟩:=h.df.cW.2 d hd;exact⟨D,hB,e,(hk D (bJ.1 hD).1 (hf.df d hd D (by rw[e]))).trans hD⟩
 ·obtain⟨es,cl,h1,h2⟩:=hM b f hb;exact⟨es,cl,(hk b (bJ.1 h1).1 (hMT b f hb)).trans h1,h2⟩
 ·by_cases ht:T i
  ·exact absurd (.inl (hf.lt i ht).2.2.1) hn
  ·exact(hk i ag ht).trans (h.below.block i hi hn)
 ·obtain⟨u,hu⟩:=h.bt x hx;exact⟨u,(fI x hx).trans hu⟩
 ·obtain⟨b,vs,t,e1,e2,e3,e4,e5⟩:=(h.bx i cs hi).ex;exact⟨b,vs,t,e1,(hk b (bJ.1 e2).1 (hf.bx i _ b hi rfl e1)).trans e2,e3.bb k,e4,e5⟩
 ·obtain⟨b,vs,t,e1,e2,e3,e4,e5⟩:=(h.fz i cs hi).ex;exact⟨b,vs,t,e1,(hk b (bJ.1 e2).1 (hf.bx i _ b hi rfl e1)).trans e2,e3.bb k.er,e4,e5⟩
 ·obtain⟨v,e1,e2,e3⟩:=(h.rw r row hr).ex;refine⟨v,e1,e2.bb k,λhl=> ?_⟩;obtain⟨⟨vals,bG⟩,bE,hS⟩:=e3 hl;refine⟨⟨vals,bG.1, ?_⟩,bE,hS⟩;rcases bG.2 with hn|⟨g2,cap,cur,rfl,fy,fw,rest⟩
  ·exact .inl hn
  ·exact .inr ⟨g2,cap,cur,rfl,fy,(hk g2 (bJ.1 fw).1 (hf.rw r row _ g2 hr hl e1 rfl)).trans fw,rest⟩
 ·obtain⟨b,hm⟩:=h.mp i es hi;exact⟨b,hm.bb k (hk b hm.lt (hf.bx i _ b hi rfl hm.β)) hm.nm⟩
 ·rcases hT b ht with h1|h1
  ·exact hf.bx i x b hi hx hb h1
  ·have:=(h.om hi hx hb).1;omega
 ·rcases hT gb ht with h1|h1
  ·exact hf.rw r row v gb hr hx hv aW h1
  ·have:=(h.oG hr hx hv aW).1;omega
 ·rcases hT D ht with h1|h1
  ·exact hf.df d hd D hD h1
  ·obtain⟨D',_,e,ed⟩:=h.df.cW.2 d hd;rw[e]at hD;cases hD
   have:=(bJ.1 ed).1;omega
 ·rcases hT _ ht with h1|h1
  ·exact hf.sx x hx h1
  ·have:=h.bt.lt hx;omega
 ·have hh:=hl b hb;rcases hh with⟨_,_,_,e⟩|⟨_,_,e⟩<;>exact(bJ.1 e).1
 ·cases hm:g.M b with
  |none=>rfl
  |some f=>
   obtain⟨es,cl,h1,_⟩:=hM b f hm;rcases hT b hb with h2|h2
   ·rw[(hf.lt b h2).2.1]at hm;cases hm
   ·have:=(bJ.1 h1).1;omega
 ·rcases hT b hb with h1|h1
  ·exact(hf.lt b h1).2.2.1
  ·exact h.cY b (gj abN h1)
end
end Go.Ab
end
