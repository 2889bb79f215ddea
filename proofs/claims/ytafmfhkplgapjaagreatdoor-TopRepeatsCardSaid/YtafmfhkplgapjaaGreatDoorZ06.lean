import Derived.Test.YtafmfhkplgapjaaGreatDoorZ05
set_option linter.unusedVariables false
set_option linter.unusedSimpArgs false
open Array renaming getElem?_eq_some_iff->bt,replicate->gW
open Go.Deferred renaming ofValue->pN
open List renaming getElem?_append_left->bQ,getElem?_eq_some_iff->aQ,getElem?_set_ne->gj,getElem?_set_self->jg,getElem?_take->iM,length_filter_le->XB,mem_cons->eK,mem_of_getElem?->ey
open Nat renaming le_refl->aY,le_trans->fu,lt_of_lt_of_le->uJ,not_le_of_lt->xW,not_lt_of_le->Js,zero_le->bD
open Go.Region renaming binds->gV,wanted->eh
open Go.Sem renaming run_bind->pL,run_pure->uI
open Go.World renaming alloc_heap_new->zK,cell?_of_block->pJ,putObj_heap_other->j7,putObj_heap_same->I5
section
namespace Go.Ab
open Go.RowKit
def uW:Op->Bool
 | .pick .. | .move _| .assign _| .alloc _| .box .. | .build .. | .buildSlice .. | .load .. | .store .. | .binOp .. | .unOp .. | .convert .. | .makeInterface .. | .makeFunc .. | .makeMap .. | .makeSlice ..
 | .slice .. | .fieldAddr .. | .field .. | .indexAddr .. | .index .. | .lookup .. | .mapUpdate .. | .insert .. | .extract .. | .call ⟨.builtin .append,_,_⟩| .call ⟨.builtin .len,_,_⟩| .call ⟨.builtin .copy,_,_⟩| .call ⟨.builtin .max,_,_⟩| .call ⟨.builtin .min,_,_⟩=>true
 |_=>false
def zF:Op->Bool
 | .call ⟨.value _,_,_⟩=>true
 |_=>false
theorem SD {P:Program}{ρ:Operand->Value}{o:Oper}{w w':World}{n:Next}(hc:uW o.op=true)(h:(execOp ρ o).run P w= .ok n w'):(∃v,n= .value v)\/n= .skip:=by
 obtain⟨dst,op,ty,pos,aft,gd⟩:=o;simp only at hc;unfold uW at hc;split at hc<;>first|(cases hc;done)|skip
 all_goals first
  |(exact .inl (IL h))
  |(exact .inr (Ws h))
  |(simp only[execOp,uI]at h;cases h;exact .inl ⟨_,rfl⟩)
  |(simp only[execOp]at h;rw[pL]at h;revert h;generalize(asBool _).run P w=r;cases r with
    |ok v w2=>intro h;simp only[Result.andThen_ok,uI]at h;cases h;exact .inl ⟨_,rfl⟩
    |halt x w2=>intro h;cases h)
  |(simp only[execOp,resolve,invoke,builtin,pure_bind]at h;exact .inl (IL h))
  |(simp only[execOp,resolve,invoke,builtin,pL,uI,Result.andThen_ok]at h;exact .inl (IL (by simpa[pL]using h)))
def Jp (n:Next):Prop:=(∃v,n= .value v)\/n= .skip\/∃f xs,n= .enter f xs
section
variable {c:Ctx} {l1 l2:List Deferred} {s:St} {a:Act} {w:World}
theorem abL {o:Oper}{K:St->Prop}{Q':Exit->Act->World->Prop}{N:Act->World->Prop}(hr:RX l1 l2 c s a w)(aM:aP c o s K)(En:∀cl,o.op≠ .defer cl)
  (hk:∀n w',(execOp a.eval o).run c.P w= .ok n w'->Jp n)(hN:∀s' a' w',RX l1 l2 c s' a' w'->K s'->N a' w'):o.wpIn c.F 0 c.P a w N Q':=by
 obtain⟨hd,hr⟩:=hr;have h:=aM {a with defers:=l2} w (λa' w'=>∃s',R c s' a' w'/\K s') (λ_ _ _=>False) hr (λs' a' w' h1 h2=>⟨s',h1,h2⟩);have il:∀v,(a.put o.dst v).defers=l1/\({a.put o.dst v with defers:=l2}:Act)=({a with defers:=l2}:Act).put o.dst v:=λv=>by
  cases o.dst with
  |none=>exact⟨hd,rfl⟩
  |some n=>exact⟨hd,rfl⟩
 obtain⟨h1,h2⟩:=h;refine⟨h1, ?_⟩;rw[Oper.semAt_eq _ _ _ En]at h2⊢;have he:({a with defers:=l2}:Act).eval=a.eval:=rfl;rw[he]at h2;cases aV:(execOp a.eval o).run c.P w with
 |ok n w'=>
  rw[aV]at h2;rcases hk n w' aV with⟨v,rfl⟩|rfl|⟨f,xs,rfl⟩
  ·obtain⟨s',e1,e2⟩:=h2;exact hN s' _ _ ⟨(il v).1,(il v).2▸e1⟩ e2
  ·obtain⟨s',e1,e2⟩:=h2;exact hN s' _ _ ⟨(il undef).1,(il undef).2▸e1⟩ e2
  ·rw[Oper.uponIn_enter]at h2⊢;refine⟨h2.1,h2.2.mono λe uV h=> ?_⟩;cases e with
   |returned v=>
    obtain⟨s',e1,e2⟩:=h;exact hN s' _ _ ⟨(il v).1,(il v).2▸e1⟩ e2
   |panicked ch=>exact h.elim
   |outgrown=>obtain⟨_,_,h⟩:=h;exact h.elim
 |halt x w'=>
  rw[aV]at h2;cases x<;>exact h2.elim
def JG (P:Program)(f:FuncId):Prop:=∀(args:Array Value) (w:World),(callFunc f args).run P w= .ok (.enter f args) w
theorem akH {o:Oper}{fx:Operand}{xs:Array Operand}{at_:Array TypeId}{k:FuncId->List D->List D->Prop}(ho:o.op= .call {callee:= .value fx,args:=xs,argTypes:=at_})
  (hr:RX l1 l2 c s a w)(hk:lW (s.ev fx) k)(Ee:∀f fs cs,k f fs cs->JG c.P f):∀n w',(execOp a.eval o).run c.P w= .ok n w'->Jp n:=by
 obtain⟨En,g,hg⟩:=hr;obtain⟨f,fs,cs,⟨vf⟩,⟨vs⟩,HM,hv,_⟩:=CC (hg.ev fx) hk;intro n w' h;have n4:a.eval fx= .func (.func f) vf.toArray vs.toArray:=hv;have ta:=Ee _ _ _ HM;simp[execOp,ho,resolve,n4,pN,invoke]at h;rw[ta]at h;cases h;exact .inr (.inr ⟨_,_,rfl⟩)
theorem aai {o:Oper}{K:St->Prop}(hr:RX l1 l2 c s a w)(aM:cZ c.P o s K)(hk:(uW o.op||zF o.op)=true):∀n w',(execOp a.eval o).run c.P w= .ok n w'->Jp n:=by
 intro n w' h;rcases Bool.or_eq_true_iff.1 hk with hk|hk
 ·rcases SD hk h with h|h
  ·exact .inl h
  ·exact .inr (.inl h)
 ·unfold zF at hk;split at hk<;>first|(cases hk;done)|skip
  rename_i fx xs at_ ho;unfold cZ at aM;rw[ho]at aM;obtain⟨hd,aM⟩:=aM;unfold eD at aM;simp only at aM;refine akH ho hr aM (λf fs cs h=> ?_) n w' h;obtain⟨ds,h1,d,⟨h2,_⟩,_⟩:=cM h;exact h2
theorem abJ {o:Oper}{K:St->Prop}{Q':Exit->Act->World->Prop}{N:Act->World->Prop}(hr:RX l1 l2 c s a w)(aM:cZ c.P o s K)(hk:(uW o.op||zF o.op)=true)(hN:∀s' a' w',RX l1 l2 c s' a' w'->K s'->N a' w'):o.wpIn c.F 0 c.P a w N Q':=
 abL hr (aP.of aM) (wE aM) (aai hr aM hk) hN
theorem Av {ops:Array Oper}{K:St->Prop}{Q:Exit->Act->World->Prop}{rest:List Oper}(hK:∀s a w,RX l1 l2 c s a w->K s->wpListIn c.F 0 c.P ops Q rest a w):
  ∀(l:List Oper) (s:St) (a:Act) (w:World),(l.all λo=>uW o.op||zF o.op)=true->RX l1 l2 c s a w->bZ c.P ops.toList l s K->wpListIn c.F 0 c.P ops Q (l++rest) a w
 |[],s,a,w,_,hr,h=>hK s a w hr h
 |o::l,s,a,w,hl,hr,h=>by
  simp only[List.all_cons,Bool.and_eq_true]at hl;obtain⟨kU,eN⟩:=hl;have A4:=hr;obtain⟨i_,g,hg⟩:=hr;have gQ:RG c s {a with defers:=l2} w g:=hg;have next:∀{s1:St},cZ c.P o s1 (λs'=>bZ c.P ops.toList l s' K)->s1=s->o.wpIn c.F 0 c.P a w (wpListIn c.F 0 c.P ops Q (l++rest)) Q:=λaM e=>by
   subst e;exact abJ A4 aM kU (λs' a' w' cW fW=>Av hK l s' a' w' eN cW fW)
  have il:∀v,(a.put o.dst v).defers=l1/\({a.put o.dst v with defers:=l2}:Act)=({a with defers:=l2}:Act).put o.dst v:=λv=>by
   cases o.dst with
   |none=>exact⟨i_,rfl⟩
   |some n=>exact⟨i_,rfl⟩
  unfold bZ at h;show wpListIn c.F 0 c.P ops Q (o::(l++rest)) a w;unfold wpListIn;split at h
  ·rename_i cP;rw[if_pos (by simp[eh,cP])];exact next h rfl
  ·rename_i j want cP;obtain⟨t,ht,h⟩:=cM h;cases hb:s.sl t<;>rw[hb]at h<;>simp only[wG]at h
   case skp=>
    have hy:=R.AI gQ ht hb;rw[if_neg (by simp only[eh,cP];simp only at hy;rw[hy];simp)];exact⟨λ_ _=>trivial,Av hK l _ _ _ eN ⟨(il undef).1,g,(il undef).2▸hg.put h.1 (.skp _)⟩ h.2⟩
   rename_i b;have hy:=R.yielded gQ ht hb;by_cases gS:b=want
   ·subst gS;rw[if_pos (by simp only[eh,cP];simp only at hy;rw[hy];simp)];exact next (h.1 rfl) (rH hb)
   ·have r9:b= !want:=by cases b<;>cases want<;>simp_all
    rw[if_neg (by simp only[eh,cP];simp only at hy;rw[hy];simp[gS])];obtain⟨hd,h2⟩:=h.2 r9;rw[<-r9,rH hb]at h2;exact⟨λ_ _=>trivial,Av hK l _ _ _ eN ⟨(il undef).1,g,(il undef).2▸hg.put hd (.skp _)⟩ h2⟩
theorem oG {id:Nat}{l:List Oper}{Q:Exit->St->Prop}(hl:(l.all λo=>uW o.op||zF o.op)=true)(h:∀K:St->Prop,(∀s',Q .normal s'->K s')->bZ c.P l l s K):fB l1 l2 c (.region id l.toArray false) Q s:=by
 intro a w hr;refine wpIn_region_lit ?_;have:=Av (c:=c) (ops:=l.toArray) (K:=Q .normal) (Q:=λe a' w'=>∃s',RX l1 l2 c s' a' w'/\Q e s') (rest:=[]) (λs a w hr hq=>⟨s,hr,hq⟩) l s a w hl hr (by simpa using h _ (λ_ h=>h));simpa using this
theorem I1 {s':St}{code:Code}{Q:Exit->St->Prop}(h:bX c s s')(hk:fB l1 l2 c code Q s'):fB l1 l2 c code Q s:=λa w hr=>hk a w ⟨hr.1,h _ _ hr.2⟩
theorem E9 {code:Code}{Q:Exit->St->Prop}{s:St}(s':St)(hl:Le s s')(hn:s'.named)(h0:c.β0.length<=s'.bx.length)(h:fB l1 l2 c code Q s'):fB l1 l2 c code Q s:=λa w hr=>h a w (hr.le hl hn h0)
theorem oI {id:Nat}{Q:Exit->St->Prop}(h:Q (.exit id) s):fB l1 l2 c (.exit id) Q s:=λ_ _ hr=>wpIn_exit ⟨s,hr,h⟩
end
end Go.Ab
end
section
namespace Go.Ab
open Go.RowKit
theorem als {c:Ctx}{id:Nat}{l:List Oper}{Q:Exit->St->Prop}{ι:Type}(hm:c.P.follows .mixedOrders=true)(hc:c.l=none)(hB:xC l.toArray=true)(n:Nat)(T:ι->fm)(b:Nat->D)(B:ι->(Nat->Bool)->List Bx)(W:ι->(Nat->Bool)->List Row)
  (ok:ι->(Nat->Bool)->Prop)(i0:ι)(h0:ok i0 λ_=>false)
  (step:∀i L j o,oz l.toArray L->ok i L->l[j]? =some o->L j=false->(∀e∈o.after,gV .any e=true->L e.on=true)->
   fS c l o ⟨n,bq L L (T i) b,B i L,W i L⟩ (λs'=>∃i',ok i' (more L j)/\bX c s' ⟨n,bq (more L j) (more L j) (T i') b,B i' (more L j),W i' (more L j)⟩))
  (done:∀i L,ok i L->(∀j,j < l.length->L j=true)->Q .normal ⟨n,bq L L (T i) b,B i L,W i L⟩):av c (.region id l.toArray true) Q ⟨n,bq (λ_=>false) (λ_=>false) (T i0) b,B i0 λ_=>false,W i0 λ_=>false⟩:=by
 intro a w hr;have hF:c.F=Fence.wide:=by unfold Ctx.F;rw[hc];rfl
 rw[hF];refine wpIn_region_any hm (N8 (λL a w=>oz l.toArray L/\∃i,ok i L/\R c ⟨n,bq L L (T i) b,B i L,W i L⟩ a w) (λi o ho=>Na hB ho) (λL k o ho hL xq a w hI=> ?_) (λL a w hL ⟨_,i,aW,hI⟩=>⟨_,hI,done i L aW (by simpa using hL)⟩) l.toArray.size _ a _ aO ?_ ?_)
 ·obtain⟨bf,i,aW,hI⟩:=hI;have h:=step i L k o bf aW (by simpa using ho) hL xq a w (λa w=>oz l.toArray (λj=>decide (j=k)||L j)/\∃i,ok i (λj=>decide (j=k)||L j)/\R c ⟨n,bq (λj=>decide (j=k)||L j) (λj=>decide (j=k)||L j) (T i) b,B i (λj=>decide (j=k)||L j),W i (λj=>decide (j=k)||L j)⟩ a w) (λe a w=>∃s',R c s' a w/\Q e s') hI (λs' a' w' cW ⟨i',cX,hk⟩=>⟨λj oj hj qo e he hb=> ?_,i',cX,hk _ _ cW⟩)
  ·rw[hF]at h;exact h
  ·simp only[Bool.or_eq_true,decide_eq_true_eq]at qo⊢;rcases qo with rfl|qo
   ·rw[ho]at hj;cases hj
    exact .inr (xq e he hb)
   ·exact .inr (bf j oj hj qo e he hb)
 ·exact fu (XB _ _) aO
 ·have e:(λj=>(gW l.toArray.size false).getD j false)=λ_=>false:=by
   funext j
   by_cases hj:j < l.length<;>simp[hj]
  rw[e];exact⟨λj o _ h=>(by cases h),i0,h0,RG.BH hr⟩
theorem aP.adW {c:Ctx}{s:St}{K:St->Prop}{gd:Option (Nat×Bool)}{t ty:TypeId}{x y:Operand}{dst:Option Tmp}{pos:String}{aft:Array Edge}(hx:s.ev x= .val (.slice none 0 0))
  (h:aP c ⟨dst, .call ⟨.builtin .append,#[.const (.slice none 0 0),y],#[t,t]⟩,ty,pos,aft,gd⟩ s K):aP c ⟨dst, .call ⟨.builtin .append,#[x,y],#[t,t]⟩,ty,pos,aft,gd⟩ s K:=by
 rintro a w N' Q' ⟨g,hg⟩ hN;have h1:=h a w N' Q' ⟨g,hg⟩ hN;have hv:=hg.ev x;rw[hx]at hv;generalize sZ:a.eval x=v at hv;cases hv;have rX:a.eval (.const (.slice none 0 0))= .slice none 0 0:=rfl;refine⟨λ_ _=>trivial, ?_⟩;have h2:=h1.2;rw[Oper.semAt_eq _ _ _ (by intro cl h;cases h)]at h2⊢;have e:execOp a.eval ⟨dst, .call ⟨.builtin .append,#[x,y],#[t,t]⟩,ty,pos,aft,gd⟩=execOp a.eval ⟨dst, .call ⟨.builtin .append,#[.const (.slice none 0 0),y],#[t,t]⟩,ty,pos,aft,gd⟩:=by
  simp[execOp,resolve,invoke,builtin,sZ,rX]
 rw[e];exact h2
end Go.Ab
end
section
namespace Go.Ab
open Go.RowKit
section
variable {c:Ctx} {s:St}
theorem GH (i q:Nat)(e:TypeId)(sz:Nat)(cs:List D)(hi:s.bx[i]? =some (.mu cs))(hq:cs[q]? =some (.val (.slice none 0 0))):bX c s {s with bx:=s.bx.set i (.mu (cs.set q (.own s.rw.length))),rw:=s.rw++[⟨true,e,sz,[]⟩]}:=by
 rintro a w ⟨g,hg⟩;refine⟨⟨g.S,g.β,g.ρ++[.slice none 0 0],g.M⟩, ?_⟩;have hp:=hg.C_ e sz;have eg:i < s.bx.length:=(aQ.1 hi).1;have jE:q < cs.length:=(aQ.1 hq).1;have hold:∀(j:Nat) (x:Bx),(s.bx.set i (.mu (cs.set q (.own s.rw.length))))[j]? =some x->(j=i/\x= .mu (cs.set q (.own s.rw.length)))\/(j≠i/\s.bx[j]? =some x):=λj x hj=>by
  by_cases bF:j=i
  ·subst bF;rw[jg eg]at hj;exact .inl ⟨rfl,(Option.some.inj hj).symm⟩
  ·rw[gj (Ne.symm bF)]at hj;exact .inr ⟨bF,hj⟩
 obtain⟨κ,k1,k2⟩:=hp.ap;refine⟨hp.df,hp.sz,hp.below,hp.cu,hp.ba,hp.en,hp.S0,hp.fJ,by simpa using hp.lβ,hp.lρ,hp.sl,λj ds hj=> ?_,λj ds hj=> ?_,hp.rw,⟨κ,λj x b hj hx hb=> ?_,k2⟩,λj es hj=>by
  rcases hold j _ hj with⟨_,e1⟩|⟨_,gp⟩
  ·cases e1
  ·exact hp.mp j es gp⟩
 ·rcases hold j _ hj with⟨rfl,e1⟩|⟨_,gp⟩
  ·cases e1;obtain⟨b,vs,t,f1,f2,f3,f4,f5,f6⟩:=(hp.bx j cs hi).ex;refine⟨b,vs,t,f1,f2,⟨by rw[List.length_set];exact f3.1,λp d hd=> ?_⟩,f4,f5,λhh=>by cases hh⟩;by_cases n5:p=q
   ·subst n5;rw[jg jE]at hd;cases hd;obtain⟨g1,g2⟩:=f3.2 p _ hq;refine⟨?_,g2⟩;generalize vs.getD p undef=v at g1;simp only[if_true]at g1⊢;cases g1;exact .own _ _ _ (by rw[<-hg.lρ];simp)
   ·rw[gj (Ne.symm n5)]at hd;exact f3.2 p d hd
  ·exact hp.bx j ds gp
 ·rcases hold j _ hj with⟨_,e1⟩|⟨_,gp⟩
  ·cases e1
  ·exact hp.fz j ds gp
 ·rcases hold j _ hj with⟨rfl,_⟩|⟨_,gp⟩
  ·exact k1 j _ b hi rfl hb
  ·exact k1 j x b gp hx hb
end
theorem ak.it {P:Program}{f:FuncId}{ds:List D}{d:D}(h:ak P f ds d):JG P f:=h.1
theorem aH.it {P:Program}{f:FuncId}{ds:List D}{bx:List Bx}{rw:List Row}{K:D->List Bx->List Row->Prop}(h:aH P f ds bx rw K):JG P f:=h.1
section
variable {c:Ctx} {l1 l2:List Deferred} {s:St}
theorem oJ {id:Nat}{x:Code}{Q:Exit->St->Prop}(h:fB l1 l2 c x (cj id Q) s):fB l1 l2 c (.block id x) Q s:=by
 intro a w hr;refine wpIn_block (wpIn_mono (h a w hr) ?_);rintro e a' w' ⟨s',r,q⟩;cases e with
 |normal=>exact⟨s',r,q⟩
 |exit nS=>
  simp only[cj]at q;simp only[Exit.inBlock];split at q
  ·rw[if_pos (by assumption)];exact⟨s',r,q⟩
  ·rw[if_neg (by assumption)];exact⟨s',r,q⟩
 |goto l=>exact⟨s',r,q⟩
 |ret=>exact⟨s',r,q⟩
 |panic ch=>exact⟨s',r,q⟩
 |outgrown=>exact⟨s',r,q⟩
theorem alg {body:Code}{Q:Exit->St->Prop}{ι:Type}(I:ι->St)(p:ι->Prop)(μ:ι->Nat)(hn:∀i,p i->(I i).named)(hβ:∀i,p i->c.β0.length<=(I i).bx.length)
  (i0:ι)(h0:p i0)(hle:Le s (I i0))
  (round:∀i,p i->fB l1 l2 c body (bH (λs'=>∃j,p j/\μ j < μ i/\Le s' (I j)) Q) (I i)):fB l1 l2 c (.loop body) Q s:=by
 intro a w hr;refine F4 (λi a w=>p i/\RX l1 l2 c (I i) a w) μ (λi a w ⟨hp,hr⟩=> ?_) i0 ⟨h0,hr.le hle (hn i0 h0) (hβ i0 h0)⟩;refine wpIn_mono (round i hp a w hr) ?_;rintro e a' w' ⟨s',r,q⟩;cases e with
 |normal=>obtain⟨j,hj,aG,hl⟩:=q;exact⟨j,⟨hj,r.le hl (hn j hj) (hβ j hj)⟩,aG⟩
 |exit id=>exact⟨s',r,q⟩
 |goto l=>exact⟨s',r,q⟩
 |ret=>exact⟨s',r,q⟩
 |panic ch=>exact⟨s',r,q⟩
 |outgrown=>exact⟨s',r,q⟩
theorem W6 {body:Code}{Q:Exit->St->Prop}{s:St}{ι:Type}{n:Nat}(l:ι->List (Nat×D))(bx:ι->List Bx)(rw:ι->List Row)(p:ι->Prop)(μ:ι->Nat)
  (hn:∀i,p i->((l i).all λq=>cq (bx i).length (rw i).length q.2)=true/\a7 (bx i).length (rw i).length (bx i)=true)
  (i0:ι)(h0:p i0)(hle:Le s (cR n (l i0) (bx i0) (rw i0)))
  (round:∀i,p i->fB l1 l2 c body (bH (λs'=>∃j,p j/\μ j < μ i/\Le s' (cR n (l j) (bx j) (rw j))) Q) ⟨n,(l i).foldr (λp f=>put f p.1 p.2) dJ,bx i,rw i⟩)(hβ:∀i,p i->c.β0.length<=(bx i).length):fB l1 l2 c (.loop body) Q s:=
 alg (λi=>cR n (l i) (bx i) (rw i)) p μ (λi hp=>ik (hn i hp).1 (hn i hp).2) hβ i0 h0 hle round
def lH (l1 l2:List Deferred)(c:Ctx)(ops:List Oper)(o:Oper)(s:St)(K:St->Prop):Prop:=
 ∀(a:Act) (w:World) (N':Act->World->Prop) (Q':Exit->Act->World->Prop),RX l1 l2 c s a w->(∀s a w,RX l1 l2 c s a w->K s->N' a w)->tG c.F c.P ops.toArray o a w N' Q'
theorem lH.of {ops:List Oper}{o:Oper}{K:St->Prop}(h:fS c ops o s K)(En:∀cl,o.op≠ .defer cl)(hk:∀a w n w',RX l1 l2 c s a w->(execOp a.eval o).run c.P w= .ok n w'->Jp n):lH l1 l2 c ops o s K:=λa w N' Q' hr hN=>by
 have h1:=h {a with defers:=l2} w (λa' w'=>∃s',R c s' a' w'/\K s') (λ_ _ _=>False) hr.2 (λs' a' w' h1 h2=>⟨s',h1,h2⟩);have il:∀v,(a.put o.dst v).defers=l1/\({a.put o.dst v with defers:=l2}:Act)=({a with defers:=l2}:Act).put o.dst v:=λv=>by
  cases o.dst with
  |none=>exact⟨hr.1,rfl⟩
  |some n=>exact⟨hr.1,rfl⟩
 unfold tG at h1⊢;simp only at h1;by_cases hw:eh o (Go.yielded ops.toArray a.tmps)=true
 ·rw[if_pos hw]at h1⊢;obtain⟨h2,h3⟩:=h1;refine⟨h2, ?_⟩;rw[Oper.semAt_eq _ _ _ En]at h3⊢;have he:({a with defers:=l2}:Act).eval=a.eval:=rfl;rw[he]at h3;cases aV:(execOp a.eval o).run c.P w with
  |ok n w'=>
   rw[aV]at h3;rcases hk a w n w' hr aV with⟨v,rfl⟩|rfl|⟨f,xs,rfl⟩
   ·obtain⟨s',e1,e2⟩:=h3;exact hN s' _ _ ⟨(il v).1,(il v).2▸e1⟩ e2
   ·obtain⟨s',e1,e2⟩:=h3;exact hN s' _ _ ⟨(il undef).1,(il undef).2▸e1⟩ e2
   ·rw[Oper.uponIn_enter]at h3⊢;refine⟨h3.1,h3.2.mono λe uV h=> ?_⟩;cases e with
    |returned v=>
     obtain⟨s',e1,e2⟩:=h;exact hN s' _ _ ⟨(il v).1,(il v).2▸e1⟩ e2
    |panicked ch=>exact h.elim
    |outgrown=>obtain⟨_,_,h⟩:=h;exact h.elim
  |halt x w'=>
   rw[aV]at h3;cases x<;>exact h3.elim
 ·rw[if_neg hw]at h1⊢;obtain⟨h2,s',e1,e2⟩:=h1;exact⟨h2,hN s' _ _ ⟨(il undef).1,(il undef).2▸e1⟩ e2⟩
theorem lH.Rw {ops:List Oper}{o:Oper}{K:St->Prop}(hk:uW o.op=true)(h:fS c ops o s K):lH l1 l2 c ops o s K:=
 lH.of h (by intro cl e;rw[e]at hk;cases hk) (λa w n w' _ aV=>(SD hk aV).elim .inl λh=> .inr (.inl h))
theorem lH.Ry {ops:List Oper}{K:St->Prop}{f:FuncId}{xs:Array Operand}{dst:Option Tmp}{at_:Array TypeId}{ty:TypeId}{pos:String}{aft:Array Edge}{gd:Option (Nat×Bool)}(hc:JG c.P f)
  (h:fS c ops ⟨dst, .call ⟨.value (.func f),xs,at_⟩,ty,pos,aft,gd⟩ s K):lH l1 l2 c ops ⟨dst, .call ⟨.value (.func f),xs,at_⟩,ty,pos,aft,gd⟩ s K:=
 lH.of h (by intro cl e;cases e) (λa w n w' _ aV=>by
  have hv:a.eval (.func f)= .func (.func f) #[] #[]:=rfl;simp[execOp,resolve,hv,pN,invoke]at aV;rw[hc]at aV;cases aV;exact .inr (.inr ⟨_,_,rfl⟩))
theorem alh {id:Nat}{l:List Oper}{Q:Exit->St->Prop}{ι:Type}(hm:c.P.follows .mixedOrders=true)(hc:c.l=none)(hB:xC l.toArray=true)(n:Nat)(T:ι->fm)(b:Nat->D)(B:ι->(Nat->Bool)->List Bx)(W:ι->(Nat->Bool)->List Row)
  (ok:ι->(Nat->Bool)->Prop)(i0:ι)(h0:ok i0 λ_=>false)
  (step:∀i L j o,oz l.toArray L->ok i L->l[j]? =some o->L j=false->(∀e∈o.after,gV .any e=true->L e.on=true)->
   lH l1 l2 c l o ⟨n,bq L L (T i) b,B i L,W i L⟩ (λs'=>∃i',ok i' (more L j)/\bX c s' ⟨n,bq (more L j) (more L j) (T i') b,B i' (more L j),W i' (more L j)⟩))
  (done:∀i L,ok i L->(∀j,j < l.length->L j=true)->Q .normal ⟨n,bq L L (T i) b,B i L,W i L⟩):fB l1 l2 c (.region id l.toArray true) Q ⟨n,bq (λ_=>false) (λ_=>false) (T i0) b,B i0 λ_=>false,W i0 λ_=>false⟩:=by
 intro a w hr;have hF:c.F=Fence.wide:=by unfold Ctx.F;rw[hc];rfl
 rw[hF];refine wpIn_region_any hm (N8 (λL a w=>oz l.toArray L/\∃i,ok i L/\RX l1 l2 c ⟨n,bq L L (T i) b,B i L,W i L⟩ a w) (λi o ho=>Na hB ho) (λL k o ho hL xq a w hI=> ?_) (λL a w hL ⟨_,i,aW,hI⟩=>⟨_,hI,done i L aW (by simpa using hL)⟩) l.toArray.size _ a _ aO ?_ ?_)
 ·obtain⟨bf,i,aW,hI⟩:=hI;have h:=step i L k o bf aW (by simpa using ho) hL xq a w (λa w=>oz l.toArray (λj=>decide (j=k)||L j)/\∃i,ok i (λj=>decide (j=k)||L j)/\RX l1 l2 c ⟨n,bq (λj=>decide (j=k)||L j) (λj=>decide (j=k)||L j) (T i) b,B i (λj=>decide (j=k)||L j),W i (λj=>decide (j=k)||L j)⟩ a w) (λe a w=>∃s',RX l1 l2 c s' a w/\Q e s') hI (λs' a' w' cW ⟨i',cX,hk⟩=>⟨λj oj hj qo e he hb=> ?_,i',cX,cW.1,hk _ _ cW.2⟩)
  ·rw[hF]at h;exact h
  ·simp only[Bool.or_eq_true,decide_eq_true_eq]at qo⊢;rcases qo with rfl|qo
   ·rw[ho]at hj;cases hj
    exact .inr (xq e he hb)
   ·exact .inr (bf j oj hj qo e he hb)
 ·exact fu (XB _ _) aO
 ·have e:(λj=>(gW l.toArray.size false).getD j false)=λ_=>false:=by
   funext j
   by_cases hj:j < l.length<;>simp[hj]
  rw[e];exact⟨λj o _ h=>(by cases h),i0,h0,RX.tick hr⟩
theorem lH.mono {ops:List Oper}{o:Oper}{K K':St->Prop}(h:lH l1 l2 c ops o s K)(hk:∀s,K s->K' s):lH l1 l2 c ops o s K':=
 λa w N' Q' hr hN=>h a w N' Q' hr λs a w hr hs=>hN s a w hr (hk s hs)
theorem ali {id:Nat}{l:List Oper}{Q:Exit->St->Prop}(hm:c.P.follows .mixedOrders=true)(hc:c.l=none)(hB:xC l.toArray=true)(n:Nat)(T:fm)(b:Nat->D)(B:(Nat->Bool)->List Bx)(W:(Nat->Bool)->List Row)
  (step:∀L j o,oz l.toArray L->l[j]? =some o->L j=false->(∀e∈o.after,gV .any e=true->L e.on=true)->
   lH l1 l2 c l o ⟨n,bq L L T b,B L,W L⟩ (λs'=>bX c s' ⟨n,bq (more L j) (more L j) T b,B (more L j),W (more L j)⟩))
  (done:∀L,(∀j,j < l.length->L j=true)->Q .normal ⟨n,bq L L T b,B L,W L⟩):fB l1 l2 c (.region id l.toArray true) Q ⟨n,bq (λ_=>false) (λ_=>false) T b,B λ_=>false,W λ_=>false⟩:=
 alh (ι:=Unit) hm hc hB n (λ_=>T) b (λ_=>B) (λ_=>W) (λ_ _=>True) () trivial (λ_ L j o h1 _ h2 h3 h4=>lH.mono (step L j o h1 h2 h3 h4) λs h=>⟨(),trivial,h⟩) (λ_ L _ h=>done L h)
end
end Go.Ab
end
section
namespace Go.Ab
open Go.RowKit
end Go.Ab
end
section
namespace Go.Ab
open Go.RowKit
section
variable {c:Ctx} {s:St}
theorem aet {ops l:List Oper}{QQ:Exit->Act->World->Prop}(n:Nat){y:Oper}(At:(St->Prop)->St->Prop)(hy:∀(N:St->Prop) (s1:St),At N s1->aP c y s1 N)
  (hl:l=l.take n++y::l.drop (n + 1))(cP:y.guard=none)(Rest:St->Prop)
  (hR:∀s3 a3 w3,R c s3 a3 w3->Rest s3->wpListIn c.F 0 c.P ops.toArray QQ (l.drop (n + 1)) a3 w3)
  (h:∀K1:St->Prop,(∀s1,At Rest s1->K1 s1)->bZ c.P ops (l.take n) s K1){a:Act}{w:World}(hr:R c s a w):wpListIn c.F 0 c.P ops.toArray QQ l a w:=by
 rw[hl];generalize l.take n=l1 at *;generalize l.drop (n + 1)=l2 at *;refine qv (c:=c) (ops:=ops.toArray) (λs1 a1 w1 fO cX=> ?_) l1 s a w hr (h _ (λs1 h1=>h1));show wpListIn c.F 0 c.P _ _ (y::l2) a1 w1;unfold wpListIn;rw[if_pos (by simp[eh,cP])];exact hy _ s1 cX a1 w1 _ _ fO hR
theorem I2 {Q:Exit->St->Prop}{id:Nat}{l:List Oper}(n m:Nat){y:Oper}{Nu:Option Tmp}{Rv:Op}{PB:TypeId}{Ra:String}{WX:Array Edge}{j2:Nat}{JY:Bool}
  (At:(St->Prop)->St->Prop)(hy:∀(N:St->Prop) (s1:St),At N s1->aP c y s1 N)
  (O3:(St->Prop)->St->Prop)(DL:∀(N:St->Prop) (s1:St),O3 N s1->aP c ⟨Nu,Rv,PB,Ra,WX,some (j2,JY)⟩ s1 N)
  (hl:l=l.take n++y::l.drop (n + 1))(cP:y.guard=none)
  (eN:l.drop (n + 1)=(l.drop (n + 1)).take m++⟨Nu,Rv,PB,Ra,WX,some (j2,JY)⟩::(l.drop (n + 1)).drop (m + 1))
  (h:∀K1:St->Prop,(∀s1,At (λs2=>∀K2:St->Prop,(∀s3,xL l j2 JY Nu O3 (λs4=>bZ c.P l ((l.drop (n + 1)).drop (m + 1)) s4 (λs5=>Q .normal s5)) s3->K2 s3)->bZ c.P l ((l.drop (n + 1)).take m) s2 K2) s1->K1 s1)->bZ c.P l (l.take n) s K1):
  av c (.region id l.toArray false) Q s:=by
 intro a w hr;refine wpIn_region_lit ?_;refine aet (c:=c) n At hy hl cP _ (λs3 a3 w3 jV nf=> ?_) h hr;refine aeu (c:=c) m O3 DL eN _ (λs4 a4 w4 lP qi=> ?_) nf jV;exact qu (c:=c) (K:=λs2=>Q .normal s2) (λs5 a5 w5 hr5 hk5=>⟨s5,hr5,hk5⟩) _ _ _ _ lP qi
end
end Go.Ab
end
section
namespace Go.Ab
open Go.RowKit
section
variable {c:Ctx} {s:St} {a:Act} {w:World} {g:Gh}
theorem EJ:∀{l:List D},(∀d∈l,∃z:Int,d= .int .i64 z)->flat l=l
 |[],_=>rfl
 |d::l,h=>by
  obtain⟨z,rfl⟩:=h d (List.mem_cons_self ..);show[D.int .i64 z]++flat l=_;rw[EJ λx hx=>h x (List.mem_cons_of_mem _ hx)];rfl
end
end Go.Ab
end
section
namespace Go.Ab
open Go.RowKit
theorem alD {P:Program}{S:Addr->Prop}{M:MM}{w:World}{args:List Value}{ds:List D}{n:Nat}(hT:lG w)(hS:Go.Ab.Good w S)(hM:jf w M)(hl:args.length=ds.length)(hn:ds.length<=n)(bw:∀q x,ds[q]? =some x->Rel w ⟨S,[],[],M⟩ (args.getD q Go.undef) x):
  RG ⟨P,w,S,M,none,λb=>w.heap.size<=b,[]⟩ ⟨n,kQ 0 ds,[],[]⟩ {tmps:=args.toArray++gW (n - args.toArray.size) undef,defers:=[]} w ⟨S,[],[],M⟩:=by
 refine⟨⟨⟨List.nodup_nil,λd hd=>by cases hd⟩,hM,λ_ _ h=>h,λ_ _ h=> .inl h,λi b h=>by simp at h,λ_ _=>rfl,hT.fresh hM⟩,by simp;omega, .of (Below.refl _ _),λ_ h=>h,hS,λ_ h=> .inl h,λ_ h=>h,hS,rfl,rfl, ?_, ?_, ?_, ?_, ?_, ?_⟩
 ·intro m;simp only;rw[tU];simp only[Nat.not_lt_zero,if_false,Nat.sub_zero];cases hd:ds[m]? with
  |none=>exact .undef _ _
  |some x=>
   have hm:=(aQ.1 hd).1;have:=bw m x hd;have e:(args.toArray++gW (n - args.toArray.size) undef).getD m undef=args.getD m undef:=by
    have:m < args.length:=ae;simp[Array.getElem?_append,this]
   rw[e];exact this
 ·intro i cs hi;simp at hi
 ·intro i cs hi;simp at hi
 ·intro i cs hi;simp at hi
 ·exact⟨λ_=> .inl 0,λi x b hi=>by simp at hi,λr row v gb hr=>by simp at hr⟩
 ·intro i es hi;simp at hi
theorem aP.fresh {c:Ctx}{s:St}{K:St->Prop}{fx:Operand}{xs:Array Operand}{dst:Option Tmp}{at_:Array TypeId}{ty:TypeId}{pos:String}{aft:Array Edge}{gd:Option (Nat×Bool)}{f:FuncId}{cs ds:List D}{row:Row}
  (hc:aH c.P f ds [] [] (λd _ aD=>d= .own 0/\aD=[row]))(D9:row.live=true)(hint:∀d∈row.xs,∃z:Int,d= .int .i64 z)(hd:bd s dst)(hx:s.ev fx= .ag f cs)
  (agY:∀(a:Act) (w:World) (g:Gh),RG c s a w g->∀vs:List Value,vs.length=cs.length->(∀q d,cs[q]? =some d->Rel w g (vs.getD q Go.undef) d)->(xs.toList.map a.eval++vs).length=ds.length/\∀q x,ds[q]? =some x->Rel w ⟨IW w,[],[],g.M⟩ ((xs.toList.map a.eval++vs).getD q Go.undef) x)
  (hk:K (St.put {s with rw:=s.rw++[row]} dst (.own s.rw.length))):aP c ⟨dst, .call ⟨.value fx,xs,at_⟩,ty,pos,aft,gd⟩ s K:=by
 rintro a w N' Q' ⟨g,h⟩ hN;obtain⟨ta,aw⟩:=hc;have ek:=h.ev fx;rw[hx]at ek;generalize LW:a.eval fx=vx at ek;cases ek with
 |ag _ _ vs _ hl hr=>
 refine gK (by intro cl h;cases h) ?_;have aV:(execOp a.eval ⟨dst, .call ⟨.value fx,xs,at_⟩,ty,pos,aft,gd⟩).run c.P w= .ok (.enter f (xs.toList.map a.eval++vs.toList).toArray) w:=by
  simp[execOp,resolve,LW,pN,invoke];rw[ta];simp
 obtain⟨hlen,bw⟩:=agY a w g h vs.toList (by simp[hl]) (λq d hq=>by
  have:=hr q d hq;simpa using this)
 have hi:=alD (P:=c.P) (S:=IW w) (M:=g.M) (w:=w) (args:=xs.toList.map a.eval++vs.toList) (ds:=ds) (n:=ds.length) (h.df.fD.at h.below) (λx hx=>hx) h.df.bO hlen (aY _) bw;have bf:=aw ⟨c.P,w,IW w,g.M,none,λb=>w.heap.size<=b,[]⟩ _ _ w _ (xs.toList.map a.eval++vs.toList) rfl hi rfl rfl hlen bw;unfold Oper.wp;rw[aV];refine bf.mono ?_;rintro e W' ⟨v,d,s2,a2,g2,rfl,h2,h3,rfl,ml⟩;obtain⟨v1,e1,e2,e3⟩:=(h2.rw 0 row (by rw[ml];rfl)).ex;cases h3 with
 |own _ _ _ hv=>
 rw[hv]at e1;cases e1;obtain⟨⟨vals,bI⟩,Ms,xw⟩:=e3 D9;have lj:∀gb,v.ownBlock=some gb->w.heap.size<=gb:=λgb aI=>(xw gb aI).1.elim id (λh=>h.1);have Es:sE g.M w.heap.size w W':=⟨h2.below.os,h2.below.tape,h2.below.output,h2.below.size,λk hk hn=>h2.below.block k hk (λh=>h.elim (λh=>h.elim (λh=>absurd h (xW hk)) (λh=>absurd h.1 (xW hk))) hn)⟩;obtain⟨S',EC⟩:∃S':Addr->Prop,S'=λx=>g.S x\/(g2.S x/\w.heap.size<=x.block):=⟨_,rfl⟩;have Bc:Grow w g.S g.M W' S' g2.M:=⟨Es,λx hx=>by rw[EC];exact .inl hx,λx hx=>by rw[EC]at hx;exact hx.imp id (·.2),h2.df.m0,h2.df.gw,h2.df.bO⟩;have od:Good W' S':=λx hx=>by
  rw[EC]at hx;rcases hx with hx|hx
  ·obtain⟨u,hu⟩:=h.ba x hx;exact⟨u,(Bc.ba h.df.bO h.ba x hx).trans hu⟩
  ·exact h2.ba x hx.1
 have h4:=h.grow Bc od;have af7:Rel W' ⟨S',g.β,g.ρ,g2.M⟩ v (.list row.xs):=by
  cases e2 with
  |list _ A n c2 _ sz u hn aR eO hm cV=>
   refine .list _ A n c2 _ sz u hn aR eO (λq hq=> ?_) (λq d hd=> ?_)
   ·obtain⟨ad,rfl,h5,h6,h7⟩:=hm q hq;refine⟨ad,rfl,h5, ?_,h7⟩;rw[EC];refine .inr ⟨h6, ?_⟩;have h8:(ad.add q).block=ad.block:=by unfold Addr.add;split<;>rfl
    rw[h8];exact lj ad.block rfl
   ·have h5:=cV q d hd;rw[EJ hint]at hd;obtain⟨z,rfl⟩:=hint d (ey hd);generalize u q=x at h5;cases h5;exact .int _ _ _
 have hp:=h4.QY (v:=v) (xs:=row.xs) (e:=row.e) (sz:=row.sz) (vals:=vals) af7 bI Ms (λgb aI=>⟨h.cu _ (fu h.below.size (lj gb aI)),λx hx hb=>by
   simp only[EC]at hx;rcases hx with hx|hx
   ·exact absurd (h.ba.lt hx) (by rw[hb];exact Js (lj gb aI))
   ·exact(xw gb aI).2 x hx.1 hb⟩)
  (λgb aI i x b hi hl hb e=>absurd (h.rk hi hl hb).1 (by rw[e];exact Js (lj gb aI)))
  (λgb aI r C5 v2 g3 hr hl ku h5 e=>absurd (h.pU hr hl ku h5).1 (by rw[e];exact Js (lj gb aI)))
 have gO:(⟨true,row.e,row.sz,row.xs⟩:Row)=row:=by cases row;simp only at D9;subst D9;rfl
 rw[gO]at hp;refine hN _ _ _ ⟨_,hp.put (by cases dst<;>first|exact trivial|exact hd) (.own _ _ _ ?_)⟩ hk;show(g.ρ++[v])[s.rw.length]? =some v;rw[<-h.lρ];simp
end Go.Ab
end
section
namespace Go.Ab
open Go.RowKit Go
section
variable {c c2:Ctx} {s s2:St} {a a2:Act} {w w2:World} {g g2:Gh}
theorem RG.akP (h:RG c s a w g)(h2:RG c2 s2 a2 w2 g2){p:Nat->Prop}(hl:mI p w g w2 g2)(hp:∀b,p b->c.own b)(jo:∀b,c2.own b->c.own b)(gD:∀(i b:Nat),g.β[i]? =some b->g2.β[i]? =some b):RG c s2 a2 w2 g2:=by
 have aR:c.w0.heap.size<=w.heap.size:=h.below.size;refine⟨⟨⟨h2.df.cN.1,λd hd=> ?_⟩,h2.df.bO,λb f hb=>hl.m1 b f (h.df.m0 b f hb),λb f hb=> ?_,λi b hb=>gD i b (h.df.gD i b hb),λx hx=>(hl.kp x (h.S0 x hx)).trans (h.df.jA x hx),h.df.fD⟩,h2.sz,
  h.below.trans hl.below aR (λi hi hn=> ?_),h.cu,h2.ba,λx hx=> ?_,λx hx=>hl.s1 x (h.S0 x hx),h.fJ,h2.lβ,h2.lρ,h2.sl,λi cs hi=> ?_,λi cs hi=> ?_,λr row hr=> ?_,h2.ap,λi es hi=>(h2.mp i es hi).imp λb hm=>hm.ctx (jo b hm.own)⟩
 ·obtain⟨D,hB,e,dN⟩:=h2.df.cN.2 d hd;exact⟨D,jo D hB,e,dN⟩
 ·rcases hl.m2 b f hb with hb|hb
  ·exact h.df.gw b f hb
  ·exact .inr (fu aR hb)
 ·rcases hn with hn|hn
  ·exact .inl (hp i hn)
  ·cases hm:g.M i with
   |none=>exact(hn hm).elim
   |some f=>
         rcases h.df.gw i f hm with h1|h1
         ·exact .inr (by rw[h1];simp)
         ·omega
 ·rcases hl.s2 x hx with hx|hx
  ·exact h.en x hx
  ·exact .inr (hp _ hx)
 ·obtain⟨b,vs,t,e1,e2,e3,e4,e5⟩:=(h2.bx i cs hi).ex;exact⟨b,vs,t,e1,e2,e3,jo b e4,e5⟩
 ·obtain⟨b,vs,t,e1,e2,e3,e4,e5⟩:=(h2.fz i cs hi).ex;exact⟨b,vs,t,e1,e2,e3,jo b e4,e5⟩
 ·obtain⟨v,e1,e2,e3⟩:=(h2.rw r row hr).ex;refine⟨v,e1,e2,λhl=> ?_⟩;obtain⟨h1,h2,h3⟩:=e3 hl;exact⟨h1,h2,λgb aI=>⟨jo gb (h3 gb aI).1,(h3 gb aI).2⟩⟩
end
end Go.Ab
end
section
namespace Go.Ab
open Go.RowKit Go
structure sD (c:Ctx)(T:Nat->Prop)(s:St)(a:Act)(w:World)(g:Gh):Prop where
 bx:∀(i:Nat) (x:Bx) (b:Nat),s.bx[i]? =some x->x.live=true->g.β[i]? =some b->¬T b
 rw:∀(r:Nat) (row:Row) (v:Value) (gb:Nat),s.rw[r]? =some row->row.live=true->g.ρ[r]? =some v->v.ownBlock=some gb->¬T gb
 df:∀d∈a.defers,∀D,d.target= .collected D->¬T D
 sx:∀x,g.S x->¬T x.block
 lt:∀b,T b->b < w.heap.size/\g.M b=none/\c.own b/\dp w b
def Ctx.aside (c:Ctx)(T:Nat->Prop)(w:World)(g:Gh):Ctx:=⟨c.P,w,g.S,g.M,c.l,λb=>w.heap.size<=b\/(c.own b/\¬T b),g.β⟩
section
variable {c:Ctx} {T:Nat->Prop} {s s2:St} {a a2:Act} {w w2:World} {g g2:Gh}
theorem RG.aside (h:RG c s a w g)(hf:sD c T s a w g):RG (c.aside T w g) s a w g:=by
 refine⟨⟨⟨h.df.cN.1,λd hd=> ?_⟩,h.df.bO,λ_ _ h=>h,λ_ _ h=> .inl h,λ_ _ h=>h,λ_ _=>rfl,h.df.fD.own h.below h.df.bO (λb hb=>hb.elim .inl (λhb=> .inr (.inl hb.1)))⟩,h.sz, .of (Below.refl _ _),λ_ h=> .inl h,h.ba,λ_ h=> .inl h,λ_ h=>h,h.ba,h.lβ,h.lρ,h.sl,λi cs hi=> ?_,λi cs hi=> ?_,λr row hr=> ?_,h.ap,λi es hi=>(h.mp i es hi).imp λb hm=>hm.ctx (.inr ⟨hm.own,hf.bx i _ b hi rfl hm.β⟩)⟩
 ·obtain⟨D,hB,e,hD⟩:=h.df.cN.2 d hd;exact⟨D, .inr ⟨hB,hf.df d hd D (by rw[e])⟩,e,hD⟩
 ·obtain⟨b,vs,t,e1,e2,e3,e4,e5⟩:=(h.bx i cs hi).ex;exact⟨b,vs,t,e1,e2,e3, .inr ⟨e4,hf.bx i _ b hi rfl e1⟩,e5⟩
 ·obtain⟨b,vs,t,e1,e2,e3,e4,e5⟩:=(h.fz i cs hi).ex;exact⟨b,vs,t,e1,e2,e3, .inr ⟨e4,hf.bx i _ b hi rfl e1⟩,e5⟩
 ·obtain⟨v,e1,e2,e3⟩:=(h.rw r row hr).ex;refine⟨v,e1,e2,λhl=> ?_⟩;obtain⟨h1,h2,h3⟩:=e3 hl;exact⟨h1,h2,λgb aI=>⟨.inr ⟨(h3 gb aI).1,hf.rw r row v gb hr hl e1 aI⟩,(h3 gb aI).2⟩⟩
theorem sD.back (h:RG c s a w g)(hf:sD c T s a w g)(h2:RG (c.aside T w g) s2 a2 w2 g2):
  RG c s2 a2 w2 g2/\sD c T s2 a2 w2 g2/\∀b,T b->w2.heap[b]? =w.heap[b]? :=by
 have bI:∀b,(c.aside T w g).own b->c.own b:=λb hb=>hb.elim (λh1=>h.cu b (fu h.below.size h1)) (λh1=>h1.1);have hT:∀b,T b->¬(c.aside T w g).own b:=λb hb ho=>ho.elim (λh1=>by have:=(hf.lt b hb).1;omega) (λh1=>h1.2 hb);have hM:∀b,T b->g2.M b=none:=λb hb=>by
  cases hm:g2.M b with
  |none=>rfl
  |some f=>
   rcases h2.df.gw b f hm with h1|h1
   ·have h3:g.M b=some f:=h1;rw[(hf.lt b hb).2.1]at h3;cases h3
   ·have h3:w.heap.size<=b:=h1;have:=(hf.lt b hb).1;omega
 have lh:∀b,T b->w2.heap[b]? =w.heap[b]? :=λb hb=>h2.below.block b (hf.lt b hb).1 (λhm=>hm.elim (hT b hb) (λhm=>hm (hf.lt b hb).2.1));refine⟨h.akP h2 (h2.later rfl rfl rfl (λ_ hb=>hb)) bI bI h2.df.gD,⟨λi x b hi hl hb ht=>hT b ht (h2.rk hi hl hb).2,λr row v gb hr hl hv aI ht=>hT gb ht (h2.pU hr hl hv aI).2,λd hd D hD ht=> ?_,λx hx ht=> ?_,λb hb=>⟨uJ (hf.lt b hb).1 h2.below.size,hM b hb,(hf.lt b hb).2.2.1, ?_⟩⟩,lh⟩
 ·obtain⟨D',hB,e,_⟩:=h2.df.cN.2 d hd;rw[e]at hD;cases hD;exact hT D ht hB
 ·rcases h2.en x hx with h1|h1
  ·exact hf.sx x h1 ht
  ·exact hT _ ht h1
 ·have hh:=(hf.lt b hb).2.2.2;unfold dp at hh⊢;rw[lh b hb];exact hh
end
section
variable {J:Type} (BJ:J->(Nat->Prop)->World->Prop)
def zO:Prop:=∀j T w w',BJ j T w->(∀b,T b->w'.heap[b]? =w.heap[b]?)->BJ j T w'
def RB (c:Ctx)(j:J)(s:St)(a:Act)(w:World):Prop:=∃g T,RG c s a w g/\sD c T s a w g/\BJ j T w
def fC (c:Ctx)(code:Code)(Q:Exit->St->J->Prop)(s:St)(j:J):Prop:=
 ∀a w,RB BJ c j s a w->code.wpIn c.F 0 c.P (λe a' w'=>∃s' j',RB BJ c j' s' a' w'/\Q e s' j') a w
end
section
variable {J:Type} {BJ:J->(Nat->Prop)->World->Prop} {c:Ctx} {Q:Exit->St->J->Prop} {s:St} {j:J} {a:Act} {w:World}
theorem RB.step (oo:zO BJ)(hr:RB BJ c j s a w):∃c':Ctx,c'.P=c.P/\c'.l=c.l/\c'.β0.length=s.bx.length/\(∃w' S' M' o' b',c'=⟨c.P,w',S',M',c.l,o',b'⟩)/\R c' s a w/\∀s2 a2 w2,R c' s2 a2 w2->RB BJ c j s2 a2 w2:=by
 obtain⟨g,T,hg,hf,hj⟩:=hr;refine⟨c.aside T w g,rfl,rfl,hg.lβ,⟨_,_,_,_,_,rfl⟩,⟨g,hg.aside hf⟩,λs2 a2 w2 ⟨g2,h2⟩=> ?_⟩;obtain⟨e1,e2,e3⟩:=hf.back hg h2;exact⟨g2,T,e1,e2,oo _ _ _ _ hj e3⟩
theorem nu (oo:zO BJ){code:Code}(h:∀(w1:World) (S1:Addr->Prop) (M1:MM) (o1:Nat->Prop) (b1:List Nat),b1.length=s.bx.length->av ⟨c.P,w1,S1,M1,c.l,o1,b1⟩ code (λe s'=>Q e s' j) s):fC BJ c code Q s j:=by
 intro a w hr;obtain⟨c',h1,h2,h3,⟨w1,S1,M1,o1,b1,rfl⟩,h5,h6⟩:=hr.step oo;exact wpIn_mono (h w1 S1 M1 o1 b1 h3 a w h5) λe a' w' ⟨s',r,q⟩=>⟨s',j,h6 _ _ _ r,q⟩
def PG (K:St->J->Prop)(Q:Exit->St->J->Prop):Exit->St->J->Prop
 | .normal,s,j=>K s j
 |e,s,j=>Q e s j
def WA (id:Nat)(Q:Exit->St->J->Prop):Exit->St->J->Prop
 | .exit nS,s,j=>if nS=id then Q .normal s j else Q (.exit nS) s j
 |e,s,j=>Q e s j
theorem alj (h:Q .ret s j):fC BJ c .ret Q s j:=λ_ _ hr=>wpIn_ret ⟨s,j,hr,h⟩
theorem pI {x y:Code}(h:fC BJ c x (PG (λs' j'=>fC BJ c y Q s' j') Q) s j):fC BJ c (.seq x y) Q s j:=by
 intro a w hr;refine wpIn_seq (wpIn_mono (h a w hr) ?_);rintro e a' w' ⟨s',j',r,q⟩;cases e with
 |normal=>exact q a' w' r
 |exit id=>exact⟨s',j',r,q⟩
 |goto l=>exact⟨s',j',r,q⟩
 |ret=>exact⟨s',j',r,q⟩
 |panic ch=>exact⟨s',j',r,q⟩
 |outgrown=>exact⟨s',j',r,q⟩
theorem E' {id:Nat}{x:Code}(h:fC BJ c x (WA id Q) s j):fC BJ c (.block id x) Q s j:=by
 intro a w hr;refine wpIn_block (wpIn_mono (h a w hr) ?_);rintro e a' w' ⟨s',j',r,q⟩;cases e with
 |normal=>exact⟨s',j',r,q⟩
 |exit nS=>
  simp only[WA]at q;simp only[Exit.inBlock];split at q
  ·rw[if_pos (by assumption)];exact⟨s',j',r,q⟩
  ·rw[if_neg (by assumption)];exact⟨s',j',r,q⟩
 |goto l=>exact⟨s',j',r,q⟩
 |ret=>exact⟨s',j',r,q⟩
 |panic ch=>exact⟨s',j',r,q⟩
 |outgrown=>exact⟨s',j',r,q⟩
def uH (BJ:J->(Nat->Prop)->World->Prop)(c:Ctx)(o:Oper)(s:St)(j:J)(K:St->J->Prop):Prop:=
 ∀(a:Act) (w:World) (N':Act->World->Prop) (Q':Exit->Act->World->Prop),RB BJ c j s a w->(∀s j a w,RB BJ c j s a w->K s j->N' a w)->o.wpIn c.F 0 c.P a w N' Q'
theorem E_ (oo:zO BJ){id:Nat}{l:List Oper}(n:Nat){y:Oper}(At:(St->J->Prop)->St->J->Prop)(hy:∀(N:St->J->Prop) (s1:St) (j1:J),At N s1 j1->uH BJ c y s1 j1 N)
  (hl:l=l.take n++y::l.drop (n + 1))(cP:y.guard=none)
  (h:∀K1:St->Prop,(∀s1,At (λs2 j2=>bZ c.P l (l.drop (n + 1)) s2 (λs3=>Q .normal s3 j2)) s1 j->K1 s1)->bZ c.P l (l.take n) s K1):
  fC BJ c (.region id l.toArray false) Q s j:=by
 intro a w hr;refine wpIn_region_lit ?_;rw[hl];rw[hl]at h;have kU:(l.take n++y::l.drop (n + 1)).take n=l.take n:=by rw[<-hl]
 have eN:(l.take n++y::l.drop (n + 1)).drop (n + 1)=l.drop (n + 1):=by rw[<-hl]
 rw[kU,eN]at h;generalize l.take n=l1 at *;generalize l.drop (n + 1)=l2 at *;obtain⟨c',_,_,_,⟨w1,S1,M1,o1,b1,rfl⟩,h5,h6⟩:=hr.step oo;refine qv (c:=⟨c.P,w1,S1,M1,c.l,o1,b1⟩) (λs1 a1 w1 fO cX=> ?_) l1 s a w h5 (h _ (λs1 h1=>h1));show wpListIn c.F 0 c.P _ _ (y::l2) a1 w1;unfold wpListIn;rw[if_pos (by simp[eh,cP])];refine hy _ s1 j cX a1 w1 _ _ (h6 _ _ _ fO) (λs3 j3 a3 w3 jV nf=> ?_);obtain⟨c2,_,_,_,⟨w2,S2,M2,o2,b2,rfl⟩,g5,g6⟩:=jV.step oo;exact qu (c:=⟨c.P,w2,S2,M2,c.l,o2,b2⟩) (K:=λs2=>Q .normal s2 j3) (λs4 a4 w4 lP qi=>⟨s4,j3,g6 _ _ _ lP,qi⟩) l2 _ _ _ g5 nf
end
end Go.Ab
end
section
namespace Go.Ab
open Go.RowKit Go
section
variable {J:Type} {BJ:J->(Nat->Prop)->World->Prop}
variable {c c2:Ctx} {s s2 st:St} {a a2:Act} {w W W2:World} {g g2:Gh}
def JB (BJ:J->(Nat->Prop)->World->Prop)(c:Ctx)(a:Act)(L D:Nat)(st:St)(j:J)(r:Loop):Inv:=λT S M W=>∃(g:Gh) (T0:Nat->Prop),g.S=S/\g.M=M/\RG c st a W g/\Ac (c:=c) T st a W g/\W.heap[L]? =some (.loop r)/\W.heap[D]? =some (.deferred (some []))/\(∀b,T b->b≠L/\b≠D)/\
 sD c T0 st a W g/\BJ j T0 W/\∀b,T0 b->¬T b
theorem dp.eq {W W':World}{b:Nat}(h:dp W b)(e:W'.heap[b]? =W.heap[b]?):dp W' b:=by
 unfold dp at h⊢;rw[e];exact h
theorem alL (oo:zO BJ){L D:Nat}{j:J}{r:Loop}:Abides (JB BJ c a L D st j r):=by
 rintro T S M W T' S' M' W' ⟨g,T0,rfl,rfl,hg,hf,hL,hD,hT,hb,hj,hd⟩ hi;obtain⟨h1,h2⟩:=hg.S9 hf hi;have hl:=(bt.1 hL).1;have pB:=(bt.1 hD).1;have lh:∀b,T0 b->W'.heap[b]? =W.heap[b]? :=λb h0=>hi.below.block b (hb.lt b h0).1 (λh=>h.elim (hd b h0) (λh=>h (hb.lt b h0).2.1));refine⟨_,T0,rfl,rfl,h1,h2, ?_, ?_,λb hb=> ?_,⟨λi x b fj lR cr=> ?_,λr' row v gb cW lR hv aI=>hb.rw r' row v gb cW lR hv aI,hb.df,λx hx h0=> ?_,λb h0=>⟨uJ (hb.lt b h0).1 hi.below.size, ?_,(hb.lt b h0).2.2.1,(hb.lt b h0).2.2.2.eq (lh b h0)⟩⟩,oo _ _ _ _ hj lh,λb h0 ht=> ?_⟩
 ·exact(hi.below.block L hl (λh=>h.elim (λh=>(hT L h).1 rfl) (λh=>h (hg.df.bO.wN hL)))).trans hL
 ·exact(hi.below.block D pB (λh=>h.elim (λh=>(hT D h).2 rfl) (λh=>h (hg.df.bO.wO hD)))).trans hD
 ·rcases hi.t1 b hb with h|h
  ·exact hT b h
  ·exact⟨ae,ae⟩
 ·exact hb.bx i x b fj lR cr
 ·rcases hi.s2 x hx with h|h|h
  ·exact hb.sx x h h0
  ·exact hd _ h0 h
  ·have:=(hb.lt _ h0).1;omega
 ·cases hm:M' b with
  |none=>exact hm
  |some f=>
   rcases hi.m2 b f hm with h|h
   ·rw[(hb.lt b h0).2.1]at h;cases h
   ·have:=(hb.lt b h0).1;omega
 ·rcases hi.t1 b ht with h|h
  ·exact hd b h0 h
  ·have:=(hb.lt b h0).1;omega
theorem ab2 (oo:zO BJ){T:Nat->Prop}{L D nb:Nat}{r r2 rB:Loop}{W3:World}{g3:Gh}{s3:St}{a3:Act}{aB:List Bx}{aD:List Row}{T3:Nat->Prop}{j3:J}(h:RG c st a W g)(hf:Ac (c:=c) T st a W g)(hL:W.heap[L]? =some (.loop r))(hD:W.heap[D]? =some (.deferred (some [])))
  (hT:∀b,T b->b≠L/\b≠D)(EE:c.w0.heap.size<=L)(iZ:st.bx.length=nb)
  (h3:RG c2 s3 a3 W3 g3)(hβ:c2.β0=g.β)(bI:∀b,c2.own b->W.heap.size<=b\/(c.own b/\¬T b/\dp W b))
  (hl:mI (λb=>W.heap.size<=b\/b=L\/(c.own b/\¬T b/\dp W b)) W g W3 g3)(mz:W3.heap[L]? =some (.loop rB))
  (ed:∀m,Names st.bx.length 0 (st.sl m))(hle:Le s3 ⟨st.n,dJ,aB,aD⟩)(hlen:aB.length=nb)(dD:(⟨st.n,dJ,aB,aD⟩:St).named)
  (my:sD c2 T3 s3 a3 W3 g3)(Mh:BJ j3 T3 W3):
  ∃S' M',wg T g.S g.M W S' M' (W3.putObj L (.loop r2))/\JB BJ c a L D ⟨st.n,st.sl,aB,aD⟩ j3 r2 T S' M' (W3.putObj L (.loop r2)):=by
 have aR:c.w0.heap.size<=W.heap.size:=h.below.size;have xh:=(bt.1 hL).1;have i_:=(bt.1 hD).1;have zm:c2.β0.length<=aB.length:=by rw[hβ,h.lβ,iZ,hlen];exact aY _
 have h4:=h3.le hle dD zm;have afK:∀(i b:Nat),(g3.β.take (⟨st.n,dJ,aB,aD⟩:St).bx.length)[i]? =some b->g3.β[i]? =some b:=λi b hb=>by
  rw[iM]at hb;split at hb
  ·exact hb
  ·cases hb
 have afI:∀(i:Nat) (b:Value),(g3.ρ.take (⟨st.n,dJ,aB,aD⟩:St).rw.length)[i]? =some b->g3.ρ[i]? =some b:=λi b hb=>by
  rw[iM]at hb;split at hb
  ·exact hb
  ·cases hb
 have agQ:∀(i:Nat) (x:Bx),aB[i]? =some x->s3.bx[i]? =some x:=λi x hx=>by
  obtain⟨t,ht⟩:=hle.bx;rw[ht,bQ (by have:=(aQ.1 hx).1;simpa using this)];exact hx
 have af0:∀(i:Nat) (x:Row),aD[i]? =some x->s3.rw[i]? =some x:=λi x hx=>by
  obtain⟨t,ht⟩:=hle.rw;rw[ht,bQ (by have:=(aQ.1 hx).1;simpa using this)];exact hx
 generalize uo:(⟨g3.S,g3.β.take (⟨st.n,dJ,aB,aD⟩:St).bx.length,g3.ρ.take (⟨st.n,dJ,aB,aD⟩:St).rw.length,g3.M⟩:Gh)=g4 at h4;have eS:g4.S=g3.S:=by rw[<-uo]
 have eM:g4.M=g3.M:=by rw[<-uo]
 have eβ:∀(i b:Nat),g4.β[i]? =some b->g3.β[i]? =some b:=λi b hb=>afK i b (by rw[<-uo]at hb;exact hb);have eρ:∀(i:Nat) (b:Value),g4.ρ[i]? =some b->g3.ρ[i]? =some b:=λi b hb=>afI i b (by rw[<-uo]at hb;exact hb);have zc:mI (λb=>W.heap.size<=b\/b=L\/(c.own b/\¬T b/\dp W b)) W g W3 g4:=
  ⟨hl.below,hl.kp,eS▸hl.s1,eS▸hl.s2,eM▸hl.m1,eM▸hl.m2⟩
 have Bq:∀(i b:Nat),g.β[i]? =some b->g4.β[i]? =some b:=λi b hb=>h4.df.gD i b (hβ▸hb);have Bm:=h.back h4 zc (λb hb=>by
   rcases hb with hb|rfl|hb
   ·exact h.cu b (fu aR hb)
   ·exact h.cu _ EE
   ·exact hb.1) (λb hb=>by
   rcases bI b hb with hb|hb
   ·exact h.cu b (fu aR hb)
   ·exact hb.1) Bq ed (λd hd D' kX hp=>by
   obtain⟨D2,_,rfl,dQ⟩:=h.df.cN.2 d hd;cases kX;rcases hp with hp|rfl|⟨_,_,hp⟩
   ·have:=(bt.1 dQ).1;omega
   ·rw[hL]at dQ;cases dQ
   ·exact dp.not dQ rfl aO hp)
 have Mr:Cv c.own (W3.putObj L (.loop r2)) a.defers:=⟨h.df.cN.1,λd hd=>by
  obtain⟨D2,hB,rfl,dQ⟩:=Bm.df.cN.2 d hd;exact⟨D2,hB,rfl,(j7 (λe=>by subst e;rw[mz]at dQ;cases dQ)).trans dQ⟩⟩
 have h5:RG c ⟨st.n,st.sl,aB,aD⟩ a (W3.putObj L (.loop r2)) g4:=Bm.rD mz rfl aO (h.cu _ EE) rfl Mr;have gR:=zc.trans (Dw (g:=g4) h4.ba mz (.inr (.inl rfl)) (.loop r2)) (λb hb=> .inl hb);have Ey:∀b,T b->¬(W.heap.size<=b\/b=L\/(c.own b/\¬T b/\dp W b)):=λb hb hp=>by
  rcases hp with hp|hp|hp
  ·have:=(hf.lt b hb).1;omega
  ·exact(hT b hb).1 hp
  ·exact hp.2.1 hb
 have L2:∀x,g4.S x->T x.block->g.S x:=λx hx ht=>(gR.s2 x hx).elim id (λh1=>(Ey _ ht h1).elim);have Bv:∀b,c2.own b->¬T b:=λb hb ht=>by
  rcases bI b hb with h1|h1
  ·have:=(hf.lt b ht).1;omega
  ·exact h1.2.1 ht
 have Ez:∀b,T b->g4.M b=none:=λb hb=>by
  cases hm:g4.M b with
  |none=>rfl
  |some f=>
        rcases gR.m2 b f hm with h1|h1
        ·rw[(hf.lt b hb).2.1]at h1;cases h1
        ·have:=(hf.lt b hb).1;omega
 have hD3:(W3.putObj L (.loop r2)).heap[D]? =some (.deferred (some [])):=by
  refine(gR.below.block D i_ (λhn=>hn.elim (λhp=> ?_) (λhn=>hn (h.df.bO.wO hD)))).trans hD;rcases hp with hp|rfl|⟨_,_,hp⟩
  ·omega
  ·rw[hL]at hD;cases hD
  ·exact dp.not hD rfl aO hp
 have ag4:∀b,T3 b->b≠L:=λb hb e=>by
  subst e;exact dp.not mz rfl aO (my.lt b hb).2.2.2
 have lh:∀b,T3 b->(W3.putObj L (.loop r2)).heap[b]? =W3.heap[b]? :=λb hb=>j7 (λe=>ag4 b hb e);refine⟨g4.S,g4.M,⟨gR.below.os,gR.below.tape,gR.below.output,gR.below.size,λb hb=>gR.below.block b (hf.lt b hb).1 (λh=>h.elim (Ey b hb) (λh=>h (hf.lt b hb).2.1)),gR.kp,gR.s1,L2,(λ_=>h5.df.fD.at h5.below),gR.m1,Ez,h5.df.bO,h5.ba⟩,
  g4,T3,rfl,rfl,h5,⟨λi x b hi hx hb=>Bv b (h4.rk (x:=x) hi hx hb).2,λr row v gb hr hl hv aI=>Bv gb (h4.pU hr hl hv aI).2,hf.df,λb hb=>⟨uJ (hf.lt b hb).1 gR.below.size,Ez b hb,(hf.lt b hb).2.2⟩⟩,
  I5 (bt.1 mz).1,hD3,hT,
  ⟨λi x b hi hx hb=>my.bx i x b (agQ i x hi) hx (eβ i b hb),λr row v gb hr hl hv aI=>my.rw r row v gb (af0 r row hr) hl (eρ r v hv) aI,λd hd D' kX ht=> ?_,λx hx=>my.sx x (eS▸hx),λb hb=>⟨by simpa using(my.lt b hb).1,by rw[eM];exact(my.lt b hb).2.1, ?_,(my.lt b hb).2.2.2.eq (lh b hb)⟩⟩,
  oo _ _ _ _ Mh lh,λb hb=>Bv b (my.lt b hb).2.2.1⟩
 ·obtain⟨D2,_,rfl,dQ⟩:=Bm.df.cN.2 d hd;cases kX;exact dp.not dQ rfl aO (my.lt _ ht).2.2.2
 ·rcases bI b (my.lt b hb).2.2.1 with h1|h1
  ·exact h.cu b (fu aR h1)
  ·exact h1.1
end
def ab5 {J:Type}(n nb:Nat)(dq:Nat->D)(aB:List Bx)(aD:List Row)(j':J)(Q:Exit->St->J->Prop):Exit->St->J->Prop
 | .normal,s',j=>Le s' ⟨n,dJ,aB,aD⟩/\j=j'
 |_,_,_=>False
section
variable {J:Type} {BJ:J->(Nat->Prop)->World->Prop}
variable {P:Program} {w0:World} {S0:Addr->Prop} {M0:MM} {own:Nat->Prop} {β0:List Nat}
theorem alk (oo:zO BJ){gx:Operand}{ps:Array Tmp}{assign body:Code}{Q:Exit->St->J->Prop}{s:St}{gf:FuncId}{cs cm:List D}{xs:List (List D)}(j:Nat->J)
  (hg:s.ev gx= .ag gf cs)(hp:gm s.bx s.rw cs=some cm)(hI:Iter P gf cm xs)(fV:∀x∈xs,x.length=ps.size)(mn:∀p∈ps.toList,p < s.n)
  (dq:Nat->D)(bx:Nat->List Bx)(rw:Nat->List Row)(nb:Nat)(hle:Le s ⟨s.n,dq,bx 0,rw 0⟩)(ed:∀m,Names nb 0 (dq m))
  (iZ:∀k,k<=xs.length->(bx k).length=nb)(dD:∀k,k<=xs.length->(⟨s.n,dJ,bx k,rw k⟩:St).named)(hβ:β0.length<=nb)
  (round:∀(k:Nat) (x:List D),xs[k]? =some x->∀(w1:World) (S1:Addr->Prop) (M1:MM) (l:Nat) (o1:Nat->Prop) (b1:List Nat),b1.length=nb->
   fC BJ ⟨P,w1,S1,M1,some l,o1,b1⟩ assign (PG (λs' j'=>∀(w2:World) (S2:Addr->Prop) (M2:MM) (o2:Nat->Prop),fC BJ ⟨P,w2,S2,M2,some l,o2,b1⟩ body (ab5 s.n nb dq (bx (k + 1)) (rw (k + 1)) (j (k + 1)) Q) s' j') (λ_ _ _=>False))
    ⟨s.n,nN ps.toList x dq,bx k,rw k⟩ (j k))
  (done:Q .normal ⟨s.n,dq,bx xs.length,rw xs.length⟩ (j xs.length)):fC BJ ⟨P,w0,S0,M0,none,own,β0⟩ (.rangeFunc gx ps assign body) Q s (j 0):=by
 obtain⟨c,hc⟩:∃c:Ctx,c=⟨P,w0,S0,M0,none,own,β0⟩:=⟨_,rfl⟩;rw[<-hc];have tc:c.P=P:=by rw[hc]
 have uv:c.F=Fence.wide:=by rw[hc];rfl
 intro a w hr;obtain⟨g,T0,fP,vD,hjs⟩:=hr;have hv:=fP.ev gx;rw[hg]at hv;generalize yU:a.eval gx=vx at hv;have D4:(⟨s.n,dq,bx 0,rw 0⟩:St).named:=⟨λm=>by
  have h1:=ed m;have iH:=iZ 0 (bD _);simp only[iH];exact h1.Lj,(dD 0 (bD _)).2⟩
 have DK:c.β0.length<=(⟨s.n,dq,bx 0,rw 0⟩:St).bx.length:=by rw[hc];simpa[iZ 0 (bD _)]using hβ
 have h0:=fP.le hle D4 DK;cases hv with
 |ag _ _ vs _ jn uh=>
 obtain⟨vs⟩:=vs;obtain⟨e1,e2⟩:=u9 hp;have qZ:vs.length=cm.length:=by rw[e1];simpa using jn
 have za:∀q x,cm[q]? =some x->Rel w ⟨g.S,[],[],g.M⟩ (vs.getD q Go.undef) x:=λq x hx=>by
  obtain⟨y,hy,sU⟩:=e2 q x hx;exact rI fP (by simpa using uh q y hy) sU
 refine wpIn_rangeFunc ?_;intro fn q_;have qe:c.F.round=none:=by rw[uv];rfl
 rw[qe];obtain⟨rec,gy⟩:∃rec:LoopState->Option Code->Loop,rec=λst pe=>{state:=st,pending:=pe,fn,tmps:=a.tmps,params:=ps,assign,body,defers:=w.heap.size}:=⟨_,rfl⟩;obtain⟨W1,qn⟩:∃W1,(w.alloc (.deferred (some []))).alloc (.loop (rec .ready none))=W1:=⟨_,rfl⟩;have xy:W1.heap[w.heap.size + 1]? =some (.loop (rec .ready none)):=by
  rw[<-qn];have:=zK (w.alloc (.deferred (some []))) (.loop (rec .ready none));rwa [World.size_alloc]at this
 have aA:W1.heap[w.heap.size]? =some (.deferred (some [])):=by
  rw[<-qn];exact(Below.heap_alloc _ _ _ aO).trans (zK w _)
 have gz:Below w.heap.size w W1:=by rw[<-qn];exact(((Below.refl _ w).alloc (aY _) _).alloc aO _)
 have aR:c.w0.heap.size<=w.heap.size:=fP.below.size;have h1:=h0.world gz (λ_ h=>h) (λ_ h=> .inl h) (h0.ba.below gz);have te:jf W1 g.M:=h1.df.bO;have EB:Good W1 g.S:=h1.ba;refine⟨w.heap.size + 1,[{target:= .collected w.heap.size,args:=#[]}],W1,{target:= .fn (.func gf) vs.toArray,args:=#[.func (.yield (w.heap.size + 1)) #[] #[]]},W1,gf,
  (Value.func (.yield (w.heap.size + 1)) #[] #[]::vs).toArray,W1, ?_, ?_, ?_, ?_,λh=>(by rw[uv]at h;cases h), ?_⟩
 ·rw[<-qn,gy];exact run_enterLoop_outer _ _ _ _ _
 ·simp only[resolve,yU];simp[go_sem]
 ·intro f' _;rw[uv];trivial
 ·have:=hI.1 (Value.func (.yield (w.heap.size + 1)) #[] #[]::vs).toArray W1;rw[tc];simp[invoke,go_sem];simpa using this
 rw[uv,tc];refine callsIn_wide.2 ((hI.2 g.S g.M W1 vs (h1.df.fD.at h1.below) EB te qZ (λq x hx=>(za q x hx).aZ ⟨λy hy=>by
   obtain⟨u,hu⟩:=fP.ba y hy;obtain⟨cc,tt,ff,Eo⟩:=tn hu;exact pJ (gz.block _ (bt.1 Eo).1),λ_ h=>h,λ_ _ h=>h,λ_ _ h=>h,λ_ _ h=>h⟩)
  (w.heap.size + 1) (λk T S M W=>k<=xs.length/\JB BJ c a (w.heap.size + 1) w.heap.size ⟨s.n,dq,bx k,rw k⟩ (j k) (rec .ready none) T S M W)
  (λ_ _ _ _ _=>False)
  (λk T S M W T' S' M' W' h hi=>⟨h.1,alL oo T S M W T' S' M' W' h.2 hi⟩)
  (λk T S M W T' S' M' W' h hi=>h.elim) ?_ ?_).mono ?_)
 ·
  rintro k T S M W args x hx ⟨hk,g1,T1,rfl,rfl,aK,hf,hL,hD,hT,lT,Mi,UE⟩ hlen bw;have mX:x.length=ps.size:=fV x (ey hx);have kv:k < xs.length:=(aQ.1 hx).1;have ly:(bx k).length=nb:=iZ k hk;have hy:=run_yield (P:=P) (args:=args.toArray) hL (by rw[gy];simp;omega);rw[gy]at hy;refine⟨fn,_,assign,body,hy,roundIn_of_wpIn trivial ?_⟩;have xm:((ps.zip args.toArray).foldl (λt (p,v)=>t.setIfInBounds p v) a.tmps)=((ps.toList.zip args).foldl (λt (p,v)=>t.setIfInBounds p v) a.tmps):=by
   rw[<-Array.foldl_toList];simp
  obtain⟨q1,q2⟩:=GR (w:=W) (g:=g1) ps.toList x args dq a.tmps hlen (λq d hd=>(bw q d hd).aZ (EL _ _ _ _ _)) (λp hp=>by rw[aK.sz];exact mn p hp) (λm=>aK.sl m);have lu:=aK.enter hf (some (w.heap.size + 1)) (a':={tmps:=(ps.zip args.toArray).foldl (λt (p,v)=>t.setIfInBounds p v) a.tmps,defers:=[]}) (sl:=nN ps.toList x dq) rfl (by rw[xm];exact q1) (by rw[xm];exact q2);rw[tc]at lu;have agT:sD ⟨P,W,g1.S,g1.M,some (w.heap.size + 1),λb=>W.heap.size<=b\/(c.own b/\¬T b/\dp W b),g1.β⟩ T1 ⟨s.n,nN ps.toList x dq,bx k,rw k⟩ {tmps:=(ps.zip args.toArray).foldl (λt (p,v)=>t.setIfInBounds p v) a.tmps,defers:=[]} W g1:=
   ⟨lT.bx,lT.rw,λd hd=>(by cases hd),lT.sx,λb hb=>⟨(lT.lt b hb).1,(lT.lt b hb).2.1, .inr ⟨(lT.lt b hb).2.2.1,UE b hb,(lT.lt b hb).2.2.2⟩,(lT.lt b hb).2.2.2⟩⟩
  have hA:=round k x hx W g1.S g1.M (w.heap.size + 1) _ g1.β (by rw[aK.lβ];exact ly) _ W ⟨g1,T1,lu,agT,Mi⟩;refine wpIn_mono hA ?_;rintro e a1 w1 ⟨s1,j1,⟨g2,T2,h2,vC,Uf⟩,hq⟩;cases e with
  |normal=>
   have Ev:=(bt.1 hL).1;have xx:¬(W.heap.size<=w.heap.size + 1\/(c.own (w.heap.size + 1)/\¬T (w.heap.size + 1)/\dp W (w.heap.size + 1))):=λh=>by
    rcases h with h|⟨_,_,h⟩
    ·omega
    ·exact dp.not hL rfl aO h
   have jX:w1.heap[w.heap.size + 1]? =some (.loop (rec .ready none)):=(h2.below.block _ Ev (λh=>h.elim xx (λh=>h (aK.df.bO.wN hL)))).trans hL;have lx:=run_beginRound (P:=P) jX (by rw[gy]);have jU:=h2.KA (w':=w1.putObj (w.heap.size + 1) (.loop {rec .ready none with state:= .busy})) (GQ jX) (KB jX) ⟨h2.df.cN.1,λd hd=>by
    obtain⟨D2,hB,rfl,dQ⟩:=h2.df.cN.2 d hd;exact⟨D2,hB,rfl,(j7 (λe=>by subst e;rw[jX]at dQ;cases dQ)).trans dQ⟩⟩ (λb hb=>h2.cu b (by have:=h2.below.size;simp only[World.putObj_size]at hb;exact fu this hb))
   have UW:∀b,T2 b->(w1.putObj (w.heap.size + 1) (.loop {rec .ready none with state:= .busy})).heap[b]? =w1.heap[b]? :=λb hb=>j7 (λe=>by
    subst e;exact dp.not jX rfl aO (vC.lt _ hb).2.2.2)
   have hB:=hq (w1.putObj (w.heap.size + 1) (.loop {rec .ready none with state:= .busy})) g2.S g2.M _ a1 _ ⟨g2,T2,jU,⟨vC.bx,vC.rw,vC.df,vC.sx,λb hb=>⟨by simpa using(vC.lt b hb).1,(vC.lt b hb).2.1,(vC.lt b hb).2.2.1,(vC.lt b hb).2.2.2.eq (UW b hb)⟩⟩,oo _ _ _ _ Uf UW⟩;refine⟨_,lx,wpIn_mono hB ?_⟩;rintro e a3 W3 ⟨s3,j3,⟨g3,T3,h3,agS,Ue⟩,g_⟩;have tg:(w1.putObj (w.heap.size + 1) (.loop {rec .ready none with state:= .busy})).heap[w.heap.size + 1]? =some (.loop {rec .ready none with state:= .busy}):=I5 (bt.1 jX).1;have rY:=(bt.1 tg).1;have mz:W3.heap[w.heap.size + 1]? =some (.loop {rec .ready none with state:= .busy}):=(h3.below.block _ rY (λh=>h.elim xx (λh=>h (jU.df.bO.wN tg)))).trans tg;have l1:mI (λb=>W.heap.size<=b\/b=w.heap.size + 1\/(c.own b/\¬T b/\dp W b)) W g1 w1 g2:=h2.later rfl rfl rfl (λb hb=>hb.elim .inl (λh=> .inr (.inr h)));have l2:=Dw (p:=λb=>W.heap.size<=b\/b=w.heap.size + 1\/(c.own b/\¬T b/\dp W b)) h2.ba jX (.inr (.inl rfl)) (.loop {rec .ready none with state:= .busy});have l3:mI (λb=>W.heap.size<=b\/b=w.heap.size + 1\/(c.own b/\¬T b/\dp W b)) _ g2 W3 g3:=h3.later rfl rfl rfl (λb hb=>hb.elim .inl (λh=> .inr (.inr h)));have hl:=(l1.trans l2 (λb hb=> .inl hb)).trans l3 (λb hb=> .inl hb);cases e with
   |normal=>
    obtain⟨g_,rfl⟩:=g_;have he:=run_endRound (P:=P) none mz;obtain⟨S',M',f1,f2⟩:=ab2 (st:=⟨s.n,dq,bx k,rw k⟩) (nb:=nb) (r2:=rec .ready none) oo aK hf hL hD hT ae ly h3 rfl (λb hb=>hb) hl mz (by rw[show(⟨s.n,dq,bx k,rw k⟩:St).bx.length=nb from ly];exact ed) g_ (iZ _ kv) (dD _ kv) agS Ue;rw[gy]at he f1 f2⊢;exact⟨_,_,he,S',M',f1, .inl ⟨rfl,kv,f2⟩⟩
   |ret=>exact g_.elim
   |exit id=>exact g_.elim
   |goto t=>exact g_.elim
   |panic ch=>exact g_.elim
   |outgrown=>exact g_.elim
  |exit id=>exact hq.elim
  |goto l=>exact hq.elim
  |ret=>exact hq.elim
  |panic ch=>exact hq.elim
  |outgrown=>exact hq.elim
 ·
  have agr:∀(i:Nat) (x:Bx),(bx 0)[i]? =some x->s.bx[i]? =some x:=λi x hx=>by
   obtain⟨t,ht⟩:=hle.bx;rw[ht,bQ (by have:=(aQ.1 hx).1;simpa using this)];exact hx
  have af2:∀(i:Nat) (x:Row),(rw 0)[i]? =some x->s.rw[i]? =some x:=λi x hx=>by
   obtain⟨t,ht⟩:=hle.rw;rw[ht,bQ (by have:=(aQ.1 hx).1;simpa using this)];exact hx
  have lh:∀b,T0 b->W1.heap[b]? =w.heap[b]? :=λb hb=>gz.block b (vD.lt b hb).1;refine⟨bD _,_,T0, ?_, ?_,h1,⟨λ_ _ _ _ _ _ h=>h,λ_ _ _ _ _ _ _ _ h=>h,λ_ _ _ _ h=>h,λ_ h=>h.elim⟩,xy,aA,λ_ h=>h.elim,
   ⟨λi x b hi hl hb=>vD.bx i x b (agr i x hi) hl ?_,λr row v gb hr hl hv aI=>vD.rw r row v gb (af2 r row hr) hl ?_ aI,vD.df,vD.sx,λb hb=>⟨uJ (vD.lt b hb).1 gz.size,(vD.lt b hb).2.1,(vD.lt b hb).2.2.1,(vD.lt b hb).2.2.2.eq (lh b hb)⟩⟩,oo _ _ _ _ hjs lh,λ_ _ h=>h⟩
  ·rfl
  ·rfl
  ·rw[iM]at hb;split at hb
   ·exact hb
   ·cases hb
  ·rw[iM]at hv;split at hv
   ·exact hv
   ·cases hv
 ·
  rintro e W2 ⟨⟨v,rfl⟩,T,S',M',⟨hk,hJ⟩|⟨k,hJ⟩⟩
  ·obtain⟨g1,T1,rfl,rfl,aK,hf,hL,hD,hT,lT,Mi,UE⟩:=hJ;have h3:=run_endLoop (P:=P) hL (by rw[gy];simp);have ag5:∀b,T1 b->b≠w.heap.size + 1:=λb hb e=>by
    subst e;exact dp.not hL rfl aO (lT.lt _ hb).2.2.2
   have ag6:∀b,T1 b->b≠w.heap.size:=λb hb e=>by
    subst e;exact dp.not hD rfl aO (lT.lt _ hb).2.2.2
   have lh:∀b,T1 b->(W2.putObj (w.heap.size + 1) (.loop {rec .ready none with state:= .exhausted})).heap[b]? =W2.heap[b]? :=λb hb=>j7 (λe=>ag5 b hb e);have h4:RB BJ c (j xs.length) ⟨s.n,dq,bx xs.length,rw xs.length⟩ {a with defers:={target:= .collected w.heap.size,args:=#[]}::a.defers} (W2.putObj (w.heap.size + 1) (.loop {rec .ready none with state:= .exhausted})):=by
    refine⟨g1,T1,aK.rD hL rfl aO (aK.cu _ ae) rfl ⟨List.nodup_cons.2 ⟨λhm=> ?_,aK.df.cN.1⟩,λd hd=> ?_⟩,⟨lT.bx,lT.rw,λd hd D kX ht=> ?_,lT.sx,λb hb=>⟨by simpa using(lT.lt b hb).1,(lT.lt b hb).2.1,(lT.lt b hb).2.2.1,(lT.lt b hb).2.2.2.eq (lh b hb)⟩⟩,oo _ _ _ _ Mi lh⟩
    ·obtain⟨D',_,e,dN⟩:=fP.df.cN.2 _ hm;cases e;have:=(bt.1 dN).1;omega
    ·rcases eK.1 hd with rfl|hd
     ·exact⟨w.heap.size,aK.cu _ aR,rfl,(j7 ae).trans hD⟩
     ·obtain⟨D2,hB,rfl,dQ⟩:=aK.df.cN.2 d hd;exact⟨D2,hB,rfl,(j7 (λe=>by subst e;rw[hL]at dQ;cases dQ)).trans dQ⟩
    ·rcases eK.1 hd with rfl|hd
     ·cases kX;exact ag6 _ ht rfl
     ·exact lT.df d hd D kX ht
   rw[gy]at h3 h4;exact⟨none,_,h3,_,_,h4,done⟩
  ·exact hJ.elim
end
end Go.Ab
end
section
namespace Go.Ab
open Go.RowKit Go
section
variable {c:Ctx} {T T':Nat->Prop} {s:St} {a:Act} {w w':World} {g:Gh}
theorem sD.rD (h:RG c s a w g)(hf:sD c T s a w g)(rU:w'.os=w.os)(Hv:w'.tape=w.tape)(HE:w'.output=w.output)(aR:w.heap.size<=w'.heap.size)(hk:∀k,k < w.heap.size->¬T k->w'.heap[k]? =w.heap[k]?)
  (hT:∀b,T' b->T b\/w.heap.size<=b)(hl:∀b,T' b->dp w' b):RG c s a w' g/\sD c T' s a w' g:=by
 have hM:=h.df.bO;have hMT:∀b f,g.M b=some f->¬T b:=λb f hb ht=>by rw[(hf.lt b ht).2.1]at hb;cases hb
 have eX:∀x,g.S x->w'.cell? x=w.cell? x:=λx hx=>pJ (hk _ (h.ba.lt hx) (hf.sx x hx));have k:fL w g w' g:=⟨eX,λ_ h=>h,λ_ _ h=>h,λ_ _ h=>h,λ_ _ h=>h⟩;have agq:c.w0.heap.size<=w.heap.size:=h.below.size;refine⟨⟨⟨⟨h.df.cN.1,λd hd=> ?_⟩,λb f hb=> ?_,h.df.m0,h.df.gw,h.df.gD,λx hx=>(eX x (h.S0 x hx)).trans (h.df.jA x hx),h.df.fD⟩,h.sz,⟨rU.trans h.below.os,Hv.trans h.below.tape,HE.trans h.below.output,fu h.below.size aR,λi hi hn=> ?_⟩,h.cu,λx hx=> ?_,h.en,h.S0,h.fJ,h.lβ,h.lρ,λn=>(h.sl n).aZ k,λi cs hi=> ?_,λi cs hi=> ?_,λr row hr=> ?_,h.ap,λi es hi=> ?_⟩,⟨λi x b hi hx hb ht=> ?_,λr row v gb hr hx hv aI ht=> ?_,λd hd D hD ht=> ?_,λx hx ht=> ?_,λb hb=>⟨?_, ?_, ?_,hl b hb⟩⟩⟩
 ·obtain⟨D,hB,e,hD⟩:=h.df.cN.2 d hd;exact⟨D,hB,e,(hk D (bt.1 hD).1 (hf.df d hd D (by rw[e]))).trans hD⟩
 ·obtain⟨es,cl,h1,h2⟩:=hM b f hb;exact⟨es,cl,(hk b (bt.1 h1).1 (hMT b f hb)).trans h1,h2⟩
 ·by_cases ht:T i
  ·exact absurd (.inl (hf.lt i ht).2.2.1) hn
  ·exact(hk i ae ht).trans (h.below.block i hi hn)
 ·obtain⟨u,hu⟩:=h.ba x hx;exact⟨u,(eX x hx).trans hu⟩
 ·obtain⟨b,vs,t,e1,e2,e3,e4,e5⟩:=(h.bx i cs hi).ex;exact⟨b,vs,t,e1,(hk b (bt.1 e2).1 (hf.bx i _ b hi rfl e1)).trans e2,e3.aZ k,e4,e5⟩
 ·obtain⟨b,vs,t,e1,e2,e3,e4,e5⟩:=(h.fz i cs hi).ex;exact⟨b,vs,t,e1,(hk b (bt.1 e2).1 (hf.bx i _ b hi rfl e1)).trans e2,e3.aZ k.er,e4,e5⟩
 ·obtain⟨v,e1,e2,e3⟩:=(h.rw r row hr).ex;refine⟨v,e1,e2.aZ k,λhl=> ?_⟩;obtain⟨⟨vals,bI⟩,bf,hS⟩:=e3 hl;refine⟨⟨vals,bI.1, ?_⟩,bf,hS⟩;rcases bI.2 with hn|⟨g2,cap,cur,rfl,fk,fH,rest⟩
  ·exact .inl hn
  ·exact .inr ⟨g2,cap,cur,rfl,fk,(hk g2 (bt.1 fH).1 (hf.rw r row _ g2 hr hl e1 rfl)).trans fH,rest⟩
 ·obtain⟨b,hm⟩:=h.mp i es hi;exact⟨b,hm.aZ k (hk b hm.lt (hf.bx i _ b hi rfl hm.β)) hm.nm⟩
 ·rcases hT b ht with h1|h1
  ·exact hf.bx i x b hi hx hb h1
  ·have:=(h.rk hi hx hb).1;omega
 ·rcases hT gb ht with h1|h1
  ·exact hf.rw r row v gb hr hx hv aI h1
  ·have:=(h.pU hr hx hv aI).1;omega
 ·rcases hT D ht with h1|h1
  ·exact hf.df d hd D hD h1
  ·obtain⟨D',_,e,dN⟩:=h.df.cN.2 d hd;rw[e]at hD;cases hD
   have:=(bt.1 dN).1;omega
 ·rcases hT _ ht with h1|h1
  ·exact hf.sx x hx h1
  ·have:=h.ba.lt hx;omega
 ·have hh:=hl b hb;rcases hh with⟨_,_,_,e⟩|⟨_,_,e⟩<;>exact(bt.1 e).1
 ·cases hm:g.M b with
  |none=>rfl
  |some f=>
   obtain⟨es,cl,h1,_⟩:=hM b f hm;rcases hT b hb with h2|h2
   ·rw[(hf.lt b h2).2.1]at hm;cases hm
   ·have:=(bt.1 h1).1;omega
 ·rcases hT b hb with h1|h1
  ·exact(hf.lt b h1).2.2.1
  ·exact h.cu b (fu agq h1)
end
end Go.Ab
end
