import Derived.Test.YtafmfhkplgapjaaGreatDoorZ04
import Derived.Maps.RangeRun
set_option linter.unusedVariables false
set_option linter.unusedSimpArgs false
open Array renaming getD_eq_getD_getElem?->lJ,getElem?_append_left->JN,getElem?_append_right->O6,getElem?_eq_some_iff->bt,getElem?_setIfInBounds->yh,replicate->gW,toArray_toList->FX
open Bool renaming and_eq_true->c_,or_eq_false_iff->Ad
open Go.Builtin renaming append_->wm,lenOf->JI,zeroCells->oT
open Go.Deferred renaming ofValue->pN
open Go.Fence renaming wide->cE
open Go renaming undef->bp
open List renaming all_eq_true->iD,append_assoc->kK,eq_nil_of_length_eq_zero->Cp,getD_eq_getElem?_getD->ic,getElem?_append_left->bQ,getElem?_append_right->dX,getElem?_cons_succ->uN,getElem?_eq_getElem->bS,getElem?_eq_some_iff->aQ,getElem?_map->cO,getElem?_set_ne->gj,getElem?_set_self->jg,getElem?_take->iM,length_append->eQ,length_map->iB,length_pos_iff->uM,length_replicate->uL,length_set->Cm,length_take->mH,map_cons->ib,mem_append->fA,mem_cons->eK,mem_cons_of_mem->dW,mem_cons_self->dI,mem_filter->Jv,mem_iff_getElem?->v7,mem_of_getElem?->ey,mem_of_mem_drop->Fy,mem_of_mem_take->x9,mem_range->oR,mem_replicate->rv,nodup_cons->qF,range->ct,replicate->cD,size_toArray->vZ
open Nat renaming add_mul->ru,add_zero->xX,le_refl->aY,le_trans->fu,lt_or_ge->ft,mul_le_mul_right->zQ,not_le_of_lt->xW,pos_of_ne_zero->Xy,sub_zero->su,zero_add->fK,zero_le->bD
open Ne renaming symm->fq
open Go.Oper renaming wp->fo
open Option renaming getD_some->e8,isSome_iff_exists->xV,map_eq_some_iff->cv,map_some->eH
open Option.some renaming inj->iA,injEq->gE
open Go.Program renaming cellsOf->zP
open Go.Region renaming binds->gV,ready->rq,wanted->eh
open Go.Utf8 renaming decode->Oe
open Go.World renaming cell?->qz,cell?_of_block->pJ,putObj_heap_other->j7
namespace Go.Ab
open Go.RowKit
section
variable {P:Program}
def ah6 (ops:Array Oper)(j k:Nat):Bool:=match ops[j]? with|some o=>o.after.any λe=>gV .any e&&e.on == k|none=>false
def gD (ops:Array Oper):Nat->List Nat->List Nat
 |0,S=>S
 |k + 1,S=>gD ops k (if S.any (λj=>ah6 ops j k)then k::S else S)
end
section
variable {c:Ctx} {s:St} {a:Act} {w:World} {g:Gh}
end
section
variable {P:Program}
end
def lY (w:World)(B:Nat)(str:ByteArray)(k:Nat):World:={w with heap:=w.heap.setIfInBounds B (.stringIter str k)}
section
variable {c:Ctx} {s:St} {a:Act} {w:World} {g:Gh}
theorem J3 {B:Nat}{str:ByteArray}{k:Nat}{b:Nat}(h:b≠B):(lY w B str k).heap[b]? =w.heap[b]? :=by
 simp[lY,yh,fq h]
theorem PC {B:Nat}{str:ByteArray}{j k:Nat}(h:w.heap[B]? =some (.stringIter str j)):(lY w B str k).heap[B]? =some (.stringIter str k):=by
 have:=(bt.1 h).1;simp[lY,this]
theorem J2 {B:Nat}{str:ByteArray}{j k:Nat}(h:w.heap[B]? =some (.stringIter str j))(x:Addr):(lY w B str k).cell? x=w.cell? x:=by
 by_cases hx:x.block=B
 ·unfold qz;rw[hx,PC h,h]
 ·unfold qz;rw[J3 hx]
theorem RG.afr (h:RG c s a w g)(hb:s.bx=[])(hr:s.rw=[]){B:Nat}{str:ByteArray}{j k:Nat}(hB:w.heap[B]? =some (.stringIter str j))(h0:c.w0.heap.size<=B):RG c s a (lY w B str k) g:=by
 have aR:(lY w B str k).heap.size=w.heap.size:=by simp[lY]
 have other:∀{b:Nat} {o:Obj},w.heap[b]? =some o->(∀s j,o≠ .stringIter s j)->(lY w B str k).heap[b]? =some o:=λ{b o} Mx bz=>by
  rw[J3 (λe=>by subst e;rw[hB]at Mx;cases Mx;exact bz _ _ rfl)];exact Mx
 have ky:fL w g (lY w B str k) g:=⟨λx _=>J2 hB x,λ_ h=>h,λ_ _ h=>h,λ_ _ h=>h,λ_ _ h=>h⟩;refine⟨⟨⟨h.df.cN.1,λd hd=> ?_⟩,λb f hf=> ?_,h.df.m0,h.df.gw,h.df.gD,λx hx=>(J2 hB x).trans (h.df.jA x hx),h.df.fD⟩,h.sz,⟨h.below.os,h.below.tape,h.below.output,by rw[aR];exact h.below.size,λb hb hn=> ?_⟩,h.cu,λx hx=> ?_,h.en,h.S0,h.fJ,h.lβ,h.lρ,λn=>(h.sl n).aZ ky, ?_, ?_, ?_, ?_,λi es hi=>by rw[hb]at hi;simp at hi⟩
 ·obtain⟨D,q1,q2,q3⟩:=h.df.cN.2 d hd;exact⟨D,q1,q2,other q3 (λ_ _ e=>by cases e)⟩
 ·obtain⟨es,cl,q1,q2⟩:=h.df.bO b f hf;exact⟨es,cl,other q1 (λ_ _ e=>by cases e),q2⟩
 ·rw[J3 ae];exact h.below.block b hb hn
 ·obtain⟨u,hu⟩:=h.ba x hx;exact⟨u,(J2 hB x).trans hu⟩
 ·intro i cs hi;rw[hb]at hi;simp at hi
 ·intro i cs hi;rw[hb]at hi;simp at hi
 ·intro i row hi;rw[hr]at hi;simp at hi
 ·exact⟨λ_=> .inl 0,λi x b hi=>by rw[hb]at hi;simp at hi,λr row v gb hi=>by rw[hr]at hi;simp at hi⟩
def Ctx.from_ (c:Ctx)(w:World)(S:Addr->Prop)(M:MM)(B:Nat):Ctx:=⟨c.P,w,S,M,c.l,λb=>w.heap.size<=b\/(c.own b/\b≠B),[]⟩
theorem RG.afs (h:RG c s a w g)(hb:s.bx=[])(hr:s.rw=[]){B:Nat}{str:ByteArray}{j:Nat}(hB:w.heap[B]? =some (.stringIter str j)):RG (c.from_ w g.S g.M B) s a w g:=by
 have hβ:g.β=[]:=Cp (by rw[h.lβ,hb];rfl);refine⟨⟨⟨h.df.cN.1,λd hd=> ?_⟩,h.df.bO,λ_ _ h=>h,λ_ _ h=> .inl h,λi b hi=>by simp[Ctx.from_]at hi,λ_ _=>rfl,
  h.df.fD.own h.below h.df.bO λb hb=> ?_⟩,h.sz,⟨rfl,rfl,rfl,aY _,λ_ _ _=>rfl⟩,λb hb=> .inl hb,h.ba,λx hx=> .inl hx,λx hx=>hx,h.ba,h.lβ,h.lρ,h.sl, ?_, ?_, ?_, ?_,λi es hi=>by rw[hb]at hi;simp at hi⟩
 ·obtain⟨D,q1,q2,q3⟩:=h.df.cN.2 d hd;exact⟨D, .inr ⟨q1,λe=>by subst e;rw[hB]at q3;cases q3⟩,q2,q3⟩
 ·rcases hb with hb|hb
  ·exact .inl hb
  ·exact .inr (.inl hb.1)
 ·intro i cs hi;rw[hb]at hi;simp at hi
 ·intro i cs hi;rw[hb]at hi;simp at hi
 ·intro i row hi;rw[hr]at hi;simp at hi
 ·exact⟨λ_=> .inl 0,λi x b hi=>by rw[hb]at hi;simp at hi,λr row v gb hi=>by rw[hr]at hi;simp at hi⟩
theorem RG.LB {s':St}{a':Act}{w':World}{g':Gh}(h:RG c s a w g)(hb:s.bx=[]){B:Nat}{str:ByteArray}{j:Nat}(hB:w.heap[B]? =some (.stringIter str j))(h0:c.w0.heap.size<=B)
  (h':RG (c.from_ w g.S g.M B) s' a' w' g')(cr:s'.bx=[])(cW:s'.rw=[]):RG c s' a' w' g'/\w'.heap[B]? =some (.stringIter str j):=by
 have hβ:g.β=[]:=Cp (by rw[h.lβ,hb];rfl);have aG:=(bt.1 hB).1;have hBM:g.M B=none:=by
  cases hm:g.M B with
  |none=>rfl
  |some f=>obtain⟨es,cl,q1,_⟩:=h.df.bO B f hm;rw[hB]at q1;cases q1
 have wL:∀b,(c.from_ w g.S g.M B).own b->c.own b:=λb hb=>hb.elim (λhb=>h.cu b (fu h.below.size hb)) (λhb=>hb.1);refine⟨⟨⟨⟨h'.df.cN.1,λd hd=> ?_⟩,h'.df.bO,λb f hf=>h'.df.m0 b f (h.df.m0 b f hf),λb f hf=> ?_,λi b hi=> ?_,λx hx=>(h'.df.jA x (h.S0 x hx)).trans (h.df.jA x hx),h.df.fD⟩,h'.sz, ?_,h.cu,h'.ba,λx hx=> ?_,λx hx=>h'.S0 x (h.S0 x hx),h.fJ,h'.lβ,h'.lρ,h'.sl, ?_, ?_, ?_, ?_,λi es hi=>by rw[cr]at hi;simp at hi⟩, ?_⟩
 ·obtain⟨D,q1,q2,q3⟩:=h'.df.cN.2 d hd;exact⟨D,wL D q1,q2,q3⟩
 ·rcases h'.df.gw b f hf with hf|hf
  ·exact h.df.gw b f hf
  ·exact .inr (fu h.below.size hf)
 ·have:=h.df.gD i b hi;rw[hβ]at this;simp at this
 ·refine h.below.trans h'.below h.below.size λi hi hm=> ?_;rcases hm with hm|hm
  ·rcases hm with hm|hm
   ·exact absurd (fu h.below.size hm) (xW hi)
   ·exact .inl hm.1
  ·cases hf:g.M i with
   |none=>exact absurd hf hm
   |some f=>
    rcases h.df.gw i f hf with hf|hf
    ·exact .inr (by rw[hf];exact λe=>by cases e)
    ·exact absurd hf (xW hi)
 ·rcases h'.en x hx with hx|hx
  ·exact h.en x hx
  ·exact .inr (wL _ hx)
 ·intro i cs hi;rw[cr]at hi;simp at hi
 ·intro i cs hi;rw[cr]at hi;simp at hi
 ·intro i row hi;rw[cW]at hi;simp at hi
 ·exact⟨λ_=> .inl 0,λi x b hi=>by rw[cr]at hi;simp at hi,λr row v gb hi=>by rw[cW]at hi;simp at hi⟩
 ·refine(h'.below.block B aG λhm=> ?_).trans hB;rcases hm with hm|hm
  ·rcases hm with hm|hm
   ·exact absurd aG (Nat.not_lt.2 hm)
   ·exact hm.2 rfl
  ·exact hm hBM
theorem ac0 {P:Program}{o:Oper}{t:TypeId}{x:Operand}{str:ByteArray}{N:Act->World->Prop}{Q:Exit->Act->World->Prop}(ho:o.op= .range t x)(hx:a.eval x= .string str)(ht:kN P t=true)
  (h:N (a.put o.dst (.pointer (some ⟨w.heap.size,0,none⟩))) (w.iter str 0)):o.wp P a w N Q:=by
 have hu:P.underlying t=some .string:=by unfold kN at ht;split at ht<;>simp_all
 have aV:(execOp a.eval o).run P w= .ok (.value (.pointer (some ⟨w.heap.size,0,none⟩))) (w.iter str 0):=by
  simp[execOp,ho,hx,run_range_string w t str hu]
 unfold fo;rw[aV];exact h
theorem adZ {P:Program}{o:Oper}{x:Operand}{str:ByteArray}{B k:Nat}{N:Act->World->Prop}{Q:Exit->Act->World->Prop}(ho:o.op= .next x true)(hx:a.eval x= .pointer (some ⟨B,0,none⟩))(hB:w.heap[B]? =some (.stringIter str k))(hk:¬k < str.size)
  (h:N (a.put o.dst (.tuple #[.bool false])) w):o.wp P a w N Q:=by
 have aV:(execOp a.eval o).run P w= .ok (.value (.tuple #[.bool false])) w:=by
  simp[execOp,ho,hx,Instr.next,getObj,Sem.run,hB,hk]
 unfold fo;rw[aV];exact h
end
abbrev jm (B:Nat):D:= .val (.pointer (some ⟨B,0,none⟩))
end Go.Ab
section
namespace Go.Ab
open Go.RowKit
def yD (bx:List Bx)(rw:List Row):D->Option D
 | .val v=>some (.val v)
 |d=>pg bx rw d
def yC (bx:List Bx)(rw:List Row):List D->Option (List D)
 |[]=>some []
 |d::ds=>match yD bx rw d with|some d'=>(yC bx rw ds).map (d'::·)|none=>none
theorem Q4 {bx:List Bx}{aD:List Row}:∀{ds bR:List D},yC bx aD ds=some bR->bR.length=ds.length/\∀(q:Nat) (d':D),bR[q]? =some d'->∃d,ds[q]? =some d/\yD bx aD d=some d'
 |[],bR,h=>by simp[yC]at h;subst h;simp
 |d::ds,bR,h=>by
  simp only[yC]at h;split at h
  ·rename_i d1 h1;simp only[cv]at h;obtain⟨l,hl,rfl⟩:=h;obtain⟨e1,e2⟩:=Q4 hl;refine⟨by simp[e1],λq d' hq=> ?_⟩;cases q with
   |zero=>simp at hq;subst hq;exact⟨d,rfl,h1⟩
   |succ q=>exact e2 q d' (by simpa using hq)
  ·cases h
section
variable {c:Ctx} {s:St} {a:Act} {w:World} {g:Gh}
theorem KN {v:Value}{d d':D}(h:RG c s a w g)(hr:Rel w g v d)(hp:yD s.bx s.rw d=some d'):Rel w g.er v d':=by
 unfold yD at hp;split at hp
 ·cases hp;exact hr.erase trivial
 ·exact rI h hr hp
theorem abB {o:Oper}{f:FuncId}{xs:Array Operand}{at_:Array TypeId}{ds:List D}(ho:o.op= .call {callee:= .value (.func f),args:=xs,argTypes:=at_})(h:RG c s a w g)
  (hp:yC s.bx s.rw (xs.toList.map s.ev)=some ds)(hcf:∀(args:Array Value) (w:World),(callFunc f args).run c.P w= .ok (.enter f args) w):
  (execOp a.eval o).run c.P w= .ok (.enter f (xs.toList.map a.eval).toArray) w/\(xs.toList.map a.eval).length=ds.length/\∀q x,ds[q]? =some x->Rel w ⟨g.S,[],[],g.M⟩ ((xs.toList.map a.eval).getD q bp) x:=by
 obtain⟨e1,e2⟩:=Q4 hp;refine⟨?_,by rw[e1];simp,λq x hx=> ?_⟩
 ·have:a.eval (.func f)= .func (.func f) #[] #[]:=rfl;simp[execOp,ho,resolve,this,pN,invoke];rw[hcf];simp;rw[<-Array.toList_map,FX]
 ·obtain⟨y,hy,sU⟩:=e2 q x hx;refine KN h ?_ sU;simp only[cO,cv]at hy;obtain⟨z,hz,rfl⟩:=hy;rw[ic];simp only[cO,hz,eH,e8];exact h.ev z
end
attribute[go_sem] yD yC
end Go.Ab
namespace Go.Ab
open Go.RowKit
section
variable {c:Ctx} {s:St}
theorem yK {a0:Act}{fn:Func}{chain:List PanicEntry}{R:Ending->World->Prop}{g:Gh}:∀(l:List Deferred) (a:Act) (w:World),RG c s a w g->a.defers=l->
  (∀w',RG c s {a with defers:=[]} w' g->(∀x,g.S x->w'.cell? x=w.cell? x)->R (.panicked chain) w')->LeavesInM cE 0 c.P fn a.tmps R l (.panicking chain) w
 |[],a,w,h,hl,hR=>hR w (by rw[show({a with defers:=[]}:Act)=a by rw[<-hl]];exact h) (λ_ _=>rfl)
 |d::l,a,w,h,hl,hR=>by
  obtain⟨iR,dw⟩:=h.df.cN;rw[hl]at iR dw;obtain⟨D,hB,rfl,hD⟩:=dw d (dI ..);refine⟨by simp, .inl ⟨D,_,rfl,run_takeDeferred hD, ?_⟩⟩;have hg:RG c s {a with defers:=l} (w.putObj D (.deferred none)) g:=h.rD hD rfl aO hB rfl ⟨(qF.1 iR).2,λd' dN=>by
   obtain⟨D',rb,rfl,kX⟩:=dw d' (dW _ dN);refine⟨D',rb,rfl, ?_⟩;rw[j7 (λe=>by subst e;exact(qF.1 iR).1 dN)];exact kX⟩
  have hc:∀x,g.S x->(w.putObj D (.deferred none)).cell? x=w.cell? x:=λx hx=>by
   obtain⟨u,hu⟩:=h.ba x hx;obtain⟨cs,t,fz,hx⟩:=tn hu;exact pJ (j7 (λe=>by subst e;rw[hD]at hx;cases hx))
  exact yK (a0:=a0) l {a with defers:=l} _ hg rfl (λw' h1 h2=>hR w' h1 (λx hx=>(h2 x hx).trans (hc x hx)))
end
section
variable {c:Ctx} {s:St}
end
section
variable {l:List Oper} {o:Oper}
end
section
variable {c:Ctx} {s:St}
end
end Go.Ab
end
section
namespace Go.Ab
open Go.RowKit
theorem ai_ (s:ByteArray)(i:Nat)(h:128<=(s.get! i).toNat):∃c w,Oe s i=(c,w)/\128<=c:=by
 have e:Utf8.runeError=65533:=rfl;unfold Oe;simp only[xX];rw[if_neg ae];split
 ·split
  ·exact⟨_,_,rfl,ae⟩
  ·exact⟨_,_,rfl,by rw[e];decide⟩
 ·split
  ·split
   ·rename_i hh;simp only[c_,decide_eq_true_eq,ge_iff_le]at hh
    exact⟨_,_,rfl,ae⟩
   ·exact⟨_,_,rfl,by rw[e];decide⟩
  ·split
   ·split
    ·rename_i hh;simp only[c_,decide_eq_true_eq,ge_iff_le]at hh
     exact⟨_,_,rfl,ae⟩
    ·exact⟨_,_,rfl,by rw[e];decide⟩
   ·exact⟨_,_,rfl,by rw[e];decide⟩
theorem ai' (str:ByteArray)(k:Nat)(hk:k < str.size):∃r w,Oe str k=(r,w)/\(if(str[k]'hk).toNat < 128 then r=(str[k]'hk).toNat else 128<=r)/\((str[k]'hk).toNat < 128->w=1):=by
 by_cases h:(str[k]'hk).toNat < 128
 ·exact⟨_,_,decode_ascii str k hk h,by rw[if_pos h],λ_=>rfl⟩
 ·have e:str.get! k=str[k]'hk:=by
   simp[ByteArray.get!,ByteArray.getElem_eq_getElem_data,hk]
  obtain⟨c,w,h1,h2⟩:=ai_ str k (by rw[e];omega);exact⟨c,w,h1,by rw[if_neg h];exact h2,λh'=>absurd h' h⟩
theorem adY {P:Program}{a:Act}{w:World}{o:Oper}{x:Operand}{str:ByteArray}{B k r wd:Nat}{N:Act->World->Prop}{Q:Exit->Act->World->Prop}(ho:o.op= .next x true)(hx:a.eval x= .pointer (some ⟨B,0,none⟩))(hB:w.heap[B]? =some (.stringIter str k))(hk:k < str.size)
  (ha:Oe str k=(r,wd))(h:N (a.put o.dst (.tuple #[.bool true, .int .i64 k, .int .i32 r])) (lY w B str (k + wd))):o.wp P a w N Q:=by
 have aV:(execOp a.eval o).run P w= .ok (.value (.tuple #[.bool true, .int .i64 k, .int .i32 r])) (lY w B str (k + wd)):=by
  simp[execOp,ho,hx,Instr.next,getObj,setObj,Sem.run,hB,hk,ha,goInt,lY]
 unfold fo;rw[aV];exact h
end Go.Ab
namespace Go.Ab
open Go.RowKit
end Go.Ab
namespace Go.Ab
end Go.Ab
end
section
namespace Go.Ab
section
variable {P:Program} {s:St} {K:St->Prop} {dst:Option Tmp} {ty:TypeId} {pos:String} {aft:Array Edge} {gd:Option (Nat×Bool)}
@[go_sem] theorem amz {x:Operand}:nF P ⟨dst, .move x,ty,pos,aft,gd⟩ s K=cZ P ⟨dst, .move x,ty,pos,aft,gd⟩ s K:=rfl
@[go_sem] theorem amE {x:Operand}:nF P ⟨dst, .assign x,ty,pos,aft,gd⟩ s K=cZ P ⟨dst, .assign x,ty,pos,aft,gd⟩ s K:=rfl
@[go_sem] theorem amF {t:TypeId}:nF P ⟨dst, .alloc t,ty,pos,aft,gd⟩ s K=cZ P ⟨dst, .alloc t,ty,pos,aft,gd⟩ s K:=rfl
@[go_sem] theorem amD {t:TypeId}{p:Array (Nat×Operand)}:nF P ⟨dst, .build t p,ty,pos,aft,gd⟩ s K=cZ P ⟨dst, .build t p,ty,pos,aft,gd⟩ s K:=rfl
@[go_sem] theorem amA {t:TypeId}{x:Operand}:nF P ⟨dst, .load t x,ty,pos,aft,gd⟩ s K=cZ P ⟨dst, .load t x,ty,pos,aft,gd⟩ s K:=rfl
@[go_sem] theorem amy {t:TypeId}{x y:Operand}:nF P ⟨dst, .store t x y,ty,pos,aft,gd⟩ s K=cZ P ⟨dst, .store t x y,ty,pos,aft,gd⟩ s K:=rfl
@[go_sem] theorem amB {t:TypeId}{x:Operand}{f:Nat}:nF P ⟨dst, .fieldAddr t x f,ty,pos,aft,gd⟩ s K=cZ P ⟨dst, .fieldAddr t x f,ty,pos,aft,gd⟩ s K:=rfl
@[go_sem] theorem amC {x:Operand}{i:Nat}:nF P ⟨dst, .extract x i,ty,pos,aft,gd⟩ s K=cZ P ⟨dst, .extract x i,ty,pos,aft,gd⟩ s K:=rfl
end
end Go.Ab
end
namespace Go.Ab
open Go.RowKit
section
variable {c:Ctx} {s:St} {a:Act} {w:World} {g:Gh}
theorem RG.QY {v:Value}{xs:List D}{e:TypeId}{sz:Nat}{vals:List Value}(h:RG c s a w g)(bw:Rel w g v (.list xs))(bI:w.ownsRow 0 e sz v xs.length vals)(bf:∀x∈xs,x.cells.length=sz)
  (hS:∀gb,v.ownBlock=some gb->c.own gb/\∀x,g.S x->x.block=gb->x.off < xs.length * sz)
  (gz:∀gb,v.ownBlock=some gb->∀(i:Nat) (x:Bx) (b:Nat),s.bx[i]? =some x->x.live=true->g.β[i]? =some b->b≠gb)
  (sc:∀gb,v.ownBlock=some gb->∀(r:Nat) (row:Row) (v2:Value) (g2:Nat),s.rw[r]? =some row->row.live=true->g.ρ[r]? =some v2->v2.ownBlock=some g2->g2≠gb):
  RG c {s with rw:=s.rw++[⟨true,e,sz,xs⟩]} a w ⟨g.S,g.β,g.ρ++[v],g.M⟩:=by
 have k:fL w g w ⟨g.S,g.β,g.ρ++[v],g.M⟩:=⟨λ_ _=>rfl,λ_ h=>h,λ_ _ h=>h,λi b hi=>by
  rw[bQ (aQ.1 hi).1];exact hi,λ_ _ h=>h⟩
 have hold:∀(i:Nat) (x:Row),(s.rw++[⟨true,e,sz,xs⟩])[i]? =some x->s.rw[i]? =some x/\i < s.rw.length\/x=⟨true,e,sz,xs⟩/\i=s.rw.length:=λi x hi=>by
  rcases ft i s.rw.length with aG|iS
  ·rw[bQ aG]at hi;exact .inl ⟨hi,aG⟩
  ·rw[dX iS]at hi;have:i - s.rw.length=0:=by have:=(aQ.1 hi).1;simp at this;omega
   rw[this]at hi;simp at hi;exact .inr ⟨hi.symm,ae⟩
 have hn:(g.ρ++[v])[s.rw.length]? =some v:=by rw[<-h.lρ];simp
 refine⟨h.df.gh rfl,h.sz,h.below,h.cu,h.ba,h.en,h.S0,h.fJ,h.lβ,by simp[h.lρ],λn=>(h.sl n).aZ k, ?_, ?_, ?_, ?_,λi es hi=>(h.mp i es hi).imp λb hm=>hm.aZ k rfl hm.nm⟩
 ·intro i cs hi;obtain⟨b,vs,t,e1,e2,e3,e4,e5,e6⟩:=(h.bx i cs hi).ex;exact⟨b,vs,t,e1,e2,e3.aZ k,e4,e5,e6⟩
 ·intro i cs hi;obtain⟨b,vs,t,e1,e2,e3,e4,e5,e6⟩:=(h.fz i cs hi).ex;exact⟨b,vs,t,e1,e2,e3,e4,e5,e6⟩
 ·intro r row hr;rcases hold r _ hr with⟨hr,_⟩|⟨rfl,rfl⟩
  ·obtain⟨v,e1,e2,e3⟩:=(h.rw r row hr).ex;exact⟨v,k.ρ _ _ e1,e2.aZ k,e3⟩
  ·exact⟨_,hn,bw.aZ k,λ_=>⟨⟨vals,bI⟩,bf,hS⟩⟩
 ·obtain⟨κ,k1,k2⟩:=h.ap;refine⟨λb=>if v.ownBlock=some b then .inr s.rw.length else κ b,λi x b hi hx hb=> ?_,λr row v2 gb hr hl hv aI=> ?_⟩
  ·simp only;rw[if_neg (λe=>gz b e i x b hi hx hb rfl)];exact k1 i x b hi hx hb
  ·rcases hold r _ hr with⟨hr,aG⟩|⟨rfl,rfl⟩
   ·rw[bQ (by rw[h.lρ];exact aG)]at hv;simp only;rw[if_neg (λe=>sc gb e r row v2 gb hr hl hv aI rfl)];exact k2 r row v2 gb hr hl hv aI
   ·rw[hn]at hv;cases hv
    simp only;rw[if_pos aI]
theorem alp {id d:Nat}{t e:TypeId}{ty:TypeId}{pos:String}{aft:Array Edge}{l:List Oper}{Q:Exit->St->Prop}(he:elemOf c.P t=some e)(hz:aC c.P e≠0)(hd:d < s.n)
  (h:∀K:St->Prop,(∀s',Q .normal s'->K s')->bZ c.P (⟨some d, .buildSlice t 0 #[],ty,pos,aft,none⟩::l) l (St.put {s with rw:=s.rw++[⟨true,e,aC c.P e,[]⟩]} (some d) (.own s.rw.length)) K):
  av c (.region id (⟨some d, .buildSlice t 0 #[],ty,pos,aft,none⟩::l).toArray false) Q s:=by
 rintro a w ⟨g,hg⟩;refine wpIn_region_lit ?_;obtain⟨o,ho⟩:∃o:Oper,o=⟨some d, .buildSlice t 0 #[],ty,pos,aft,none⟩:=⟨_,rfl⟩;rw[<-ho]at h⊢;unfold wpListIn;rw[if_pos (by rw[ho];simp[eh])];have aV:(execOp a.eval o).run c.P w= .ok (.value (.slice (some ⟨w.heap.size,0,none⟩) 0 0)) (w.alloc (.cells #[] e)):=by
  have r0:Array.range 0=#[]:=rfl;rw[ho];simp[execOp,Instr.buildSlice,run_underlying (mD he),run_sizeOf hz,newRow,r0,Instr.fill]
 have aG:∀{b},b < w.heap.size->b≠w.heap.size:=λh e=>by omega
 have hb:=zI w (.cells #[] e);have hw:=hg.world hb (λ_ h=>h) (λ_ h=> .inl h) (hg.ba.below hb);have hp:=hw.QY (v:= .slice (some ⟨w.heap.size,0,none⟩) 0 0) (xs:=[]) (e:=e) (sz:=aC c.P e) (vals:=[])
  (.list _ _ 0 0 [] (aC c.P e) (λ_=>bp) rfl aO (aY 0) (λq hq=>by simp[flat]at hq) (λq d hd=>by simp[flat]at hd))
  ⟨by simp, .inr ⟨w.heap.size,0,#[],rfl,bD _,heap_alloc_new w _,aY _,bD _,by simp,by simp⟩⟩ aO
  (λgb aI=>by
   simp[Value.ownBlock]at aI;subst aI;exact⟨hg.cu _ hg.below.size,λx hx e=>by have:=hg.ba.lt hx;omega⟩)
  (λgb aI i x b hi hx hb=>by
   simp[Value.ownBlock]at aI;subst aI;exact aG (hg.rk hi hx hb).1)
  (λgb aI r row v2 g2 hr hl hv h2=>by
   simp[Value.ownBlock]at aI;subst aI;exact aG (hg.pU hr hl hv h2).1)
 refine gK (by rw[ho];intro cl h;cases h) ?_;unfold fo;rw[aV];have agJ:o.dst=some d:=by rw[ho]
 show wpListIn c.F 0 c.P (o::l).toArray (λe a' w'=>∃s',R c s' a' w'/\Q e s') l (a.put o.dst _) _;rw[agJ];refine qu (K:=Q .normal) (λs a w hr hq=>⟨s,hr,hq⟩) l _ _ _ ⟨_,RG.put (s:={s with rw:=s.rw++[⟨true,e,aC c.P e,[]⟩]}) (dst:=some d) (d:= .own s.rw.length) hp hd (.own _ _ _ ?_)⟩ (h _ (λ_ h=>h));show(g.ρ++[_])[s.rw.length]? =_;rw[<-hg.lρ];simp
end
end Go.Ab
section
namespace Go.Ab
open Go.RowKit
def inner (c:Ctx)(W:World)(g:Gh):Ctx:=⟨c.P,W,g.S,g.M,none,λb=>W.heap.size<=b\/(c.own b/\dp W b),g.β⟩
def aH (P:Program)(f:FuncId)(ds:List D)(bx:List Bx)(rw:List Row)(K:D->List Bx->List Row->Prop):Prop:=
 (∀(args:Array Value) (w:World),(callFunc f args).run P w= .ok (.enter f args) w)/\
 ∀(c:Ctx) (st:St) (a:Act) (W:World) (g:Gh) (args:List Value),c.P=P->RG c st a W g->st.bx=bx->st.rw=rw->args.length=ds.length->(∀q x,ds[q]? =some x->Rel W g (args.getD q bp) x)->
  Calls P f args.toArray W λe W'=>∃v d s2 a2 g2,e= .returned v/\RG (inner c W g) s2 a2 W' g2/\Rel W' g2 v d/\K d s2.bx s2.rw
theorem aH.mono {P:Program}{f:FuncId}{ds:List D}{bx:List Bx}{rw:List Row}{K K':D->List Bx->List Row->Prop}(h:aH P f ds bx rw K)(hk:∀d aB aD,K d aB aD->K' d aB aD):aH P f ds bx rw K':=by
 refine⟨h.1,λc st a W g args hP hg hb hr hl bw=>(h.2 c st a W g args hP hg hb hr hl bw).mono ?_⟩;rintro e w' ⟨v,d,s2,a2,g2,h1,h2,h3,h4⟩;exact⟨v,d,s2,a2,g2,h1,h2,h3,hk _ _ _ h4⟩
def GO (P:Program)(s:St):ResultVar->(D->Prop)->Prop
 | .tmp t,k=>k (s.sl t)
 | .cell t ty,k=>k9 P s.bx ty (s.sl t) k
def yB (P:Program)(s:St):List ResultVar->(List D->Prop)->Prop
 |[],k=>k []
 |r::rs,k=>GO P s r λd=>yB P s rs λds=>k (d::ds)
def cC (P:Program)(rs:Array ResultVar)(K:D->List Bx->List Row->Prop):Exit->St->Prop
 | .normal,s=>yB P s rs.toList λds=>K (pd ds) s.bx s.rw
 | .ret,s=>yB P s rs.toList λds=>K (pd ds) s.bx s.rw
 |_,_=>False
section
variable {c:Ctx} {s:St} {a:Act} {w:World} {g:Gh}
theorem acZ (h:RG c s a w g){r:ResultVar}{k:D->Prop}(hk:GO c.P s r k):∃v d,(u5 a.tmps r).run c.P w= .ok v w/\Rel w g v d/\k d:=by
 cases r with
 |tmp t=>exact⟨_,_,rfl,h.sl t,hk⟩
 |cell t ty=>
  simp only[GO]at hk;have hx:=h.sl t;cases ed:s.sl t<;>rw[ed]at hk hx<;>simp only[k9]at hk
  ·rename_i i off;obtain⟨cs,aw,hk⟩:=CD hk;obtain⟨b,vs,tb,e1,e2,e3⟩:=h.mem.bx i cs aw;generalize hv:a.tmps.getD t undef=v at hx;cases hx with
   |box _ _ _ b' cr=>
    obtain rfl:b'=b:=by rw[e1]at cr;exact(iA cr).symm
    obtain⟨h1,h2⟩:=vP e2 e3 off;obtain⟨v,d,aV,hr,hk⟩:=Ax (P:=c.P) (t:=ty) (ad:=⟨b',off,none⟩) h1 h2 hk;exact⟨v,d,by simp only[u5,hv];simp[asAddr,aV],hr,hk⟩
  ·rename_i cs;obtain⟨ad,u,hv,hm,hr⟩:=hx.C6;obtain⟨v,d,aV,hr,hk⟩:=Ax (P:=c.P) (w:=w) (g:=g) (t:=ty) (ad:=ad) (cs:=cs) (u:=u) (λq hq=>⟨(hm q hq).1,(hm q hq).2.2⟩) (λq d hd=>(hr q d hd).aZ (ud _ _)) hk;exact⟨v,d,by simp only[u5,hv];simp[asAddr,aV],hr,hk⟩
theorem QO (h:RG c s a w g):∀{rs:List ResultVar} {k:List D->Prop},yB c.P s rs k->
  ∃vs ds,(rs.mapM (u5 a.tmps)).run c.P w= .ok vs w/\vs.length=ds.length/\(∀q d,ds[q]? =some d->Rel w g (vs.getD q undef) d)/\k ds
 |[],k,hk=>⟨[],[],by simp,rfl,by simp,hk⟩
 |r::rs,k,hk=>by
  obtain⟨v,d,h1,h2,hk⟩:=acZ h hk;obtain⟨vs,ds,h3,h4,h5,hk⟩:=QO h hk;refine⟨v::vs,d::ds, ?_,by simp[h4],λq x hx=> ?_,hk⟩
  ·rw[List.mapM_cons];simp only[Sem.run_bind,h1,Result.andThen_ok,h3,Sem.run_pure]
  ·cases q with
   |zero=>simp at hx;subst hx;exact h2
   |succ q=>exact h5 q x (by simpa using hx)
theorem Se {fn:Func}{k:List D->Prop}{R:Ending->World->Prop}:∀(l:List Deferred) (a:Act) (w:World),RG c s a w g->a.defers=l->yB c.P s fn.results.toList k->
  (∀v w' ds,RG c s {a with defers:=[]} w' g->Rel w' g v (pd ds)->k ds->R (.returned v) w')->LeavesInM cE 0 c.P fn a.tmps R l .returning w
 |[],a,w,h,hl,hq,hR=>by
  obtain⟨vs,bR,h1,h2,h3,hk⟩:=QO h hq;refine⟨(if h:vs.length=1 then vs[0]else .tuple vs.toArray), ?_,hR _ _ bR (by rw[show({a with defers:=[]}:Act)=a by rw[<-hl]];exact h) ?_ hk⟩
  ·rw[GL,Array.mapM_eq_mapM_toList];simp only[Sem.run_bind,Sem.run_map,h1];simp
  ·match vs,bR,h2 with
   |[v],[d],_=>simpa[pd]using h3 0 d rfl
   |[],[],_=>exact .aF _ _ _ rfl aO
   |v1::v2::vs,d1::d2::ds,h2=>
    simp only[List.length_cons,pd];rw[dif_neg ae];exact .aF _ _ _ (by simpa using h2) (λq d hd=>by simpa using h3 q d hd)
 |d::l,a,w,h,hl,hq,hR=>by
  obtain⟨iR,dw⟩:=h.df.cN;rw[hl]at iR dw;obtain⟨D,hB,rfl,hD⟩:=dw d (dI ..);refine⟨by simp, .inl ⟨D,_,rfl,run_takeDeferred hD, ?_⟩⟩;have hg:RG c s {a with defers:=l} (w.putObj D (.deferred none)) g:=h.rD hD rfl aO hB rfl ⟨(qF.1 iR).2,λd' dN=>by
   obtain⟨D',rb,rfl,kX⟩:=dw d' (dW _ dN);refine⟨D',rb,rfl, ?_⟩;rw[j7 (λe=>by subst e;exact(qF.1 iR).1 dN)];exact kX⟩
  exact Se l {a with defers:=l} _ hg rfl hq hR
theorem Ky {fn:Func}{K:D->List Bx->List Row->Prop}{e:Exit}(h:RG c s a w g)(hq:cC c.P fn.results K e s){Rr:Ending->World->Prop}(hR:∀v w' d,RG c s {a with defers:=[]} w' g->Rel w' g v d->K d s.bx s.rw->Rr (.returned v) w'):
  bodyPostM cE 0 c.P fn Rr e a w:=by
 have key:(yB c.P s fn.results.toList λds=>K (pd ds) s.bx s.rw)->LeavesInM cE 0 c.P fn a.tmps Rr a.defers .returning w:=λhq=>
  Se (k:=λds=>K (pd ds) s.bx s.rw) a.defers a w h rfl hq (λv w' ds h1 h2 h3=>hR v w' (pd ds) h1 h2 h3)
 cases e<;>first|exact key hq|exact hq.elim
end
theorem akD {P:Program}{f:FuncId}{fn:Func}{code:Code}{ds:List D}{bx:List Bx}{rw:List Row}{K:D->List Bx->List Row->Prop}(hf:P.funcs[f]? =some fn)(hb:fn.body=some code)
  (hc:∀(args:Array Value) (w:World),(callFunc f args).run P w= .ok (.enter f args) w)(hn:ds.length<=fn.ntmps)
  (h:∀c:Ctx,c.P=P->c.l=none->c.β0.length=bx.length->av c code (cC P fn.results K) ⟨fn.ntmps,kQ 0 ds,bx,rw⟩):aH P f ds bx rw K:=by
 refine⟨hc,λc st a W g args hP hg fQ ml hl bw=> ?_⟩;subst hP;subst fQ;subst ml
 refine(callsIn_wide (n:=0)).1 (callsIn_of_wp_marks hf hb trivial ?_);have lu:RG (inner c W g) ⟨fn.ntmps,kQ 0 ds,st.bx,st.rw⟩ {tmps:=args.toArray++gW (fn.ntmps - args.toArray.size) undef,defers:=[]} W g:=hg.zz rfl (by simp;omega) (λm=>by
  simp only;rw[tU];simp only[Nat.not_lt_zero,if_false,su];cases hd:ds[m]? with
  |none=>exact .undef _ _
  |some x=>
   have hm:=(aQ.1 hd).1;have:=bw m x hd;have e:(args.toArray++gW (fn.ntmps - args.toArray.size) undef).getD m undef=args.getD m undef:=by
    have:m < args.length:=ae;simp[Array.getElem?_append,this]
   rw[e];exact this)
 have hw:=h (inner c W g) rfl rfl hg.lβ _ W ⟨g,lu⟩;refine wpIn_mono (F:=cE) hw ?_;rintro e a' w' ⟨s',⟨g',gQ⟩,hq⟩;exact Ky gQ hq (λv w2 d h2 hv hk=>⟨v,d,s',_,g',rfl,h2,hv,hk⟩)
theorem akF {P:Program}{f:FuncId}{fn:Func}{code:Code}{ds:List D}{bx:List Bx}{rw:List Row}{K:D->List Bx->List Row->Prop}{n:Nat}{rs:Array ResultVar}(hf:P.funcs[f]? =some fn)(hn:fn.ntmps=n)(hr:fn.results=rs)
  (hc:∀(args:Array Value) (w:World),(callFunc f args).run P w= .ok (.enter f args) w)(hb:fn.body=some code)(hl:ds.length<=n)
  (h:∀(w0:World) (S0:Addr->Prop) (M0:MM) (own:Nat->Prop) (β:List Nat),β.length=bx.length->av ⟨P,w0,S0,M0,none,own,β⟩ code (cC P rs K) ⟨n,kQ 0 ds,bx,rw⟩):aH P f ds bx rw K:=by
 subst hn;subst hr
 refine akD hf hb hc hl ?_;rintro⟨_,w0,S0,M0,l,own,b0⟩ h1 h2 h3;simp only at h1 h2 h3;subst h1;subst h2
 exact h w0 S0 M0 own b0 h3
def iJ (nb:Nat)(d:D):D:=bif cq nb 0 d then d else .undef
def j4 (nb:Nat)(sl:Nat->D):Nat->D:=λm=>iJ nb (sl m)
theorem EP (nb:Nat)(d:D):Names nb 0 (iJ nb d):=by
 unfold iJ;cases h:cq nb 0 d with
 |true=>exact t_ d h
 |false=>exact .undef
theorem Iu {w:World}{g:Gh}{v:Value}{d:D}{nb:Nat}(h:Rel w g v d):Rel w g v (iJ nb d):=by
 unfold iJ;cases cq nb 0 d with
 |true=>exact h
 |false=>exact .undef _ _
@[go_sem] theorem aiU {nb:Nat}{sl:Nat->D}{n:Nat}{v:D}:j4 nb (put sl n v)=put (j4 nb sl) n (iJ nb v):=by
 funext m;simp only[j4,put];split<;>rfl
@[go_sem] theorem ano {nb:Nat}:j4 nb dJ=dJ:=rfl
@[go_sem] theorem anw {nb:Nat}{k:IntKind}{n:Int}:iJ nb (.int k n)= .int k n:=rfl
@[go_sem] theorem anB {nb:Nat}{b:Bool}:iJ nb (.bool b)= .bool b:=rfl
@[go_sem] theorem anr {nb:Nat}{b:ByteArray}:iJ nb (.str b)= .str b:=rfl
@[go_sem] theorem anv {nb:Nat}{l:List D}:iJ nb (.list l)= .list l:=rfl
@[go_sem] theorem ans {nb:Nat}{l:List D}:iJ nb (.ro l)= .ro l:=rfl
@[go_sem] theorem anp {nb:Nat}{v:Value}:iJ nb (.val v)= .val v:=rfl
@[go_sem] theorem anC {nb:Nat}:iJ nb .any= .any:=rfl
@[go_sem] theorem anu {nb i:Nat}:iJ nb (.bu i)=if i < nb then .bu i else .undef:=by
 unfold iJ;simp only[cq];by_cases h:i < nb<;>simp[h]
@[go_sem] theorem ant {nb r:Nat}:iJ nb (.own r)= .undef:=rfl
@[go_sem] theorem anA {nb i off:Nat}:iJ nb (.box i off)=if i < nb then .box i off else .undef:=by
 unfold iJ;simp only[cq];by_cases h:i < nb<;>simp[h]
@[go_sem] theorem anz {nb i off n k:Nat}:iJ nb (.aN i off n k)=if i < nb then .aN i off n k else .undef:=by
 unfold iJ;simp only[cq];by_cases h:i < nb<;>simp[h]
@[go_sem] theorem anD {nb:Nat}{l:List D}:iJ nb (.agg l)=bif bN nb 0 l then .agg l else .undef:=rfl
@[go_sem] theorem anq {nb:Nat}{l:List D}:iJ nb (.aF l)=bif bN nb 0 l then .aF l else .undef:=rfl
@[go_sem] theorem anx {nb:Nat}{f:FuncId}{l:List D}:iJ nb (.ag f l)=bif bN nb 0 l then .ag f l else .undef:=rfl
def xN (bx:List Bx)(rw:List Row):List D->List D->Prop
 |[],[]=>True
 |d::l,d'::l'=>(d'=d\/yD bx rw d=some d')/\xN bx rw l l'
 |_,_=>False
attribute[go_sem] xN
theorem E7 {bx:List Bx}{rw:List Row}:∀{l:List D},xN bx rw l l
 |[]=>trivial
 |_::_=>⟨.inl rfl,E7⟩
theorem IS {c:Ctx}{s:St}{a:Act}{w:World}{g:Gh}(h:RG c s a w g):∀{l l':List D} {vs:List Value},xN s.bx s.rw l l'->vs.length=l.length->(∀q x,l[q]? =some x->Rel w g (vs.getD q bp) x)->
  l'.length=l.length/\∀q x,l'[q]? =some x->Rel w g (vs.getD q bp) x
 |[],[],vs,_,_,_=>⟨rfl,λq x hx=>by simp at hx⟩
 |d::l,d'::l',[],_,hl,_=>by simp at hl
 |d::l,d'::l',v::vs,hk,hl,hr=>by
  obtain⟨h1,h2⟩:=IS h (l:=l) (l':=l') (vs:=vs) hk.2 (by simpa using hl) (λq x hx=>by simpa using hr (q + 1) x (by simpa using hx));refine⟨by simp[h1],λq x hx=> ?_⟩;cases q with
  |zero=>
   simp at hx;subst hx
   have h0:=hr 0 d rfl;rcases hk.1 with rfl|hp
   ·simpa using h0
   ·exact(KN h (by simpa using h0) hp).aZ (ud _ _)
  |succ q=>simpa using h2 q x (by simpa using hx)
 |[],_::_,_,hk,_,_=>hk.elim
 |_::_,[],_,hk,_,_=>hk.elim
def nq (c:Ctx)(N:St->Prop)(fx:Operand)(xs:List Operand)(dst:Option Tmp)(s1:St):Prop:=
 bd s1 dst/\lW (s1.ev fx) λf fs cs=>∃ds,xN s1.bx s1.rw (fs++xs.map s1.ev++cs) ds/\aH c.P f ds s1.bx s1.rw λd aB aD=>N (St.put ⟨s1.n,j4 s1.bx.length s1.sl,aB,aD⟩ dst d)
theorem akV {c:Ctx}{N:St->Prop}{fx:Operand}{xs:List Operand}{dst:Option Tmp}{s1:St}(h2:lW (s1.ev fx) λf fs cs=>∃ds,xN s1.bx s1.rw (fs++xs.map s1.ev++cs) ds/\aH c.P f ds s1.bx s1.rw λd aB aD=>N (St.put ⟨s1.n,j4 s1.bx.length s1.sl,aB,aD⟩ dst d))(h1:bd s1 dst):nq c N fx xs dst s1:=⟨h1,h2⟩
section
variable {c:Ctx} {s:St}
theorem NY {N:St->Prop}{y:Oper}{fx:Operand}{xs:Array Operand}{dst:Option Tmp}{at_:Array TypeId}{ty:TypeId}{pos:String}{aft:Array Edge}{s1:St}{a1:Act}{w1:World}{N':Act->World->Prop}{Q':Exit->Act->World->Prop}
  (hy:y=⟨dst, .call ⟨.value fx,xs,at_⟩,ty,pos,aft,none⟩)(hr:R c s1 a1 w1)(hk:nq c N fx xs.toList dst s1)(hN:∀s a w,R c s a w->N s->N' a w):y.wpIn c.F 0 c.P a1 w1 N' Q':=by
 obtain⟨hd,hk⟩:=hk;obtain⟨g1,aK⟩:=hr;obtain⟨f,fs,cs,⟨vf⟩,⟨vs⟩,⟨ds,hp,hC⟩,hv,xg,hl,yX,hr⟩:=CC (aK.ev fx) hk;have um:vf.length=fs.length:=by simpa using xg
 have lR:vs.length=cs.length:=by simpa using hl
 have aV:(execOp a1.eval y).run c.P w1= .ok (.enter f (vf++xs.toList.map a1.eval++vs).toArray) w1:=by
  simp[execOp,hy,resolve,hv,pN,invoke];rw[hC.1];simp
 obtain⟨e1,e2⟩:=IS aK (vs:=vf++xs.toList.map a1.eval++vs) hp (by simp[um,lR]) (λq y hy=>by
  rw[ic];rw[kK]at hy⊢;rcases ft q fs.length with hq|hq
  ·rw[bQ hq]at hy;rw[bQ ae];have:=yX q y hy;simpa using this
  rw[dX hq]at hy;rw[dX ae,um];rcases ft (q - fs.length) (xs.toList.map s1.ev).length with hq|hq
  ·rw[bQ hq]at hy;simp only[cO,cv]at hy;obtain⟨z,hz,rfl⟩:=hy;rw[bQ (by simpa using hq)];simp only[cO,hz,eH,e8];exact aK.ev z
  ·rw[dX hq]at hy;have:=hr _ y hy;rw[dX (by simpa using hq)];simpa using this)
 have fk:RG c ⟨s1.n,j4 s1.bx.length s1.sl,s1.bx,s1.rw⟩ a1 w1 g1:=⟨aK.df,aK.sz,aK.below,aK.cu,aK.ba,aK.en,aK.S0,aK.fJ,aK.lβ,aK.lρ,λm=>Iu (aK.sl m),aK.bx,aK.fz,aK.rw,aK.ap,aK.mp⟩;have bf:=hC.2 c _ a1 w1 g1 (vf++xs.toList.map a1.eval++vs) rfl fk rfl rfl (by simp only[eQ,iB]at e1⊢;omega) e2;refine gK (by rw[hy];intro cl h;cases h) ?_;unfold fo;rw[aV];refine bf.mono ?_;rintro e w' ⟨v,d,s2,a2,g2,rfl,h2,bw,lp⟩;have hb:=fk.yL h2 (λm=>EP _ _);have lO:y.dst=dst:=by rw[hy]
 show N' (a1.put y.dst v) w';rw[lO];exact hN _ _ _ ⟨_,hb.put hd bw⟩ lp
theorem et {Q:Exit->St->Prop}{id:Nat}{l:List Oper}(n:Nat){fx:Operand}{xs:Array Operand}{dst:Option Tmp}{at_:Array TypeId}{ty:TypeId}{pos:String}{aft:Array Edge}
  (hl:l=l.take n++⟨dst, .call ⟨.value fx,xs,at_⟩,ty,pos,aft,none⟩::l.drop (n + 1))
  (h:∀K1:St->Prop,(∀s1,nq c (λs2=>bZ c.P l (l.drop (n + 1)) s2 (λs2=>Q .normal s2)) fx xs.toList dst s1->K1 s1)->bZ c.P l (l.take n) s K1):
  av c (.region id l.toArray false) Q s:=by
 intro a w hr;refine wpIn_region_lit ?_;rw[hl];rw[hl]at h;have kU:(l.take n++(⟨dst, .call ⟨.value fx,xs,at_⟩,ty,pos,aft,none⟩:Oper)::l.drop (n + 1)).take n=l.take n:=by rw[<-hl]
 have eN:(l.take n++(⟨dst, .call ⟨.value fx,xs,at_⟩,ty,pos,aft,none⟩:Oper)::l.drop (n + 1)).drop (n + 1)=l.drop (n + 1):=by rw[<-hl]
 rw[kU,eN]at h;generalize l.take n=l1 at *;generalize l.drop (n + 1)=l2 at *;obtain⟨y,hy⟩:∃y:Oper,y=⟨dst, .call ⟨.value fx,xs,at_⟩,ty,pos,aft,none⟩:=⟨_,rfl⟩;rw[<-hy]at h⊢;refine qv (c:=c) (λs1 a1 w1 fO cX=> ?_) l1 s a w hr (h _ (λs1 h1=>h1));show wpListIn c.F 0 c.P _ _ (y::l2) a1 w1;unfold wpListIn;rw[if_pos (by rw[hy];simp[eh])];exact NY (c:=c) hy fO cX (λs3 a3 w3 jV nf=>qu (c:=c) (K:=λs2=>Q .normal s2) (λs4 a4 w4 lP qi=>⟨s4,lP,qi⟩) l2 _ _ _ jV nf)
end
attribute[go_sem] GO yB cC
end Go.Ab
end
section
namespace Go.Ab
open Go.RowKit
section
variable {P:Program} {w0:World} {S0:Addr->Prop} {M0:MM} {own:Nat->Prop} {β0:List Nat}
end
theorem afE {c:IC}{Q:Exit->Ix->St->Prop}{s:St}{k id:Nat}{l1 l2:List Oper}{fx:Operand}{ys:Array Operand}{dst:Option Tmp}{at_:Array TypeId}{ty:TypeId}{pos:String}{aft:Array Edge}{gd:Option (Nat×Bool)}
  (h:∀K1:St->Prop,(∀s1 d,s1.ev fx= .val (.func (.yield c.l) #[] #[])->gm s1.bx s1.rw (ys.toList.map s1.ev)=some d->c.xs[k]? =some d->bd s1 dst->(∀(j:Nat) (b:Bool),gd=some (j,b)->∃t,iu (l1++⟨dst, .call ⟨.value fx,ys,at_⟩,ty,pos,aft,gd⟩::l2) j=some t/\s1.sl t= .bool b)->
    (∀b:Bool,bZ c.P (l1++⟨dst, .call ⟨.value fx,ys,at_⟩,ty,pos,aft,gd⟩::l2) l2 (s1.put dst (.bool b)) (λs2=>Q .normal (b,k + 1) s2))->K1 s1)->
   bZ c.P (l1++⟨dst, .call ⟨.value fx,ys,at_⟩,ty,pos,aft,gd⟩::l2) l1 s K1):
  IA c (.region id (l1++⟨dst, .call ⟨.value fx,ys,at_⟩,ty,pos,aft,gd⟩::l2).toArray false) Q (true,k) s:=by
 intro aW a w T S M hJ ⟨lt,g,e1,e2,hg⟩;obtain⟨y,hy⟩:∃y:Oper,y=⟨dst, .call ⟨.value fx,ys,at_⟩,ty,pos,aft,gd⟩:=⟨_,rfl⟩;rw[<-hy]at h⊢;refine wpIn_region_lit ?_;have sZ:=h (λs1=>∃d,s1.ev fx= .val (.func (.yield c.l) #[] #[])/\gm s1.bx s1.rw (ys.toList.map s1.ev)=some d/\c.xs[k]? =some d/\bd s1 dst/\(∀(j:Nat) (b:Bool),gd=some (j,b)->∃t,iu (l1++y::l2) j=some t/\s1.sl t= .bool b)/\
   ∀b:Bool,bZ c.P (l1++y::l2) l2 (s1.put dst (.bool b)) (λs2=>Q .normal (b,k + 1) s2)) (λs1 d h1 h2 h3 h4 cP h6=>⟨d,h1,h2,h3,h4,cP,h6⟩)
 refine qv (c:=⟨c.P,w,S,M,none,λb=>T b\/w.heap.size<=b,[]⟩) (λs1 a1 w1 fO cX=> ?_) l1 s a w ⟨g,hg⟩ sZ;obtain⟨g1,aK⟩:=fO;obtain⟨d,h1,h2,h3,h4,cP,h6⟩:=cX;obtain⟨T1,hi,hr⟩:=IR.next lt aK;have EG:=aW.ab (true,k) _ _ _ _ _ _ _ _ hJ hi;have ql:=aK.ev fx;rw[h1]at ql;generalize hv:a1.eval fx=vf at ql;cases ql;obtain⟨q1,q2⟩:=u9 h2;have hY:=aW.rd k T1 g1.S g1.M w1 (ys.toList.map a1.eval) d h3 EG (by rw[q1];simp) (λq dd hq=>by
  obtain⟨z,hz,hp⟩:=q2 q dd hq;simp only[cO,cv]at hz;obtain⟨u,hu,rfl⟩:=hz;rw[ic];simp only[cO,hu,eH,e8];exact rI aK (aK.ev u) hp)
 obtain⟨fn,tmps,assign,body,aV,DU⟩:=hY;show wpListIn cE 0 c.P _ _ (y::l2) a1 w1;unfold wpListIn;have LU:eh y (Go.yielded (l1++y::l2).toArray a1.tmps)=true:=by
  have Eg:y.guard=gd:=by rw[hy]
  cases gd with
  |none=>simp[eh,Eg]
  |some q=>
   obtain⟨j,b⟩:=q;obtain⟨t,ht,hb⟩:=cP j b rfl;have LL:=R.yielded (ops:=(l1++y::l2).toArray) aK (by simpa using ht) hb;simp[eh,Eg,LL]
 rw[if_pos LU];refine⟨λ_ _=>trivial, ?_⟩;have yW:(y.semAt cE.round a1.eval).run c.P w1= .ok (.round c.l fn tmps assign body) w1:=by
  rw[Oper.semAt_eq _ _ _ (by rw[hy];intro cl h;cases h),hy];simp[execOp,resolve,hv,pN,invoke,aV];rw[<-Array.toList_map,FX]at aV;simp[aV]
 rw[yW,Oper.uponIn_round];refine⟨λh=>(by cases h),DU.mono ?_⟩;rintro e w2 ⟨S2,M2,hf,iY⟩;have cV:=hr.round hf;have fin:∀b:Bool,JX c.J c.Jx (b,k + 1) T1 S2 M2 w2->wpListIn cE 0 c.P (l1++y::l2).toArray (λe a' w'=>∃i' s' T' S' M',JX c.J c.Jx i' T' S' M' w'/\IR c.P T' S' M' s' a' w'/\Q e i' s') l2 (a1.put y.dst (.bool b)) w2:=by
  intro b kx;obtain⟨Dt,g2,f1,f2,fk⟩:=cV;have jo:RG ⟨c.P,w2,S2,M2,none,λb=>T1 b\/w2.heap.size<=b,[]⟩ (s1.put dst (.bool b)) (a1.put dst (.bool b)) w2 g2:=fk.put h4 (.bool _ _);have lO:y.dst=dst:=by rw[hy]
  rw[lO];refine qu (c:=⟨c.P,w2,S2,M2,none,λb=>T1 b\/w2.heap.size<=b,[]⟩) (K:=λs2=>Q .normal (b,k + 1) s2) (λs3 a3 w3 jV nf=> ?_) l2 _ _ _ ⟨g2,jo⟩ (h6 b);obtain⟨g3,de⟩:=jV;obtain⟨T3,xl,DV⟩:=IR.next Dt de;exact⟨(b,k + 1),s3,T3,_,_,aW.ab (b,k + 1) _ _ _ _ _ _ _ _ kx xl,DV,nf⟩
 rcases iY with⟨rfl,kx⟩|⟨rfl,kx⟩
 ·exact fin true kx
 ·exact fin false kx
theorem Tb {c:IC}{Q:Exit->Ix->St->Prop}{s:St}{k id:Nat}{l:List Oper}(n:Nat){fx:Operand}{ys:Array Operand}{dst:Option Tmp}{at_:Array TypeId}{ty:TypeId}{pos:String}{aft:Array Edge}{gd:Option (Nat×Bool)}
  (hl:l=l.take n++⟨dst, .call ⟨.value fx,ys,at_⟩,ty,pos,aft,gd⟩::l.drop (n + 1))
  (h:∀K1:St->Prop,(∀s1 d,s1.ev fx= .val (.func (.yield c.l) #[] #[])->gm s1.bx s1.rw (ys.toList.map s1.ev)=some d->c.xs[k]? =some d->bd s1 dst->(∀(j:Nat) (b:Bool),gd=some (j,b)->∃t,iu l j=some t/\s1.sl t= .bool b)->
    (∀b:Bool,bZ c.P l (l.drop (n + 1)) (s1.put dst (.bool b)) (λs2=>Q .normal (b,k + 1) s2))->K1 s1)->
   bZ c.P l (l.take n) s K1):
  IA c (.region id l.toArray false) Q (true,k) s:=by
 have h2:=afE (c:=c) (Q:=Q) (s:=s) (k:=k) (id:=id) (l1:=l.take n) (l2:=l.drop (n + 1)) (fx:=fx) (ys:=ys) (dst:=dst) (at_:=at_) (ty:=ty) (pos:=pos) (aft:=aft) (gd:=gd);rw[<-hl]at h2;exact h2 h
end Go.Ab
end
section
namespace Go.Ab
open Go.RowKit
end Go.Ab
end
section
namespace Go.Ab
open Go.RowKit
theorem Rel.names {w:World}{g:Gh}{v:Value}{d:D}(h:Rel w g v d):Names g.β.length g.ρ.length d:=by
 induction h with
 |undef g v=>exact .undef
 |int g k n=>exact .int _ _
 |bool g b=>exact .bool _
 |str g s=>exact .str _
 |val g v=>exact .val _
 |list g A n c xs sz u hn aR eO hm hr ih=>exact .list _
 |agg g vs cs hl h1 hr ih=>exact .agg _ λd hd=>by obtain⟨q,hq⟩:=v7.1 hd;exact ih q d hq
 |aF g vs cs hl hr ih=>exact .aF _ λd hd=>by obtain⟨q,hq⟩:=v7.1 hd;exact ih q d hq
 |box g i off b hb=>exact .box _ _ (aQ.1 hb).1
 |ro g a cs u hm hr ih=>exact .ro _
 |own g r v h=>exact .own _ (aQ.1 h).1
 |ag g f vs cs hl hr ih=>exact .ag _ _ λd hd=>by obtain⟨q,hq⟩:=v7.1 hd;exact ih q d hq
 |bM g b f h=>exact .bM _
 |aN g i off n c b hb=>exact .aN _ _ _ _ (aQ.1 hb).1
 |skp g=>exact .skp
 |any g v h1=>exact .any
 |bu g i b hb=>exact .bu _ (aQ.1 hb).1
 |cL g f vs cs hl hr ih=>exact .cL _ _ λd hd=>by obtain⟨q,hq⟩:=v7.1 hd;exact ih q d hq
end Go.Ab
end
section
namespace Go.Ab
open Go.RowKit
section
variable {c:Ctx} {s:St} {Q:Exit->St->Prop} {code:Code}
theorem B3 (i q:Nat)(e:TypeId)(sz:Nat)(cs:List D)(hi:s.bx[i]? =some (.mu cs))(hq:cs[q]? =some (.val (.slice none 0 0)))
  (h:av c code Q {s with bx:=s.bx.set i (.mu (cs.set q (.own s.rw.length))),rw:=s.rw++[⟨true,e,sz,[]⟩]}):av c code Q s:=by
 rintro a w ⟨g,hg⟩;refine h a w ⟨⟨g.S,g.β,g.ρ++[.slice none 0 0],g.M⟩, ?_⟩;have hp:=hg.C_ e sz;have eg:i < s.bx.length:=(aQ.1 hi).1;have jE:q < cs.length:=(aQ.1 hq).1;have hold:∀(j:Nat) (x:Bx),(s.bx.set i (.mu (cs.set q (.own s.rw.length))))[j]? =some x->(j=i/\x= .mu (cs.set q (.own s.rw.length)))\/(j≠i/\s.bx[j]? =some x):=λj x hj=>by
  by_cases bF:j=i
  ·subst bF;rw[jg eg]at hj;exact .inl ⟨rfl,(iA hj).symm⟩
  ·rw[gj (fq bF)]at hj;exact .inr ⟨bF,hj⟩
 obtain⟨κ,k1,k2⟩:=hp.ap;refine⟨hp.df,hp.sz,hp.below,hp.cu,hp.ba,hp.en,hp.S0,hp.fJ,by simpa using hp.lβ,hp.lρ,hp.sl,λj ds hj=> ?_,λj ds hj=> ?_,hp.rw,⟨κ,λj x b hj hx hb=> ?_,k2⟩,λj es hj=>by
  rcases hold j _ hj with⟨_,e1⟩|⟨_,gp⟩
  ·cases e1
  ·exact hp.mp j es gp⟩
 ·rcases hold j _ hj with⟨rfl,e1⟩|⟨_,gp⟩
  ·cases e1;obtain⟨b,vs,t,f1,f2,f3,f4,f5,f6⟩:=(hp.bx j cs hi).ex;refine⟨b,vs,t,f1,f2,⟨by rw[Cm];exact f3.1,λp d hd=> ?_⟩,f4,f5,λhh=>by cases hh⟩;by_cases n5:p=q
   ·subst n5;rw[jg jE]at hd;cases hd;obtain⟨g1,g2⟩:=f3.2 p _ hq;refine⟨?_,g2⟩;generalize vs.getD p undef=v at g1;simp only[if_true]at g1⊢;cases g1;exact .own _ _ _ (by rw[<-hg.lρ];simp)
   ·rw[gj (fq n5)]at hd;exact f3.2 p d hd
  ·exact hp.bx j ds gp
 ·rcases hold j _ hj with⟨_,e1⟩|⟨_,gp⟩
  ·cases e1
  ·exact hp.fz j ds gp
 ·rcases hold j _ hj with⟨rfl,_⟩|⟨_,gp⟩
  ·exact k1 j _ b hi rfl hb
  ·exact k1 j x b gp hx hb
end
end Go.Ab
end
section
namespace Go.Ab
open Go.RowKit
section
variable {P:Program} {ι:Type} {RR:ι->St->Act->World->Prop} {Q:Exit->ι->St->Prop} {i:ι} {s:St}
end
end Go.Ab
namespace Go.Ab
end Go.Ab
namespace Go.Ab
def fw (n:Nat):Code->List (Array Oper)
 | .region i ops _=>if i == n then[ops]else[]
 | .seq a b=>fw n a++fw n b
 | .cond _ a b=>fw n a++fw n b
 | .block _ b=>fw n b
 | .loop b=>fw n b
 | .rangeFunc _ _ a b=>fw n a++fw n b
 | .scope b=>fw n b
 |_=>[]
def dA (f:Func)(n:Nat):Array Oper:=(((f.body.map (fw n)).getD [])).headD #[]
end Go.Ab
end
section
namespace Go.Ab
def oz (ops:Array Oper)(L:Nat->Bool):Prop:=∀(j:Nat) (o:Oper),ops[j]? =some o->L j=true->∀e∈o.after,gV .any e=true->L e.on=true
end Go.Ab
namespace Go.Ab
open Go.RowKit
end Go.Ab
end
namespace Go.Ab
open Go.RowKit
def bX (c:Ctx)(s s':St):Prop:=∀a w,R c s a w->R c s' a w
section
variable {c:Ctx} {s:St}
theorem bX.refl:bX c s s:=λ_ _ h=>h
theorem bX.trans {s' GG:St}(h:bX c s s')(k:bX c s' GG):bX c s GG:=λa w hr=>k a w (h a w hr)
theorem ep {s':St}{code:Code}{Q:Exit->St->Prop}(h:bX c s s')(hk:av c code Q s'):av c code Q s:=λa w hr=>hk a w (h a w hr)
theorem RG.cS {a:Act}{w:World}{g:Gh}{sl:Nat->D}(h:RG c s a w g)(hs:∀m,Rel w g (a.tmps.getD m undef) (sl m)):RG c ⟨s.n,sl,s.bx,s.rw⟩ a w g:=
 ⟨h.df,h.sz,h.below,h.cu,h.ba,h.en,h.S0,h.fJ,h.lβ,h.lρ,hs,h.bx,h.fz,h.rw,h.ap,h.mp⟩
theorem bX.read {n:Nat}{sl:Nat->D}{bx:List Bx}{aD:List Row}(m:Nat){d':D}(h:yD bx aD (sl m)=some d'):bX c ⟨n,sl,bx,aD⟩ ⟨n,put sl m d',bx,aD⟩:=by
 rintro a w ⟨g,hg⟩;refine⟨g,hg.cS λk=> ?_⟩;unfold put;split
 ·rename_i e;subst e
  exact(KN hg (hg.sl k) h).aZ (ud _ _)
 ·exact hg.sl k
def aP (c:Ctx)(o:Oper)(s:St)(K:St->Prop):Prop:=
 ∀(a:Act) (w:World) (N':Act->World->Prop) (Q':Exit->Act->World->Prop),R c s a w->(∀s a w,R c s a w->K s->N' a w)->o.wpIn c.F 0 c.P a w N' Q'
theorem aP.of {o:Oper}{K:St->Prop}(h:cZ c.P o s K):aP c o s K:=by
 rintro a w N' Q' ⟨g,hg⟩ hN;exact gK (wE h) (Oper.wp_mono (λa' w' ⟨s',cW,fW⟩=>hN s' a' w' cW fW) (uY hg h))
theorem aP.G1 {K:St->Prop}{fx:Operand}{xs:Array Operand}{dst:Option Tmp}{at_:Array TypeId}{ty:TypeId}{pos:String}{aft:Array Edge}(h:nq c K fx xs.toList dst s):
  aP c ⟨dst, .call ⟨.value fx,xs,at_⟩,ty,pos,aft,none⟩ s K:=λ_ _ _ _ hr hN=>NY rfl hr h hN
theorem oK {Q:Exit->St->Prop}{id:Nat}{l:List Oper}(n:Nat){y:Oper}(At:(St->Prop)->St->Prop)(hy:∀(N:St->Prop) (s1:St),At N s1->aP c y s1 N)
  (hl:l=l.take n++y::l.drop (n + 1))(cP:y.guard=none)
  (h:∀K1:St->Prop,(∀s1,At (λs2=>bZ c.P l (l.drop (n + 1)) s2 (λs2=>Q .normal s2)) s1->K1 s1)->bZ c.P l (l.take n) s K1):
  av c (.region id l.toArray false) Q s:=by
 intro a w hr;refine wpIn_region_lit ?_;rw[hl];rw[hl]at h;have kU:(l.take n++y::l.drop (n + 1)).take n=l.take n:=by rw[<-hl]
 have eN:(l.take n++y::l.drop (n + 1)).drop (n + 1)=l.drop (n + 1):=by rw[<-hl]
 rw[kU,eN]at h;generalize l.take n=l1 at *;generalize l.drop (n + 1)=l2 at *;refine qv (c:=c) (λs1 a1 w1 fO cX=> ?_) l1 s a w hr (h _ (λs1 h1=>h1));show wpListIn c.F 0 c.P _ _ (y::l2) a1 w1;unfold wpListIn;rw[if_pos (by simp[eh,cP])];exact hy _ s1 cX a1 w1 _ _ fO (λs3 a3 w3 jV nf=>qu (c:=c) (K:=λs2=>Q .normal s2) (λs4 a4 w4 lP qi=>⟨s4,lP,qi⟩) l2 _ _ _ jV nf)
def N4 (c:Ctx)(t:TypeId)(x:Operand)(dst:Option Tmp)(N:St->Prop)(s1:St):Prop:=
 bd s1 dst/\BF c.P t=true/\∃xs,s1.ev x= .list xs/\(xs=[]->N (s1.put dst (.bool true)))/\((∀x∈xs,x.cells≠[])->N (s1.put dst (.bool false)))/\∀x∈xs,x.cells≠[]
theorem aP.nil {K:St->Prop}{t ty:TypeId}{x:Operand}{dst:Option Tmp}{pos:String}{aft:Array Edge}(h:N4 c t x dst K s):
  aP c ⟨dst, .binOp .eql t x (.const (.slice none 0 0)) t,ty,pos,aft,none⟩ s K:=by
 obtain⟨hd,ht,xs,hx,h1,h2,bz⟩:=h;rintro a w N' Q' ⟨g,hg⟩ hN;refine gK (by intro cl h;cases h) ?_;unfold BF at ht;split at ht<;>first|cases ht|skip
 rename_i e he;have hv:=hg.ev x;rw[hx]at hv;generalize sZ:a.eval x=v at hv;cases hv with
 |list _ A n cp _ sz u hn aR eO hm hr=>
  have aV:(execOp a.eval ⟨dst, .binOp .eql t x (.const (.slice none 0 0)) t,ty,pos,aft,none⟩).run c.P w= .ok (.value (.bool A.isNone)) w:=by
   have h1:a.eval (.const (.slice none 0 0))= .slice none 0 0:=rfl;simp[execOp,sZ,h1,eqGuard,Qp c.P w he]
  unfold fo;rw[aV];show N' _ _;cases hA:A with
  |none=>
   have fV:xs=[]:=by
    cases xs with
    |nil=>rfl
    |cons d ds=>
     have h0:=bz d (dI ..);have kS:0 < (flat (d::ds)).length:=by
      show 0 < (d.cells++flat ds).length;have:=uM.2 h0;simp only[eQ];omega
     obtain⟨ad,e1,_⟩:=hm 0 kS;rw[hA]at e1;cases e1
   exact hN _ _ _ ⟨g,hg.put hd (.bool _ _)⟩ (h1 fV)
  |some ad=>exact hN _ _ _ ⟨g,hg.put hd (.bool _ _)⟩ (h2 bz)
end
attribute[go_sem] N4
end Go.Ab
namespace Go.Ab.PI
open Go.Ab Go.RowKit
section
variable {c:Ctx} {s:St}
theorem yK {a0:Act}{fn:Func}{chain:List PanicEntry}{R:Ending->World->Prop}{g:Gh}:∀(l:List Deferred) (a:Act) (w:World),RG c s a w g->a.defers=l->
  (∀w',RG c s {a with defers:=[]} w' g->(∀x,g.S x->w'.cell? x=w.cell? x)->R (.panicked chain) w')->LeavesInM cE 0 c.P fn a.tmps R l (.panicking chain) w
 |[],a,w,h,hl,hR=>hR w (by rw[show({a with defers:=[]}:Act)=a by rw[<-hl]];exact h) (λ_ _=>rfl)
 |d::l,a,w,h,hl,hR=>by
  obtain⟨iR,dw⟩:=h.df.cN;rw[hl]at iR dw;obtain⟨D,hB,rfl,hD⟩:=dw d (dI ..);refine⟨by simp, .inl ⟨D,_,rfl,run_takeDeferred hD, ?_⟩⟩;have hg:RG c s {a with defers:=l} (w.putObj D (.deferred none)) g:=h.rD hD rfl aO hB rfl ⟨(qF.1 iR).2,λd' dN=>by
   obtain⟨D',rb,rfl,kX⟩:=dw d' (dW _ dN);refine⟨D',rb,rfl, ?_⟩;rw[j7 (λe=>by subst e;exact(qF.1 iR).1 dN)];exact kX⟩
  have hc:∀x,g.S x->(w.putObj D (.deferred none)).cell? x=w.cell? x:=λx hx=>by
   obtain⟨u,hu⟩:=h.ba x hx;obtain⟨cs,t,fz,hx⟩:=tn hu;exact pJ (j7 (λe=>by subst e;rw[hD]at hx;cases hx))
  exact yK (a0:=a0) l {a with defers:=l} _ hg rfl (λw' h1 h2=>hR w' h1 (λx hx=>(h2 x hx).trans (hc x hx)))
end
section
variable {c:Ctx} {s:St}
end
section
variable {l:List Oper} {o:Oper}
end
section
variable {c:Ctx} {s:St}
end
theorem SZ {w:World}{g:Gh}{v:Value}{x:Int}(h:Rel w g v (.agg [.int .i64 x])):v= .agg #[.int .i64 x]:=by
 cases h
 case agg vs hl h1 h2=>
  have h3:=h2 0 (.int .i64 x) rfl;have hs:vs.size=1:=by simpa using hl
  obtain⟨vs⟩:=vs
  match vs,hs with
  |[a],_=>
   have h3:Rel w g a (.int .i64 x):=h3;cases h3;rfl
end Go.Ab.PI
namespace Go.Ab
open Go.RowKit
section
variable {c:Ctx} {s:St}
theorem alC (i:Nat)(cs cm:List D)(hi:s.bx[i]? =some (.mu cs))(hp:jy s.bx s.rw cs=some cm)
  {a:Act}{w:World}(h:R c s a w):R c {s with bx:=s.bx.set i (.fz cm)} a w:=by
 obtain⟨g,hg⟩:=h;obtain⟨b,vs,t,e1,e2,e3,e4,e5,_⟩:=(hg.bx i cs hi).ex;have e3:fZ w g vs cs:=e3;obtain⟨p1,p2⟩:=Db hp
 let S':Addr->Prop:=λx=>g.S x\/∃q,q < cs.length/\x=⟨b,q,none⟩
 have eg:i < s.bx.length:=(aQ.1 hi).1;have k:fL w g w ⟨S',g.β,g.ρ,g.M⟩:=⟨λ_ _=>rfl,λ_ h=> .inl h,λ_ _ h=>h,λ_ _ h=>h,λ_ _ h=>h⟩;obtain⟨κ,k1,k2⟩:=hg.ap;have hold:∀(j:Nat) (x:Bx),(s.bx.set i (.fz cm))[j]? =some x->(j=i/\x= .fz cm)\/(j≠i/\s.bx[j]? =some x):=λj x hj=>by
  by_cases bF:j=i
  ·subst bF;rw[jg eg]at hj;exact .inl ⟨rfl,(iA hj).symm⟩
  ·rw[gj (fq bF)]at hj;exact .inr ⟨bF,hj⟩
 have agR:b < w.heap.size:=(bt.1 e2).1;refine⟨⟨S',g.β,g.ρ,g.M⟩,hg.df.gh rfl,hg.sz,hg.below,hg.cu,λx hx=> ?_,λx hx=> ?_,λx hx=> .inl (hg.S0 x hx),hg.fJ,by simp[hg.lβ],hg.lρ,λn=>(hg.sl n).aZ k, ?_, ?_, ?_, ?_,λj es hj=>by
  rcases hold j _ hj with⟨_,e⟩|⟨bF,hj⟩
  ·cases e
  ·exact(hg.mp j es hj).imp λb2 hm=>hm.aZ k rfl hm.nm⟩
 ·rcases hx with hx|⟨q,hq,rfl⟩
  ·exact hg.ba x hx
  ·rw[cell_of_row w b q vs t.1 _ e2];have:q < vs.size:=by rw[e3.1];exact hq
   exact⟨vs[q],by simp[this]⟩
 ·rcases hx with hx|⟨q,_,rfl⟩
  ·exact hg.en x hx
  ·exact .inr e4
 ·intro j ds hj;rcases hold j _ hj with⟨_,e⟩|⟨bF,hj⟩
  ·cases e
  ·obtain⟨b',ie,t',f1,f2,f3,f4,f5,f6⟩:=(hg.bx j ds hj).ex;refine⟨b',ie,t',f1,f2,f3.aZ k,f4,λ_ x hx=> ?_,λh=>by cases h⟩;rcases hx with hx|⟨q,_,rfl⟩
   ·exact f5 rfl x hx
   ·intro e;simp at e;subst e
    have q1:=k1 i _ b hi rfl e1;have q2:=k1 j _ b hj rfl f1;rw[q1]at q2;injection q2 with q2;exact bF q2.symm
 ·intro j ds hj;rcases hold j _ hj with⟨rfl,e⟩|⟨bF,hj⟩
  ·cases e;refine⟨b,vs,t,e1,e2,⟨by rw[e3.1,p1],λq d hd=> ?_⟩,e4,(λh=>by cases h),λ_ q hq=> .inr ⟨q,by rw[<-p1];exact hq,rfl⟩⟩;obtain⟨d0,i_,DY⟩:=p2 q d hd;exact⟨(Dc hg (e3.2 q d0 i_).1 DY).aZ k.er,(e3.2 q d0 i_).2⟩
  ·obtain⟨b',ie,t',f1,f2,f3,f4,f5,f6⟩:=(hg.fz j ds hj).ex;exact⟨b',ie,t',f1,f2,f3.aZ k.er,f4,(λh=>by cases h),λ_ q hq=> .inl (f6 rfl q hq)⟩
 ·intro r row hr;obtain⟨v,f1,f2,f3⟩:=(hg.rw r row hr).ex;refine⟨v,f1,f2.aZ k,λhl=> ?_⟩;obtain⟨ho,bf,hS⟩:=f3 hl;refine⟨ho,bf,λgb aI=>⟨(hS gb aI).1,λx hx iQ=> ?_⟩⟩;rcases hx with hx|⟨q,_,rfl⟩
  ·exact(hS gb aI).2 x hx iQ
  ·simp at iQ;subst iQ
   have q1:=k1 i _ b hi rfl e1;have q2:=k2 r row v b hr hl f1 aI;rw[q1]at q2;cases q2
 ·refine⟨κ,λj x b' hj hx cr=> ?_,k2⟩;rcases hold j _ hj with⟨rfl,e⟩|⟨bF,hj⟩
  ·exact k1 j _ b' hi rfl cr
  ·exact k1 j x b' hj hx cr
end
def E6 (c:Ctx)(t:TypeId)(x:Operand)(dst:Option Tmp)(N:St->Prop)(s1:St):Prop:=
 bd s1 dst/\a_ (elemOf c.P t) λe=>aC c.P e≠0/\(bL c.P e).isSome=true/\oY s1.rw (s1.ev x) λys=>(∀y∈ys,y.cells.length=aC c.P e)/\ys.length<=9223372036854775807/\ys.length * bytesOf c.P e<=140737488355328/\
  (ys=[]->N (s1.put dst (.val (.slice none 0 0))))/\(ys≠[]->∀m cap:Nat,ys.length<=cap->N (St.put {s1 with bx:=s1.bx++[.mu (flat ys++cD m .undef)]} dst (.aN s1.bx.length 0 ys.length cap)))
theorem JP (z:Array Value)(h:∀q,q < z.size->(z.getD q bp).oneCell'=true)(n q:Nat)(hq:q < n * z.size):((oT z n).getD q bp).oneCell'=true:=by
 have hs:z.size≠0:=by intro h0;rw[h0]at hq;omega
 have hm:q % z.size < z.size:=Nat.mod_lt _ ae;have:=h _ hm;simp only[oT];simp[hq,hm]at this⊢;exact this
section
variable {c:Ctx} {s:St}
theorem aP.dup {K:St->Prop}{t ty:TypeId}{x:Operand}{dst:Option Tmp}{pos:String}{aft:Array Edge}(h:E6 c t x dst K s):
  aP c ⟨dst, .call ⟨.builtin .append,#[.const (.slice none 0 0),x],#[t,t]⟩,ty,pos,aft,none⟩ s K:=by
 obtain⟨hd,h⟩:=h;obtain⟨e,he,hz,mW,h⟩:=cM h;rintro a w N' Q' ⟨g,hg⟩ hN;obtain⟨ys,hy,lg,jI,hb,h1,h2⟩:=CB hg.mem (hg.ev x) h;obtain⟨A,cy,J5,uy,hv,L1,n_,vk⟩:=hy.sP;obtain⟨zs,gM⟩:=xV.1 mW;obtain⟨z0,fU,jC,i,hi,sY⟩:=yk gM w g;have aR:i.size=aC c.P e:=by simp[aC,zP,hi]
 have oe:bytesOf c.P e=i.bytes:=by simp[bytesOf,hi]
 have kS:0 < aC c.P e:=Xy hz;have⟨z,lq,po⟩:∃z,i.zero=some z/\z.cells=z0.cells:=by
  unfold bL at gM;rw[hi]at gM;cases lq:i.zero with
  |none=>simp[lq]at gM
  |some z'=>
   refine⟨z',rfl, ?_⟩;have:(zeroValue e).run c.P w= .ok z' w:=by simp[zeroValue,typeInfo,hi,lq]
   rw[this]at fU;injection fU with fU;rw[fU]
 have rZ:=qq (aC c.P e) ys lg;refine gK (by intro cl h;cases h) ?_;unfold fo;have rX:a.eval (.const (.slice none 0 0))= .slice none 0 0:=rfl;by_cases h0:ys=[]
 ·subst h0;have aV:(execOp a.eval ⟨dst, .call ⟨.builtin .append,#[.const (.slice none 0 0),x],#[t,t]⟩,ty,pos,aft,none⟩).run c.P w= .ok (.value (.slice none 0 0)) w:=by
   have:=Qr (w:=w) c.P 0 t ty e i z i.size i.bytes (mD he) hi lq rfl rfl (by rw[po];rw[jC.1,<-sY]) ae (.slice none 0 0) 0 [] (World.ownsRow_nil w 0 e i.size) A 0 cy [] aO (λh=>absurd h (Nat.lt_irrefl _)) aO (by simp[maxLen]) aO (bD _);simp[execOp,resolve,invoke,builtin,rX,hv];rcases A with _|ad
   ·rw[Qq c.P 0 t ty e i i.size (mD he) hi (.slice none 0 0) 0 [] (World.ownsRow_nil w 0 e i.size) cy];simp
   ·have:(wm #[t,t] ty #[.slice none 0 0, .slice (some ad) 0 cy]).run c.P w= .ok (.slice none 0 0) w:=by
     simp[wm,run_underlying (mD he),sizeOf,typeInfo,hi,JI,Builtin.firstCells,loadCells,loadCellsFrom]
    rw[this];simp
  rw[aV];exact hN _ _ _ ⟨g,hg.put hd (.val _ _)⟩ (h1 rfl)
 ·have hlen:0 < ys.length:=uM.2 h0;have sS:0 < (flat ys).length:=by rw[rZ];exact Nat.mul_pos hlen kS
  obtain⟨ad,hA,_⟩:=n_ 0 sS;subst hA
  let news:=(ct (flat ys).length).map uy
  have bE:news.length=ys.length * i.size:=by simp[news,rZ,aR]
  have sV:∀j u,news[j]? =some u->w.cell? (ad.add j)=some u:=λj u hj=>by
   simp only[news,cO,cv]at hj;obtain⟨j',hj,rfl⟩:=hj;have dE:=(aQ.1 hj).1;have pz:=(aQ.1 hj).2;simp at dE pz;subst pz;obtain⟨zJ,e2,hc,_⟩:=n_ j dE;cases e2;exact hc
  have hr:=Go.run_append_nil (P:=c.P) w t ty e i z (mD he) hi lq ad ys.length cy news bE sV hlen ae (by rw[<-oe];omega);have aV:(execOp a.eval ⟨dst, .call ⟨.builtin .append,#[.const (.slice none 0 0),x],#[t,t]⟩,ty,pos,aft,none⟩).run c.P w=
    .ok (.value (.slice (some ⟨w.heap.size,0,none⟩) ys.length (grownCap w ys.length 0 e))) (w.drew.alloc (.cells (news.toArray++oT z.cells (grownCap w ys.length 0 e - ys.length)) e)):=by
   simp[execOp,resolve,invoke,builtin,rX,hv,hr]
  rw[aV];have cP:RG c s a w.drew g:=hg.world (w':=w.drew) (S':=g.S) ⟨rfl,rfl,rfl,aY _,λ_ _=>rfl⟩ (λ_ h=>h) (λ_ h=> .inl h) hg.ba;have yV:(oT z.cells (grownCap w ys.length 0 e - ys.length)).size=(grownCap w ys.length 0 e - ys.length) * z.cells.size:=size_zeroCells _ _;have zh:fZ w.drew g (news.toArray++oT z.cells (grownCap w ys.length 0 e - ys.length)) (flat ys++cD ((grownCap w ys.length 0 e - ys.length) * z.cells.size) .undef):=by
   refine⟨by simp[yV,news],λq d hd=> ?_⟩;have jE:=(aQ.1 hd).1;simp only[eQ,uL]at jE;have xd:news.length=(flat ys).length:=by simp[news]
   by_cases hq:q < (flat ys).length
   ·rw[bQ hq]at hd;have hu:(news.toArray++oT z.cells (grownCap w ys.length 0 e - ys.length)).getD q bp=uy q:=by
     rw[lJ,JN (by simp;omega)];simp[news,hq]
    rw[hu];obtain⟨_,_,_,_,ho⟩:=n_ q hq;exact⟨((vk q d hd).aZ (ud _ _)).aZ ⟨λ_ _=>rfl,λ_ h=>h,λ_ _ h=>h,λ_ _ h=>h,λ_ _ h=>h⟩,ho⟩
   ·rw[dX ae]at hd;have dN:d= .undef:=by
     have:=(aQ.1 hd).2;simpa using this.symm
    subst dN;refine⟨.undef _ _, ?_⟩;have hu:(news.toArray++oT z.cells (grownCap w ys.length 0 e - ys.length)).getD q bp=(oT z.cells (grownCap w ys.length 0 e - ys.length)).getD (q - news.length) bp:=by
     rw[lJ,lJ,O6 (by simp;omega)];simp
    rw[hu];refine JP _ (λk hk=> ?_) _ _ ae;rw[po]at hk⊢;have Eb:k < zs.length:=by rw[<-jC.1];exact hk
    exact(jC.2 k zs[k] (bS Eb)).2
  have Br:=cP.alloc (t:=e) zh;refine hN _ _ _ ⟨_,Br.put ?_ (.aN _ _ _ _ _ w.heap.size ?_)⟩ (h2 h0 _ _ (grownCap_ge w ys.length 0 e))
  ·cases dst<;>first|exact trivial|exact hd
  ·show(g.β++[w.drew.heap.size])[s.bx.length]? =_;rw[<-hg.lβ];simp
theorem bX.freeze {n:Nat}{sl:Nat->D}{bx:List Bx}{aD:List Row}(i:Nat){cs cm:List D}(hi:bx[i]? =some (.mu cs))(hp:jy bx aD cs=some cm):bX c ⟨n,sl,bx,aD⟩ ⟨n,sl,bx.set i (.fz cm),aD⟩:=
 λ_ _ h=>alC i cs cm hi hp h
theorem bX.Wx {n:Nat}{sl:Nat->D}{bx:List Bx}{aD:List Row}(m i:Nat){ys U:List D}{cap sz:Nat}(hm:sl m= .aN i 0 ys.length cap)(hi:bx[i]? =some (.fz (flat ys++U)))(aR:∀y∈ys,y.cells.length=sz)(hc:ys.length<=cap):
  bX c ⟨n,sl,bx,aD⟩ ⟨n,put sl m (.list ys),bx,aD⟩:=by
 rintro a w ⟨g,hg⟩;refine⟨g,hg.cS λk=> ?_⟩;unfold put;split
 ·rename_i e2;subst e2
  have hx:=hg.sl k;simp only[hm]at hx;generalize a.tmps.getD k undef=v at hx;cases hx with
  |aN _ _ _ _ _ b hb=>
   obtain⟨b',vs,t,e1,e2,e3,e4,_,e6⟩:=(hg.fz i _ hi).ex;rw[e1]at hb;cases hb
   obtain⟨h1,h2⟩:=vP e2 e3 0;refine .list _ _ _ _ _ sz (λq=>vs.getD (0 + q) bp) rfl aR hc (λq hq=> ?_) (λq d hd=> ?_)
   ·have dP:q < (flat ys++U).length:=by rw[eQ];omega
    refine⟨_,rfl,(h1 q (by simpa using dP)).1, ?_,(h1 q (by simpa using dP)).2⟩;rw[nt];exact e6 rfl _ ae
   ·refine h2 q d ?_;rw[List.drop_zero,bQ (aQ.1 hd).1];exact hd
 ·exact hg.sl k
end
attribute[go_sem] E6
mutual
def D.mb (p:Nat->Bool):D->Bool
 | .box i _=>p i
 | .aN i _ _ _=>p i
 | .bu i=>p i
 | .agg cs=>uc p cs
 | .aF cs=>uc p cs
 | .ag _ cs=>uc p cs
 | .cL _ cs=>uc p cs
 |_=>false
def uc (p:Nat->Bool):List D->Bool
 |[]=>false
 |d::ds=>d.mb p||uc p ds
end
theorem Dp {p:Nat->Bool}:∀{ds:List D},uc p ds=false->∀d∈ds,d.mb p=false
 |[],_,d,hd=>by cases hd
 |x::ds,h,d,hd=>by
  simp only[uc,Ad]at h;rcases eK.1 hd with rfl|hd
  ·exact h.1
  ·exact Dp h.2 d hd
def qw (p:Nat->Bool)(d:D):D:=match d.mb p with|true=> .undef|false=>d
def pH (p:Nat->Bool):Bx->Bx
 | .mu cs=> .mu (cs.map (qw p))
 | .mp es=> .mp (es.map λe=>(qw p e.1,qw p e.2))
 |x=>x
def sj (p:Nat->Bool)(sl:Nat->D):Nat->D:=λm=>qw p (sl m)
theorem ajh (p:Nat->Bool)(x:Bx):(pH p x).live=x.live:=by cases x<;>rfl
theorem Rel.rename {w:World}{g:Gh}{v:Value}{d:D}{p:Nat->Bool}(h:Rel w g v d):∀{g':Gh},g'.S=g.S->g'.ρ=g.ρ->g'.M=g.M->(∀(i b:Nat),p i=false->g.β[i]? =some b->g'.β[i]? =some b)->d.mb p=false->Rel w g' v d:=by
 induction h with
 |undef g v=>intros;exact .undef _ _
 |int g k n=>intros;exact .int _ _ _
 |bool g b=>intros;exact .bool _ _
 |str g s=>intros;exact .str _ _
 |val g v=>intros;exact .val _ _
 |list g A n c xs sz u hn aR eO hm hr ih=>
  intro g' h1 h2 h3 h4 _;refine .list _ A n c xs sz u hn aR eO (λq hq=> ?_) (λq d hd=> ?_)
  ·rw[h1];exact hm q hq
  ·have:g'.er=g.er:=by simp only[Gh.er,h1,h3]
   rw[this];exact hr q d hd
 |agg g vs cs hl gH hr ih=>
  intro g' h1 h2 h3 h4 hm;exact .agg _ vs cs hl gH (λq d hd=>ih q d hd h1 h2 h3 h4 (Dp hm d (ey hd)))
 |aF g vs ds hl hr ih=>
  intro g' h1 h2 h3 h4 hm;exact .aF _ vs ds hl (λq d hd=>ih q d hd h1 h2 h3 h4 (Dp hm d (ey hd)))
 |box g i off b hb=>intro g' h1 h2 h3 h4 hm;exact .box _ i off b (h4 _ _ hm hb)
 |ro g ad cs u hm hr ih=>
  intro g' h1 h2 h3 h4 _;refine .ro _ ad cs u (λq hq=> ?_) (λq d hd=> ?_)
  ·rw[h1];exact hm q hq
  ·have:g'.er=g.er:=by simp only[Gh.er,h1,h3]
   rw[this];exact hr q d hd
 |bM g b f h=>intro g' h1 h2 h3 h4 _;exact .bM _ b f (by rw[h3];exact h)
 |skp g=>intros;exact .skp _
 |any g v h1=>intros;exact .any _ v h1
 |bu g i b hb=>intro g' h1 h2 h3 h4 hm;exact .bu _ i b (h4 _ _ hm hb)
 |cL g f vs cs hl hr ih=>
  intro g' h1 h2 h3 h4 hm;exact .cL _ f vs cs hl (λq d hd=>ih q d hd h1 h2 h3 h4 (Dp hm d (ey hd)))
 |aN g i off n c b hb=>intro g' h1 h2 h3 h4 hm;exact .aN _ i off n c b (h4 _ _ hm hb)
 |own g r' v h=>intro g' h1 h2 h3 h4 _;exact .own _ r' v (by rw[h2];exact h)
 |ag g f vs cs hl hr ih=>
  intro g' h1 h2 h3 h4 hm;exact .ag _ f vs cs hl (λq d hd=>ih q d hd h1 h2 h3 h4 (Dp hm d (ey hd)))
theorem Rel.renamed {w:World}{g g':Gh}{v:Value}{d:D}(p:Nat->Bool)(h:Rel w g v d)(h1:g'.S=g.S)(h2:g'.ρ=g.ρ)(h3:g'.M=g.M)(h4:∀(i b:Nat),p i=false->g.β[i]? =some b->g'.β[i]? =some b):Rel w g' v (qw p d):=by
 unfold qw;cases hm:d.mb p with
 |true=>exact .undef _ _
 |false=>exact h.rename h1 h2 h3 h4 hm
theorem Names.mb {nb nr:Nat}{d:D}{p:Nat->Bool}(h:Names nb nr d)(hp:∀i,i < nb->p i=false):d.mb p=false:=by
 have key:∀cs:List D,(∀d∈cs,d.mb p=false)->uc p cs=false:=λcs=>by
  induction cs with
  |nil=>intro _;rfl
  |cons d cs ih=>intro h;simp only[uc,Ad];exact⟨h d (dI ..),ih λx hx=>h x (dW _ hx)⟩
 induction h with
 |agg cs h ih=>exact key cs ih
 |aF cs h ih=>exact key cs ih
 |ag f cs h ih=>exact key cs ih
 |cL f cs h ih=>exact key cs ih
 |box i off h=>exact hp i h
 |aN i off n c h=>exact hp i h
 |bu i h=>exact hp i h
 |_=>rfl
section
variable {c:Ctx} {s:St} {a:Act} {w:World} {g:Gh}
theorem RG.QI (h:RG c s a w g)(i j0 m0 nb:Nat)(cs:List D)(hi:i < m0)(hm:m0<=s.bx.length)(hj:j0=i\/m0<=j0)(hb:s.bx[j0]? =some (.mu cs))(hβ:g.β[j0]? =some nb)(h0:c.β0.length<=i)
  (aw:∀d∈cs,d.mb (λj=>j == i||decide (m0<=j))=false):
  RG c ⟨s.n,sj (λj=>j == i||decide (m0<=j)) s.sl,((s.bx.take m0).map (pH (λj=>j == i||decide (m0<=j)))).set i (.mu cs),s.rw⟩ a w ⟨g.S,(g.β.take m0).set i nb,g.ρ,g.M⟩:=by
 have hml:m0<=g.β.length:=by rw[h.lβ];exact hm
 have Ep:∀(j b:Nat),(λj=>j == i||decide (m0<=j)) j=false->g.β[j]? =some b->((g.β.take m0).set i nb)[j]? =some b:=λj b hp hb=>by
  simp only[Ad,beq_eq_false_iff_ne,ne_eq,decide_eq_false_iff_not]at hp;rw[gj (fq hp.1),iM,if_pos ae];exact hb
 generalize hp:(λj=>j == i||decide (m0<=j))=p at Ep aw⊢;have bw:∀{v:Value} {d:D},Rel w g v d->Rel w ⟨g.S,(g.β.take m0).set i nb,g.ρ,g.M⟩ v (qw p d):=λhr=>hr.renamed p rfl rfl rfl Ep;have lj:((g.β.take m0).set i nb)[i]? =some nb:=jg (by rw[mH];omega);have eg:i < ((s.bx.take m0).map (pH p)).length:=by rw[iB,mH];omega
 have hold:∀(j:Nat) (x:Bx),(((s.bx.take m0).map (pH p)).set i (.mu cs))[j]? =some x->(j=i/\x= .mu cs)\/(j≠i/\j < m0/\∃x0,s.bx[j]? =some x0/\x=pH p x0):=λj x hj=>by
  by_cases bF:j=i
  ·subst bF;rw[jg eg]at hj;exact .inl ⟨rfl,(iA hj).symm⟩
  ·rw[gj (fq bF),cO,cv]at hj;obtain⟨x0,gG,rfl⟩:=hj;have dE:j < m0:=by have:=(aQ.1 gG).1;rw[mH]at this;omega
   rw[iM,if_pos dE]at gG;exact .inr ⟨bF,dE,x0,gG,rfl⟩
 have DJ:∀(j b:Nat),j≠i->j < m0->(((g.β.take m0).set i nb)[j]? =some b↔g.β[j]? =some b):=λj b bF dE=>by
  rw[gj (fq bF),iM,if_pos dE]
 obtain⟨κ,k1,k2⟩:=h.ap;have hκ:κ nb= .inl j0:=k1 j0 _ nb hb rfl hβ;obtain⟨b0,sH,t0,e1,e2,e3,e4,e5,e6⟩:=(h.bx j0 cs hb).ex;rw[e1]at hβ;cases hβ
 refine⟨h.df.gh rfl (λj b hc cr=> ?_),h.sz,h.below,h.cu,h.ba,h.en,h.S0,h.fJ, ?_,h.lρ,λm=>bw (h.sl m),λj ds gp=> ?_,λj ds gp=> ?_,λr row hr=> ?_, ?_,λj es gp=> ?_⟩
 ·have dE:j < c.β0.length:=(aQ.1 hc).1;exact(DJ j b ae ae).2 cr
 ·simp only[Cm,mH,iB];rw[h.lβ]
 ·rcases hold j _ gp with⟨rfl,e⟩|⟨bF,dE,x0,gG,e⟩
  ·cases e;refine⟨nb,sH,t0,lj,e2,⟨e3.1,λq d hd=>⟨?_,(e3.2 q d hd).2⟩⟩,e4,e5,λhh=>by cases hh⟩;have hr:=bw (e3.2 q d hd).1;have:qw p d=d:=by unfold qw;rw[aw d (ey hd)]
   rw[this]at hr;exact hr
  ·cases x0 with
   |mu VQ=>
    simp only[pH,Bx.mu.injEq]at e;subst e;obtain⟨b,vs,t,f1,f2,f3,f4,f5,f6⟩:=(h.bx j VQ gG).ex;refine⟨b,vs,t,(DJ j b bF dE).2 f1,f2,⟨by rw[iB];exact f3.1,λq d hd=> ?_⟩,f4,f5,λhh=>by cases hh⟩;rw[cO,cv]at hd;obtain⟨d0,i_,rfl⟩:=hd;exact⟨bw (f3.2 q d0 i_).1,(f3.2 q d0 i_).2⟩
   |_=>simp only[pH]at e;cases e
 ·rcases hold j _ gp with⟨rfl,e⟩|⟨bF,dE,x0,gG,e⟩
  ·cases e
  ·cases x0 with
   |fz VQ=>
    simp only[pH,Bx.fz.injEq]at e;subst e;obtain⟨b,vs,t,f1,f2,f3,f4,f5,f6⟩:=(h.fz j ds gG).ex;exact⟨b,vs,t,(DJ j b bF dE).2 f1,f2,f3,f4,f5,f6⟩
   |_=>simp only[pH]at e;cases e
 ·obtain⟨v,f1,f2,f3⟩:=(h.rw r row hr).ex;exact⟨v,f1,f2.rename (p:=p) rfl rfl rfl Ep rfl,f3⟩
 ·refine⟨λb=>if b=nb then .inl i else κ b,λj x b gp hx cr=> ?_,λr row v gb hr hl hv aI=> ?_⟩
  ·rcases hold j _ gp with⟨rfl,e⟩|⟨bF,dE,x0,gG,e⟩
   ·rw[lj]at cr;cases cr
    simp
   ·have sc:=(DJ j b bF dE).1 cr;have xh:x0.live=true:=by rw[e,ajh]at hx;exact hx
    have hk:=k1 j x0 b gG xh sc;by_cases Bl:b=nb
    ·exfalso;subst Bl;rw[hκ]at hk;injection hk with hk;rcases hj with hj|hj<;>omega
    ·simp[Bl,hk]
  ·have hk:=k2 r row v gb hr hl hv aI;have Bl:gb≠nb:=λe=>by subst e;rw[hκ]at hk;cases hk
   simp[Bl,hk]
 ·rcases hold j _ gp with⟨rfl,e⟩|⟨bF,dE,x0,gG,e⟩
  ·cases e
  ·cases x0 with
   |mp mC=>
    simp only[pH,Bx.mp.injEq]at e;subst e;obtain⟨b,d_⟩:=h.mp j mC gG;refine⟨b,(DJ j b bF dE).2 d_.β, ?_,d_.nm,d_.own,d_.lU⟩;obtain⟨ms,cl,g1,g2,g3⟩:=d_.ex;refine⟨ms,cl,g1,by rw[iB];exact g2,λq e2 m he h_=> ?_⟩;rw[cO,cv]at he;obtain⟨e0,xp,rfl⟩:=he;obtain⟨r1,r2⟩:=g3 q e0 m xp h_;exact⟨r1.renamed p rfl rfl rfl Ep,r2.renamed p rfl rfl rfl Ep⟩
   |_=>simp only[pH]at e;cases e
theorem abU (P:Program){w:World}(t ty e:TypeId)(i:TypeInfo)(ht:P.underlying t=some (.slice e))(hi:P.info? e=some i)(tb:TypeId×Bool)
  (g tO C2:Nat)(cur:Array Value)(hg:w.heap[g]? =some (.cells cur tb.1 (pD cur.size tb.2)))
  (a:Addr)(m c:Nat)(news:List Value)(hl:news.length=m * i.size)(sV:∀j u,news[j]? =some u->w.cell? (a.add j)=some u)(h1:∀u∈news,u.oneCell'=true)
  (sR:tO + m<=C2)(xn:tO * i.size + news.length<=cur.size):
  (wm #[t,t] ty #[.slice (some ⟨g,0,none⟩) tO C2, .slice (some a) m c]).run P w=
   .ok (.slice (some ⟨g,0,none⟩) (tO + m) C2) (w.setRow g (cur.toList.take (tO * i.size)++news++cur.toList.drop (tO * i.size + news.length)).toArray):=by
 have hf:=run_firstCells_some (P:=P) w i.size m a m c news hl sV;have aM:=C3 P g (tO * i.size) tb.1 tb.2 news 0 cur w hg (by simpa using xn) h1;simp only[xX]at aM;simp[wm,run_underlying ht,sizeOf,typeInfo,hi,JI,sR,hf,Addr.add_lit,aM]
def WE (c:Ctx)(t:TypeId)(x y:Operand)(dst:Option Tmp)(N:St->Prop)(s1:St):Prop:=
 bd s1 dst/\a_ (elemOf c.P t) λe=>aC c.P e≠0/\(bL c.P e).isSome=true/\oY s1.rw (s1.ev y) λys=>(∀z∈ys,z.cells.length=aC c.P e)/\ys≠[]/\
  ∃i n cap cs,s1.ev x= .aN i 0 n cap/\s1.bx[i]? =some (.mu cs)/\c.β0.length<=i/\cs.length=cap * aC c.P e/\n<=cap/\n + ys.length<=9223372036854775807/\(n + ys.length) * bytesOf c.P e<=140737488355328/\
   (∀d∈cs,Names 0 0 d)/\
   ∀(U:List D) (NS:Nat),n + ys.length<=NS->(n + ys.length) * aC c.P e + U.length=NS * aC c.P e->(∀d∈U,Names 0 0 d)->
    N (St.put ⟨s1.n,sj (λj=>j == i||decide (s1.bx.length<=j)) s1.sl,(s1.bx.map (pH (λj=>j == i||decide (s1.bx.length<=j)))).set i (.mu (cs.take (n * aC c.P e)++flat ys++U)),s1.rw⟩ dst (.aN i 0 (n + ys.length) NS))
theorem aP.grow {K:St->Prop}{t ty:TypeId}{x y:Operand}{dst:Option Tmp}{pos:String}{aft:Array Edge}{gd:Option (Nat×Bool)}(h:WE c t x y dst K s):
  aP c ⟨dst, .call ⟨.builtin .append,#[x,y],#[t,t]⟩,ty,pos,aft,gd⟩ s K:=by
 obtain⟨hd,h⟩:=h;obtain⟨e,he,hz,mW,h⟩:=cM h;rintro a w N' Q' ⟨g,hg⟩ hN;obtain⟨ys,hy,lg,hy0,i,n,cap,cs,hx,Mz,wX,bf,qY,jI,hb,dD,hK⟩:=CB hg.mem (hg.ev y) h;obtain⟨A,cy,J5,uy,hv,L1,n_,vk⟩:=hy.sP;obtain⟨zs,gM⟩:=xV.1 mW;obtain⟨z0,fU,jC,ti,hi,sY⟩:=yk gM w g;have aR:ti.size=aC c.P e:=by simp[aC,zP,hi]
 have oe:bytesOf c.P e=ti.bytes:=by simp[bytesOf,hi]
 have kS:0 < aC c.P e:=Xy hz;have⟨z,lq,po⟩:∃z,ti.zero=some z/\z.cells=z0.cells:=by
  unfold bL at gM;rw[hi]at gM;cases lq:ti.zero with
  |none=>simp[lq]at gM
  |some z'=>
   refine⟨z',rfl, ?_⟩;have:(zeroValue e).run c.P w= .ok z' w:=by simp[zeroValue,typeInfo,hi,lq]
   rw[this]at fU;injection fU with fU;rw[fU]
 have rZ:=qq (aC c.P e) ys lg;have hlen:0 < ys.length:=uM.2 hy0;have sS:0 < (flat ys).length:=by rw[rZ];exact Nat.mul_pos hlen kS
 obtain⟨ad,hA,_⟩:=n_ 0 sS;subst hA;have ek:=hg.ev x;rw[hx]at ek;generalize Ht:a.eval x=vx at ek;cases ek with
 |aN _ _ _ _ _ b UP=>
 obtain⟨b',vs,tb,e1,e2,e3,e4,e5,e6⟩:=(hg.bx i cs Mz).ex;rw[e1]at UP;cases UP
 obtain⟨news,Ma⟩:∃l,l=(ct (flat ys).length).map uy:=⟨_,rfl⟩;have xd:news.length=(flat ys).length:=by simp[Ma]
 have bE:news.length=ys.length * ti.size:=by rw[xd,rZ,aR]
 have sV:∀j u,news[j]? =some u->w.cell? (ad.add j)=some u/\u=uy j/\j < (flat ys).length:=λj u hj=>by
  rw[Ma]at hj;simp only[cO,cv]at hj;obtain⟨j',hj,rfl⟩:=hj;have dE:=(aQ.1 hj).1;have pz:=(aQ.1 hj).2;simp at dE pz;subst pz;obtain⟨zJ,e2,hc,_⟩:=n_ j dE;cases e2;exact⟨hc,rfl,dE⟩
 have UL:fZ w g news.toArray (flat ys):=by
  refine⟨by simpa using xd,λq d hd=> ?_⟩;have hq:=(aQ.1 hd).1;have hu:news.toArray.getD q bp=uy q:=by
   rw[lJ];simp[Ma,hq]
  rw[hu];obtain⟨_,_,_,_,ho⟩:=n_ q hq;exact⟨(vk q d hd).aZ (ud _ _),ho⟩
 have TO:∀d∈flat ys,Names 0 0 d:=λd hd=>by
  obtain⟨q,hq⟩:=v7.1 hd;have:=(vk q d hq).names;simpa[Gh.er]using this
 have h1n:∀u∈news,u.oneCell'=true:=λu hu=>by
  obtain⟨q,hq⟩:=v7.1 hu;obtain⟨_,rfl,hl⟩:=sV q u hq;exact(n_ q hl).choose_spec.2.2.2
 have eg:i < s.bx.length:=(aQ.1 Mz).1;have xf:∀(i0 m0:Nat) (l:List D),(∀d∈l,Names 0 0 d)->∀d∈l,d.mb (λj=>j == i0||decide (m0<=j))=false:=λi0 m0 l hl d hd=>(hl d hd).mb (λj hj=>by omega);refine gK (by intro cl h;cases h) ?_;unfold fo;by_cases sR:n + ys.length<=cap
 ·have xn:n * ti.size + news.length<=vs.size:=by
   rw[e3.1,bf,bE,aR,<-ru];exact zQ _ sR
  have hr:=abU c.P (w:=w) t ty e ti (mD he) hi tb b n cap vs e2 ad ys.length cy news bE (λj u hj=>(sV j u hj).1) h1n sR xn;have aV:(execOp a.eval ⟨dst, .call ⟨.builtin .append,#[x,y],#[t,t]⟩,ty,pos,aft,gd⟩).run c.P w=
    .ok (.value (.slice (some ⟨b,0,none⟩) (n + ys.length) cap)) (w.setRow b (vs.toList.take (n * ti.size)++news++vs.toList.drop (n * ti.size + news.length)).toArray):=by
   simp[execOp,resolve,invoke,builtin,Ht,hv,hr]
  rw[aV];obtain⟨cur,tb',f1,f2,f3⟩:=hg.store (off:=n * ti.size) Mz e1 UL (by rw[<-xd];rw[<-e3.1];exact xn);obtain rfl:vs=cur:=by
   rw[e2]at f1;simp only[gE,Obj.cells.injEq]at f1;exact f1.1
  have ed:(s.bx.set i (.mu (cs.take (n * ti.size)++flat ys++cs.drop (n * ti.size + (flat ys).length))))[i]? =some (.mu (cs.take (n * ti.size)++flat ys++cs.drop (n * ti.size + (flat ys).length))):=jg eg;have dw:∀d∈cs.take (n * ti.size)++flat ys++cs.drop (n * ti.size + (flat ys).length),Names 0 0 d:=λd hd=>by
   rcases fA.1 hd with hd|hd
   ·rcases fA.1 hd with hd|hd
    ·exact dD d (x9 hd)
    ·exact TO d hd
   ·exact dD d (Fy hd)
  have A3:=f3.QI i i s.bx.length b _ eg aO (.inl rfl) ed e1 wX (xf i s.bx.length _ dw);have aM:((List.take s.bx.length (s.bx.set i (.mu (cs.take (n * ti.size)++flat ys++cs.drop (n * ti.size + (flat ys).length))))).map (pH (λj=>j == i||decide (s.bx.length<=j)))).set i (.mu (cs.take (n * ti.size)++flat ys++cs.drop (n * ti.size + (flat ys).length)))=
    (s.bx.map (pH (λj=>j == i||decide (s.bx.length<=j)))).set i (.mu (cs.take (n * aC c.P e)++flat ys++cs.drop (n * ti.size + (flat ys).length))):=by
   rw[List.take_of_length_le aO,List.map_set,List.set_set,aR]
  simp only at A3;rw[aM]at A3;have hU:=hK (cs.drop (n * ti.size + (flat ys).length)) cap sR (by
   rw[List.length_drop,bf,aR,rZ];have:=zQ (aC c.P e) sR;rw[ru]at this⊢;omega) (λd hd=>dD d (Fy hd))
  refine hN _ _ _ ⟨_,A3.put ?_ (.aN _ _ _ _ _ b ?_)⟩ hU
  ·cases dst<;>first|exact trivial|exact hd
  ·show((g.β.take s.bx.length).set i b)[i]? =_;exact jg (by rw[mH,hg.lβ];omega)
 ·obtain⟨tT,TI⟩:∃l,l=vs.toList.take (n * ti.size):=⟨_,rfl⟩;have jn:n * ti.size<=vs.size:=by rw[e3.1,bf,aR];exact zQ _ qY
  have rV:tT.length=n * ti.size:=by rw[TI,mH,Array.length_toList];omega
  have holds:∀j u,tT[j]? =some u->w.cell? ((⟨b,0,none⟩:Addr).add j)=some u/\u=vs.getD j bp/\j < n * ti.size:=λj u hj=>by
   have dE:=(aQ.1 hj).1;rw[rV]at dE;rw[TI,iM,if_pos dE]at hj;have pz:j < vs.size:=ae;have hju:vs[j]=u:=by simpa[pz]using hj
   have gz:=(vP e2 e3 0).1 j (by rw[List.drop_zero,<-e3.1];exact pz);simp only[fK]at gz;have hg:vs.getD j bp=u:=by simp[pz,hju]
   rw[hg]at gz;exact⟨gz.1,hg.symm,dE⟩
  have hr:=run_append_grow (P:=c.P) w t ty e ti z (mD he) hi lq ⟨b,0,none⟩ n cap tT rV (λj u hj=>(holds j u hj).1) ad ys.length cy news bE (λj u hj=>(sV j u hj).1) ae ae (growslice_fits ae (by rw[<-oe];exact hb));have aV:(execOp a.eval ⟨dst, .call ⟨.builtin .append,#[x,y],#[t,t]⟩,ty,pos,aft,gd⟩).run c.P w=
    .ok (.value (.slice (some ⟨w.heap.size,0,none⟩) (n + ys.length) (grownCap w (n + ys.length) cap e))) (w.drew.alloc (.cells (tT.toArray++news.toArray++oT z.cells (grownCap w (n + ys.length) cap e - (n + ys.length))) e)):=by
   simp[execOp,resolve,invoke,builtin,Ht,hv,hr]
  rw[aV];have cP:RG c s a w.drew g:=hg.world (w':=w.drew) (S':=g.S) ⟨rfl,rfl,rfl,aY _,λ_ _=>rfl⟩ (λ_ h=>h) (λ_ h=> .inl h) hg.ba;obtain⟨m,hm⟩:∃m,m=(grownCap w (n + ys.length) cap e - (n + ys.length)) * z.cells.size:=⟨_,rfl⟩;have yV:(oT z.cells (grownCap w (n + ys.length) cap e - (n + ys.length))).size=m:=by rw[hm];exact size_zeroCells _ _
  have LK:z.cells.size=aC c.P e:=by rw[po,jC.1,<-sY,aR]
  have UD:∀{v:Value} {d:D},Rel w g v d->Rel w.drew g v d:=λhr=>hr.aZ ⟨λ_ _=>rfl,λ_ h=>h,λ_ _ h=>h,λ_ _ h=>h,λ_ _ h=>h⟩;have qd:(cs.take (n * aC c.P e)).length=n * aC c.P e:=by rw[mH,bf];have:=zQ (aC c.P e) qY;omega
  have zh:fZ w.drew g (tT.toArray++news.toArray++oT z.cells (grownCap w (n + ys.length) cap e - (n + ys.length))) (cs.take (n * aC c.P e)++flat ys++cD m .undef):=by
   refine⟨by simp only[Array.size_append,yV,vZ,eQ,uL,rV,xd,qd,aR],λq d hd=> ?_⟩;have jE:=(aQ.1 hd).1;simp only[eQ,uL,qd]at jE;rw[lJ];by_cases qf:q < n * aC c.P e
   ·have af9:q < tT.toArray.size:=by rw[vZ,rV,aR];exact qf
    rw[kK,bQ (by rw[qd];exact qf),iM,if_pos qf]at hd;rw[Array.append_assoc,JN af9];have hu:tT.toArray[q]?.getD bp=vs.getD q bp:=by
     have mZ:q < tT.length:=by rw[rV,aR];exact qf
     have:=(holds q tT[q] (bS mZ)).2.1;rw[<-this];simp[mZ]
    rw[hu];exact⟨UD (e3.2 q d hd).1,(e3.2 q d hd).2⟩
   ·by_cases mZ:q < n * aC c.P e + (flat ys).length
    ·rw[kK,dX (by rw[qd];omega),bQ (by rw[qd];omega),qd]at hd;rw[Array.append_assoc,O6 (by rw[vZ,rV,aR];omega),JN (by rw[vZ,vZ,rV,aR,xd];omega),vZ,rV,aR];have:=UL.2 _ d hd;rw[lJ]at this;exact⟨UD this.1,this.2⟩
    ·rw[dX (by rw[eQ,qd];omega)]at hd;have dN:d= .undef:=by
      have:=(aQ.1 hd).2;simpa using this.symm
     subst dN;refine⟨.undef _ _, ?_⟩;have rU:(tT.toArray++news.toArray).size=n * aC c.P e + (flat ys).length:=by rw[Array.size_append,vZ,vZ,rV,aR,xd]
     rw[O6 (by rw[rU];omega),rU];rw[<-lJ];refine JP _ (λk hk=> ?_) _ _ (by rw[<-hm];omega);rw[po]at hk⊢;have Eb:k < zs.length:=by rw[<-jC.1];exact hk
     exact(jC.2 k zs[k] (bS Eb)).2
  have Br:=cP.alloc (t:=e) zh;have dw:∀d∈cs.take (n * aC c.P e)++flat ys++cD m .undef,Names 0 0 d:=λd hd=>by
   rcases fA.1 hd with hd|hd
   ·rcases fA.1 hd with hd|hd
    ·exact dD d (x9 hd)
    ·exact TO d hd
   ·rw[(rv.1 hd).2];exact .undef
  have vE:(s.bx++[Bx.mu (cs.take (n * aC c.P e)++flat ys++cD m .undef)])[s.bx.length]? =some (.mu (cs.take (n * aC c.P e)++flat ys++cD m .undef)):=by simp
  have afL:(g.β++[w.drew.heap.size])[s.bx.length]? =some w.drew.heap.size:=by rw[<-hg.lβ];simp
  have A3:=Br.QI i s.bx.length s.bx.length _ _ eg aO (.inr (aY _)) vE afL wX (xf i s.bx.length _ dw);simp only[List.take_left]at A3;have eO:=grownCap_ge w (n + ys.length) cap e;have hU:=hK (cD m .undef) (grownCap w (n + ys.length) cap e) eO (by
   rw[uL,hm,LK,<-ru]
   congr 1
   omega) (λd hd=>by rw[(rv.1 hd).2];exact .undef)
  refine hN _ _ _ ⟨_,A3.put ?_ (.aN _ _ _ _ _ w.heap.size ?_)⟩ hU
  ·cases dst<;>first|exact trivial|exact hd
  ·exact jg (by rw[mH,eQ,hg.lβ];omega)
def WG (c:Ctx)(t:TypeId)(x:Operand)(dst:Option Tmp)(N:St->Prop)(s1:St):Prop:=
 bd s1 dst/\a_ (elemOf c.P t) λe=>aC c.P e≠0/\(bL c.P e).isSome=true/\oY s1.rw (s1.ev x) λys=>(∀y∈ys,y.cells.length=aC c.P e)/\ys≠[]/\ys.length<=9223372036854775807/\ys.length * bytesOf c.P e<=140737488355328/\
  ((∀d∈flat ys,Names 0 0 d)->∀(U:List D) (cap:Nat),ys.length<=cap->ys.length * aC c.P e + U.length=cap * aC c.P e->(∀d∈U,Names 0 0 d)->N (St.put {s1 with bx:=s1.bx++[.mu (flat ys++U)]} dst (.aN s1.bx.length 0 ys.length cap)))
theorem aP.aiQ {K:St->Prop}{gd:Option (Nat×Bool)}{t ty:TypeId}{x:Operand}{dst:Option Tmp}{pos:String}{aft:Array Edge}(h:WG c t x dst K s):
  aP c ⟨dst, .call ⟨.builtin .append,#[.const (.slice none 0 0),x],#[t,t]⟩,ty,pos,aft,gd⟩ s K:=by
 obtain⟨hd,h⟩:=h;obtain⟨e,he,hz,mW,h⟩:=cM h;rintro a w N' Q' ⟨g,hg⟩ hN;obtain⟨ys,hy,lg,h0,jI,hb,h2⟩:=CB hg.mem (hg.ev x) h;obtain⟨A,cy,J5,uy,hv,L1,n_,vk⟩:=hy.sP;obtain⟨zs,gM⟩:=xV.1 mW;obtain⟨z0,fU,jC,i,hi,sY⟩:=yk gM w g;have aR:i.size=aC c.P e:=by simp[aC,zP,hi]
 have oe:bytesOf c.P e=i.bytes:=by simp[bytesOf,hi]
 have kS:0 < aC c.P e:=Xy hz;have⟨z,lq,po⟩:∃z,i.zero=some z/\z.cells=z0.cells:=by
  unfold bL at gM;rw[hi]at gM;cases lq:i.zero with
  |none=>simp[lq]at gM
  |some z'=>
   refine⟨z',rfl, ?_⟩;have:(zeroValue e).run c.P w= .ok z' w:=by simp[zeroValue,typeInfo,hi,lq]
   rw[this]at fU;injection fU with fU;rw[fU]
 have rZ:=qq (aC c.P e) ys lg;refine gK (by intro cl h;cases h) ?_;unfold fo;have rX:a.eval (.const (.slice none 0 0))= .slice none 0 0:=rfl;have hlen:0 < ys.length:=uM.2 h0;have sS:0 < (flat ys).length:=by rw[rZ];exact Nat.mul_pos hlen kS
 obtain⟨ad,hA,_⟩:=n_ 0 sS;subst hA
 let news:=(ct (flat ys).length).map uy
 have bE:news.length=ys.length * i.size:=by simp[news,rZ,aR]
 have sV:∀j u,news[j]? =some u->w.cell? (ad.add j)=some u:=λj u hj=>by
  simp only[news,cO,cv]at hj;obtain⟨j',hj,rfl⟩:=hj;have dE:=(aQ.1 hj).1;have pz:=(aQ.1 hj).2;simp at dE pz;subst pz;obtain⟨zJ,e2,hc,_⟩:=n_ j dE;cases e2;exact hc
 have hr:=Go.run_append_nil (P:=c.P) w t ty e i z (mD he) hi lq ad ys.length cy news bE sV hlen ae (by rw[<-oe];omega);have aV:(execOp a.eval ⟨dst, .call ⟨.builtin .append,#[.const (.slice none 0 0),x],#[t,t]⟩,ty,pos,aft,gd⟩).run c.P w=
   .ok (.value (.slice (some ⟨w.heap.size,0,none⟩) ys.length (grownCap w ys.length 0 e))) (w.drew.alloc (.cells (news.toArray++oT z.cells (grownCap w ys.length 0 e - ys.length)) e)):=by
  simp[execOp,resolve,invoke,builtin,rX,hv,hr]
 rw[aV];have cP:RG c s a w.drew g:=hg.world (w':=w.drew) (S':=g.S) ⟨rfl,rfl,rfl,aY _,λ_ _=>rfl⟩ (λ_ h=>h) (λ_ h=> .inl h) hg.ba;have yV:(oT z.cells (grownCap w ys.length 0 e - ys.length)).size=(grownCap w ys.length 0 e - ys.length) * z.cells.size:=size_zeroCells _ _;have zh:fZ w.drew g (news.toArray++oT z.cells (grownCap w ys.length 0 e - ys.length)) (flat ys++cD ((grownCap w ys.length 0 e - ys.length) * z.cells.size) .undef):=by
  refine⟨by simp[yV,news],λq d hd=> ?_⟩;have jE:=(aQ.1 hd).1;simp only[eQ,uL]at jE;have xd:news.length=(flat ys).length:=by simp[news]
  by_cases hq:q < (flat ys).length
  ·rw[bQ hq]at hd;have hu:(news.toArray++oT z.cells (grownCap w ys.length 0 e - ys.length)).getD q bp=uy q:=by
    rw[lJ,JN (by simp;omega)];simp[news,hq]
   rw[hu];obtain⟨_,_,_,_,ho⟩:=n_ q hq;exact⟨((vk q d hd).aZ (ud _ _)).aZ ⟨λ_ _=>rfl,λ_ h=>h,λ_ _ h=>h,λ_ _ h=>h,λ_ _ h=>h⟩,ho⟩
  ·rw[dX ae]at hd;have dN:d= .undef:=by
    have:=(aQ.1 hd).2;simpa using this.symm
   subst dN;refine⟨.undef _ _, ?_⟩;have hu:(news.toArray++oT z.cells (grownCap w ys.length 0 e - ys.length)).getD q bp=(oT z.cells (grownCap w ys.length 0 e - ys.length)).getD (q - news.length) bp:=by
    rw[lJ,lJ,O6 (by simp;omega)];simp
   rw[hu];refine JP _ (λk hk=> ?_) _ _ ae;rw[po]at hk⊢;have Eb:k < zs.length:=by rw[<-jC.1];exact hk
   exact(jC.2 k zs[k] (bS Eb)).2
 have Br:=cP.alloc (t:=e) zh;have LK:z.cells.size=aC c.P e:=by rw[po,jC.1,<-sY,aR]
 refine hN _ _ _ ⟨_,Br.put ?_ (.aN _ _ _ _ _ w.heap.size ?_)⟩ (h2 (λd hd=>by
  obtain⟨q,hq⟩:=v7.1 hd;simpa[Gh.er]using(vk q d hq).names) _ _ (grownCap_ge w ys.length 0 e) (by
  rw[uL,LK,<-ru];have:=grownCap_ge w ys.length 0 e
  congr 1
  omega) (λd hd=>by rw[(rv.1 hd).2];exact .undef))
 ·cases dst<;>first|exact trivial|exact hd
 ·show(g.β++[w.drew.heap.size])[s.bx.length]? =_;rw[<-hg.lβ];simp
theorem aP.vd {K:St->Prop}{fx:Operand}{xs:Array Operand}{dst:Option Tmp}{at_:Array TypeId}{ty:TypeId}{pos:String}{aft:Array Edge}{gd:Option (Nat×Bool)}(h:nq c K fx xs.toList dst s):
  aP c ⟨dst, .call ⟨.value fx,xs,at_⟩,ty,pos,aft,gd⟩ s K:=λa w N' Q' hr hN=>by
 have:=NY (y:=⟨dst, .call ⟨.value fx,xs,at_⟩,ty,pos,aft,none⟩) (Q':=Q') rfl hr h hN;exact this
def xL (ops:List Oper)(j:Nat)(want:Bool)(dst:Option Tmp)(At:(St->Prop)->St->Prop)(N:St->Prop)(s1:St):Prop:=
 a_ (iu ops j) λt=>wG (s1.sl t) (bd s1 dst/\N (s1.put dst .skp)) λb=>(b=want->At N s1)/\(b= !want->bd s1 dst/\N (s1.put dst .skp))
theorem Xa {Q:Exit->St->Prop}{id:Nat}{l:List Oper}(n:Nat){dst:Option Tmp}{op:Op}{ty:TypeId}{pos:String}{aft:Array Edge}{j:Nat}{want:Bool}(At:(St->Prop)->St->Prop)(hy:∀(N:St->Prop) (s1:St),At N s1->aP c ⟨dst,op,ty,pos,aft,some (j,want)⟩ s1 N)
  (hl:l=l.take n++⟨dst,op,ty,pos,aft,some (j,want)⟩::l.drop (n + 1))(En:∀cl,op≠ .defer cl)
  (h:∀K1:St->Prop,(∀s1,xL l j want dst At (λs2=>bZ c.P l (l.drop (n + 1)) s2 (λs2=>Q .normal s2)) s1->K1 s1)->bZ c.P l (l.take n) s K1):
  av c (.region id l.toArray false) Q s:=by
 intro a w hr;refine wpIn_region_lit ?_;rw[hl];rw[hl]at h;have kU:(l.take n++(⟨dst,op,ty,pos,aft,some (j,want)⟩:Oper)::l.drop (n + 1)).take n=l.take n:=by rw[<-hl]
 have eN:(l.take n++(⟨dst,op,ty,pos,aft,some (j,want)⟩:Oper)::l.drop (n + 1)).drop (n + 1)=l.drop (n + 1):=by rw[<-hl]
 rw[kU,eN]at h;generalize l.take n=l1 at *;generalize l.drop (n + 1)=l2 at *;refine qv (c:=c) (λs1 a1 w1 fO cX=> ?_) l1 s a w hr (h _ (λs1 h1=>h1));obtain⟨y,yT⟩:∃y:Oper,y=⟨dst,op,ty,pos,aft,some (j,want)⟩:=⟨_,rfl⟩;rw[<-yT]at hy cX⊢;have cP:y.guard=some (j,want):=by rw[yT]
 show wpListIn c.F 0 c.P _ _ (y::l2) a1 w1;unfold wpListIn;obtain⟨t,ht,cX⟩:=cM cX;obtain⟨g1,aK⟩:=fO;have last:∀(s3:St) a3 w3,R c s3 a3 w3->bZ c.P (l1++y::l2) l2 s3 (λs2=>Q .normal s2)->wpListIn c.F 0 c.P (l1++y::l2).toArray (λe a w=>∃s',R c s' a w/\Q e s') l2 a3 w3:=
  λs3 a3 w3 jV nf=>qu (c:=c) (K:=λs2=>Q .normal s2) (λs4 a4 w4 lP qi=>⟨s4,lP,qi⟩) l2 _ _ _ jV nf
 have lO:y.dst=dst:=by rw[yT]
 cases hb:s1.sl t<;>rw[hb]at cX<;>simp only[wG]at cX
 case skp=>
  have rP:=R.AI (ops:=(l1++y::l2).toArray) aK (by simpa using ht) hb;rw[if_neg (by simp[eh,cP,rP])];refine⟨λ_ _=>trivial, ?_⟩;rw[lO];exact last _ _ _ ⟨g1,aK.put cX.1 (.skp _)⟩ cX.2
 rename_i b;have rP:=R.yielded (ops:=(l1++y::l2).toArray) aK (by simpa using ht) hb;by_cases gS:b=want
 ·subst gS;rw[if_pos (by simp[eh,cP,rP])];exact hy _ s1 (cX.1 rfl) a1 w1 _ _ ⟨g1,aK⟩ last
 ·have r9:b= !want:=by cases b<;>cases want<;>simp_all
  rw[if_neg (by simp[eh,cP,rP,gS])];obtain⟨hd,h2⟩:=cX.2 r9;refine⟨λ_ _=>trivial, ?_⟩;rw[lO];exact last _ _ _ ⟨g1,aK.put hd (.skp _)⟩ h2
end
attribute[go_sem] WE WG xL D.mb uc qw pH
@[go_sem] theorem ajg {p:Nat->Bool}{sl:Nat->D}{n:Nat}{v:D}:sj p (put sl n v)=put (sj p sl) n (qw p v):=by
 funext m;simp only[sj,put];split<;>rfl
structure It where
 r:Nat
 b:Nat
 i:Nat
 es:List (D×D)
 ms:Array MapEntry
 cl:Nat
def It.seen (J:It):Nat->Array Nat
 |0=>#[]
 |_ + 1=>J.ms.map (·.born)
structure TR (c:Ctx)(J:It)(k:Nat)(s:St)(a:Act)(w:World):Prop where
 rg:∃g,RG c s a w g/\g.β[J.i]? =some J.b/\g.M J.b=none/\g.M J.r=none/\(∀(q:Nat) (p:D×D) (m:MapEntry),J.es[q]? =some p->J.ms[q]? =some m->Rel w g.mg m.key p.1/\Rel w g.mg m.val p.2)/\
  ∀(j:Nat) (pE:List (D×D)) (b':Nat),s.bx[j]? =some (.mp pE)->g.β[j]? =some b'->b'≠J.b
 dead:s.bx[J.i]? =some .dead
 it:∃c0,J.cl<=c0/\w.heap[J.r]? =some (.mapIter (some J.b) J.cl (J.seen k) c0)/\(0 < k->c0=J.cl)
 mp:w.heap[J.b]? =some (.map J.ms J.cl)
 sz:J.ms.size=J.es.length
 one:J.es.length<=1
 lU:(∀(p q:Nat) (m m':MapEntry),J.ms[p]? =some m->J.ms[q]? =some m'->m.key=m'.key->p=q)/\∀m∈J.ms.toList,m.born < J.cl
 own:c.own J.b
 lo:c.w0.heap.size<=J.r
 kk:k<=J.es.length
section
variable {c:Ctx} {s:St} {a:Act} {w:World} {g:Gh}
abbrev It.p (J:It):Nat->Prop:=λx=>x=J.r\/x=J.b
end
section rules
variable {c:Ctx} {J:It} {Q:Exit->St->Nat->Prop} {s:St} {k:Nat}
end rules
def ez (c:Ctx)(body:Code)(Q:Exit->St->Prop):Nat->St->Prop
 |0,_=>False
 |m + 1,s=>av c body (bH (ez c body Q m) Q) s
theorem sJ {c:Ctx}{body:Code}{Q:Exit->St->Prop}{m:Nat}{s:St}(h:av c body (bH (ez c body Q m) Q) s):ez c body Q (m + 1) s:=h
theorem Qv {c:Ctx}{body:Code}{Q:Exit->St->Prop}:∀(m:Nat) {s:St},ez c body Q m s->∀a w,R c s a w->Code.roundsIn c.F 0 c.P body (λe a' w'=>∃s',R c s' a' w'/\Q e s') m a w
 |0,_,h,_,_,_=>h.elim
 |m + 1,s,h,a,w,hr=>by
  rw[roundsIn_succ];refine wpIn_mono (h a w hr) ?_;rintro e a' w' ⟨s',r,q⟩;cases e with
  |normal=>exact Qv m q a' w' r
  |exit id=>exact⟨s',r,q⟩
  |goto l=>exact⟨s',r,q⟩
  |ret=>exact⟨s',r,q⟩
  |panic ch=>exact⟨s',r,q⟩
  |outgrown=>exact⟨s',r,q⟩
theorem sn {c:Ctx}{body:Code}{Q:Exit->St->Prop}{s:St}(m:Nat)(h:ez c body Q m s):av c (.loop body) Q s:=λa w hr=>wpIn_loop_rounds m (Qv m h a w hr)
mutual
def D.gX (σ:Nat->Option Nat):D->D
 | .undef=> .undef
 | .int k n=> .int k n
 | .bool b=> .bool b
 | .str s=> .str s
 | .list xs=> .list xs
 | .ro cs=> .ro cs
 | .own r=> .own r
 | .val v=> .val v
 | .bM f=> .bM f
 | .skp=> .skp
 | .any=> .any
 | .agg cs=> .agg (ko σ cs)
 | .aF cs=> .aF (ko σ cs)
 | .ag f cs=> .ag f (ko σ cs)
 | .cL f cs=> .cL f (ko σ cs)
 | .box i off=>match σ i with|some j=> .box j off|none=> .undef
 | .aN i off n c=>match σ i with|some j=> .aN j off n c|none=> .undef
 | .bu i=>match σ i with|some j=> .bu j|none=> .undef
def ko (σ:Nat->Option Nat):List D->List D
 |[]=>[]
 |d::ds=>d.gX σ::ko σ ds
end
theorem GM (σ:Nat->Option Nat):∀ds:List D,ko σ ds=ds.map (D.gX σ)
 |[]=>rfl
 |d::ds=>by simp[ko,GM σ ds]
theorem AE (σ:Nat->Option Nat)(ds:List D):(ko σ ds).length=ds.length:=by rw[GM,iB]
theorem C9 {σ:Nat->Option Nat}{ds:List D}{q:Nat}{d:D}(h:(ko σ ds)[q]? =some d):∃x,ds[q]? =some x/\d=x.gX σ:=by
 rw[GM,cO,cv]at h;obtain⟨x,hx,rfl⟩:=h;exact⟨x,hx,rfl⟩
def nL (σ:Nat->Option Nat):Bx->Bx
 | .dead=> .dead
 | .mu cs=> .mu (ko σ cs)
 | .fz cs=> .fz cs
 | .mp es=> .mp (es.map λe=>(e.1.gX σ,e.2.gX σ))
theorem ack (σ:Nat->Option Nat)(x:Bx):(nL σ x).live=x.live:=by cases x<;>rfl
theorem aci {σ:Nat->Option Nat}{x:Bx}{cs:List D}(h:nL σ x= .mu cs):∃iy,x= .mu iy/\cs=ko σ iy:=by
 cases x<;>simp only[nL]at h<;>cases h
 exact⟨_,rfl,rfl⟩
theorem acm {σ:Nat->Option Nat}{x:Bx}{cs:List D}(h:nL σ x= .fz cs):x= .fz cs:=by
 cases x<;>simp only[nL]at h<;>cases h
 rfl
theorem acj {σ:Nat->Option Nat}{x:Bx}{es:List (D×D)}(h:nL σ x= .mp es):∃mC,x= .mp mC/\es=mC.map λe=>(e.1.gX σ,e.2.gX σ):=by
 cases x<;>simp only[nL]at h<;>cases h
 exact⟨_,rfl,rfl⟩
theorem Rel.gX {w:World}{g:Gh}{v:Value}{d:D}{σ:Nat->Option Nat}(h:Rel w g v d):∀{g':Gh},g'.S=g.S->g'.ρ=g.ρ->g'.M=g.M->(∀(i j b:Nat),σ i=some j->g.β[i]? =some b->g'.β[j]? =some b)->Rel w g' v (d.gX σ):=by
 induction h with
 |undef g v=>intros;exact .undef _ _
 |int g k n=>intros;exact .int _ _ _
 |bool g b=>intros;exact .bool _ _
 |str g s=>intros;exact .str _ _
 |val g v=>intros;exact .val _ _
 |list g A n c xs sz u hn aR eO hm hr ih=>
  intro g' h1 h2 h3 h4;refine .list _ A n c xs sz u hn aR eO (λq hq=> ?_) (λq d hd=> ?_)
  ·rw[h1];exact hm q hq
  ·have:g'.er=g.er:=by simp only[Gh.er,h1,h3]
   rw[this];exact hr q d hd
 |agg g vs cs hl gH hr ih=>
  intro g' h1 h2 h3 h4;refine .agg _ vs _ (by rw[hl,AE]) (λq hq=>gH q (by rw[AE]at hq;exact hq)) (λq d hd=> ?_);obtain⟨x,hx,rfl⟩:=C9 hd;exact ih q x hx h1 h2 h3 h4
 |aF g vs ds hl hr ih=>
  intro g' h1 h2 h3 h4;refine .aF _ vs _ (by rw[hl,AE]) (λq d hd=> ?_);obtain⟨x,hx,rfl⟩:=C9 hd;exact ih q x hx h1 h2 h3 h4
 |box g i off b hb=>
  intro g' h1 h2 h3 h4;simp only[D.gX];cases hs:σ i with
  |none=>exact .undef _ _
  |some j=>exact .box _ j off b (h4 i j b hs hb)
 |ro g ad cs u hm hr ih=>
  intro g' h1 h2 h3 h4;refine .ro _ ad cs u (λq hq=> ?_) (λq d hd=> ?_)
  ·rw[h1];exact hm q hq
  ·have:g'.er=g.er:=by simp only[Gh.er,h1,h3]
   rw[this];exact hr q d hd
 |bM g b f h=>intro g' h1 h2 h3 h4;exact .bM _ b f (by rw[h3];exact h)
 |skp g=>intros;exact .skp _
 |any g v h1=>intros;exact .any _ v h1
 |bu g i b hb=>
  intro g' h1 h2 h3 h4;simp only[D.gX];cases hs:σ i with
  |none=>exact .undef _ _
  |some j=>exact .bu _ j b (h4 i j b hs hb)
 |cL g f vs cs hl hr ih=>
  intro g' h1 h2 h3 h4;refine .cL _ f vs _ (by rw[hl,AE]) (λq d hd=> ?_);obtain⟨x,hx,rfl⟩:=C9 hd;exact ih q x hx h1 h2 h3 h4
 |aN g i off n c b hb=>
  intro g' h1 h2 h3 h4;simp only[D.gX];cases hs:σ i with
  |none=>exact .undef _ _
  |some j=>exact .aN _ j off n c b (h4 i j b hs hb)
 |own g r' v h=>intro g' h1 h2 h3 h4;exact .own _ r' v (by rw[h2];exact h)
 |ag g f vs cs hl hr ih=>
  intro g' h1 h2 h3 h4;refine .ag _ f vs _ (by rw[hl,AE]) (λq d hd=> ?_);obtain⟨x,hx,rfl⟩:=C9 hd;exact ih q x hx h1 h2 h3 h4
def pos:List Nat->Nat->Nat->Option Nat
 |[],_,_=>none
 |k::l,n,i=>bif k == i then some n else pos l (n + 1) i
theorem De:∀{l:List Nat} {n i j:Nat},pos l n i=some j->n<=j/\l[j - n]? =some i
 |[],_,_,_,h=>by cases h
 |k::l,n,i,j,h=>by
  unfold pos at h;cases hk:k == i with
  |true=>
   rw[hk]at h;simp only[cond_true,gE]at h;subst h;exact⟨aY _,by simpa using hk⟩
  |false=>
   rw[hk]at h;simp only[cond_false]at h;obtain⟨h1,h2⟩:=De h;refine⟨ae, ?_⟩;rw[show j - n=(j - (n + 1)) + 1 by omega,uN];exact h2
theorem yF:∀{l:List Nat} {n i j:Nat},l.Nodup->l[j]? =some i->pos l n i=some (n + j)
 |[],_,_,_,_,h=>by simp at h
 |k::l,n,i,0,_,h=>by
  simp only[List.getElem?_cons_zero,gE]at h;subst h;simp[pos]
 |k::l,n,i,j + 1,hn,h=>by
  rw[uN]at h;have hm:i∈l:=ey h;have bz:(k == i)=false:=by
   rw[beq_eq_false_iff_ne];rintro rfl;exact(qF.1 hn).1 hm
  unfold pos;rw[bz,cond_false,yF (qF.1 hn).2 h]
  congr 1;omega
def qL (ix:List Nat)(B:List Bx):List Bx:=ix.map λi=>match B[i]? with|some x=>nL (pos ix 0) x|none=> .dead
theorem GC {ix:List Nat}{B:List Bx}{j:Nat}{y:Bx}(h:(qL ix B)[j]? =some y)(hl:y.live=true):∃i x,ix[j]? =some i/\B[i]? =some x/\y=nL (pos ix 0) x:=by
 unfold qL at h;rw[cO,cv]at h;obtain⟨i,hi,rfl⟩:=h;cases hx:B[i]? with
 |none=>rw[hx]at hl;cases hl
 |some x=>exact⟨i,x,hi,hx,rfl⟩
section
variable {c:Ctx} {s:St} {a:Act} {w:World} {g:Gh}
def wH (ix:List Nat)(g:Gh):Gh:=⟨g.S,ix.map λi=>g.β.getD i 0,g.ρ,g.M⟩
theorem Qh {ix:List Nat}{g:Gh}(hn:ix.Nodup)(i j b:Nat)(h:pos ix 0 i=some j)(hb:g.β[i]? =some b):(wH ix g).β[j]? =some b:=by
 have:=(De h).2;simp only[su]at this;show(ix.map λi=>g.β.getD i 0)[j]? =some b;rw[cO,this];simp[hb]
theorem CY {ix:List Nat}{g:Gh}{j i b:Nat}(h:ix[j]? =some i)(hb:g.β[i]? =some b):(wH ix g).β[j]? =some b:=by
 show(ix.map λi=>g.β.getD i 0)[j]? =some b;rw[cO,h];simp[hb]
theorem ak5 (ra:∃κ,O8 s g κ)(agp:g.β.length=s.bx.length)(ix:List Nat)(hn:ix.Nodup){n:Nat}{sl:Nat->D}:∃κ,O8 ⟨n,sl,qL ix s.bx,s.rw⟩ (wH ix g) κ:=by
 obtain⟨κ,k1,k2⟩:=ra;refine⟨λb=>match κ b with| .inl i=> .inl ((pos ix 0 i).getD 0)| .inr r=> .inr r,λj y b hj hl hb=> ?_,λr row v gb hr hl hv aI=> ?_⟩
 ·obtain⟨i,x,hi,hx,rfl⟩:=GC hj hl;rw[ack]at hl;have hβ:g.β[i]? =some b:=by
   have eg:i < g.β.length:=by rw[agp];exact(aQ.1 hx).1
   have:(wH ix g).β[j]? =some g.β[i]:=CY hi (bS eg);rw[this]at hb;rw[bS eg];exact hb
  have hk:=k1 i x b hx hl hβ;simp only[hk,yF hn hi,e8,fK]
 ·have hk:=k2 r row v gb hr hl hv aI;simp only[hk]
theorem RG.select (h:RG c s a w g)(ix:List Nat)(hn:ix.Nodup)(h0:∀i,i < c.β0.length->ix[i]? =some i):
  RG c ⟨s.n,λm=>(s.sl m).gX (pos ix 0),qL ix s.bx,s.rw⟩ a w (wH ix g):=by
 have jU:∀{v:Value} {d:D},Rel w g v d->Rel w (wH ix g) v (d.gX (pos ix 0)):=λhr=>hr.gX rfl rfl rfl (λi j b=>Qh hn i j b);have xb:∀{v:Value} {d:D},Rel w g.mg v d->Rel w (wH ix g).mg v (d.gX (pos ix 0)):=λhr=>hr.gX rfl rfl rfl (λi j b=>Qh hn i j b);refine⟨h.df.gh rfl (λi b hc hb=> ?_),h.sz,h.below,h.cu,h.ba,h.en,h.S0,h.fJ,by simp[wH,qL],h.lρ,λm=>jU (h.sl m),λj cs hj=> ?_,λj cs hj=> ?_,λr row hr=> ?_, ?_,λj es hj=> ?_⟩
 ·exact CY (h0 i (aQ.1 hc).1) hb
 ·obtain⟨i,x,hi,hx,e⟩:=GC hj rfl;obtain⟨iy,rfl,rfl⟩:=aci e.symm;obtain⟨b,vs,t,e1,e2,e3,e4,e5,e6⟩:=(h.bx i iy hx).ex;refine⟨b,vs,t,CY hi e1,e2,⟨by rw[AE];exact e3.1,λq d hd=> ?_⟩,e4,e5,(λhh=>by cases hh)⟩;obtain⟨y,hy,rfl⟩:=C9 hd;exact⟨jU (e3.2 q y hy).1,(e3.2 q y hy).2⟩
 ·obtain⟨i,x,hi,hx,e⟩:=GC hj rfl;obtain rfl:=acm e.symm;obtain⟨b,vs,t,e1,e2,e3,e4,e5,e6⟩:=(h.fz i cs hx).ex;exact⟨b,vs,t,CY hi e1,e2,e3,e4,e5,e6⟩
 ·obtain⟨v,e1,e2,e3⟩:=(h.rw r row hr).ex;exact⟨v,e1,jU e2,e3⟩
 ·exact ak5 h.ap h.lβ ix hn
 ·obtain⟨i,x,hi,hx,e⟩:=GC hj rfl;obtain⟨mC,rfl,rfl⟩:=acj e.symm;obtain⟨b,d_⟩:=h.mp i mC hx;obtain⟨ms,cl,g1,g2,g3⟩:=d_.ex;refine⟨b,CY hi d_.β,⟨ms,cl,g1,by rw[iB];exact g2,λq p m hp hq=> ?_⟩,d_.nm,d_.own,d_.lU⟩;rw[cO,cv]at hp;obtain⟨p0,jF,rfl⟩:=hp;exact⟨xb (g3 q p0 m jF hq).1,xb (g3 q p0 m jF hq).2⟩
end
def C8 (σ:Nat->Option Nat)(sl:Nat->D):Nat->D:=λm=>(sl m).gX σ
theorem bX.select {c:Ctx}{n:Nat}{sl:Nat->D}{bx:List Bx}{aD:List Row}(ix:List Nat)(hn:ix.Nodup)(h0:∀i,i < c.β0.length->ix[i]? =some i):
  bX c ⟨n,sl,bx,aD⟩ ⟨n,C8 (pos ix 0) sl,qL ix bx,aD⟩:=λ_ _ ⟨g,hg⟩=>⟨_,hg.select ix hn h0⟩
theorem SU {ix:List Nat}{k m:Nat}(hk:m=k)(h:(ct k).all (λi=>ix[i]? == some i)=true):∀i,i < m->ix[i]? =some i:=λi hi=>by
 subst hk;have:=(iD.1 h) i (oR.2 hi);simpa using this
def o9 (ix:List Nat)(n:Nat)(j:Nat):Nat:=match ix[j]? with|some i=>i|none=>n + (j - ix.length)
def up (ix:List Nat)(n:Nat):Nat->Option Nat:=λj=>some (o9 ix n j)
theorem Names.acq {w:World}{g:Gh}{v:Value}{d:D}(h:Rel w g v d){nb:Nat}(hN:Names nb 0 d):Rel w ⟨g.S,g.β,[],g.M⟩ v d:=by
 have:=h.cut hN;refine this.aZ ⟨λ_ _=>rfl,λ_ h=>h,λi b hb=> ?_,λi b hb=>by simp at hb,λ_ _ h=>h⟩;rw[iM]at hb;split at hb
 ·exact hb
 ·cases hb
section
variable {P:Program} {f:FuncId} {ds:List D} {bx:List Bx} {rw:List Row} {K:D->List Bx->List Row->Prop}
end
attribute[go_sem] D.gX ko nL pos qL o9 up
end Go.Ab
section
namespace Go.Ab
open Go.RowKit
section
variable {P:Program}
end
end Go.Ab
end
section
namespace Go.Ab
open Go.RowKit
abbrev fm:=List (Nat×Nat×((Nat->Bool)->D))
abbrev more (L:Nat->Bool)(k:Nat):Nat->Bool:=λq=>decide (q=k)||L q
def bq (F V:Nat->Bool):fm->(Nat->D)->Nat->D
 |[],b=>b
 |e::T,b=>bif F e.1 then put (bq F V T b) e.2.1 (e.2.2 V)else bq F V T b
theorem jS (L:Nat->Bool)(k:Nat):more L k k=true:=by simp[more]
theorem kr (L:Nat->Bool){k q:Nat}(h:q≠k):more L k q=L q:=by simp[more,h]
theorem CQ {L V:Nat->Bool}{k:Nat}{b:Nat->D}:∀{T:fm},k∉T.map (·.1)->bq (more L k) V T b=bq L V T b
 |[],_=>rfl
 |e::T,h=>by
  simp only[ib,eK,not_or]at h;simp only[bq,CQ h.2,kr L (fq h.1)]
theorem Gw {L V:Nat->Bool}{k m:Nat}{v:(Nat->Bool)->D}{b:Nat->D}(hk:L k=false):∀{T:fm},(T.map (·.1)).Nodup->(T.map (·.2.1)).Nodup->(k,m,v)∈T->bq (more L k) V T b=put (bq L V T b) m (v V)
 |[],_,_,h=>by cases h
 |e::T,h1,h2,h=>by
  simp only[ib,qF]at h1 h2;rcases eK.1 h with rfl|h
  ·simp only[bq,jS,hk,cond_true,cond_false,CQ h1.1]
  ·have D8:k∈T.map (·.1):=List.mem_map_of_mem (f:=(·.1)) h;have h_:m∈T.map (·.2.1):=List.mem_map_of_mem (f:=(·.2.1)) h;have n1:e.1≠k:=λe'=>h1.1 (e'▸D8);have n2:e.2.1≠m:=λe'=>h2.1 (e'▸h_);simp only[bq,Gw hk h1.2 h2.2 h,kr L n1];cases L e.1 with
   |false=>rfl
   |true=>
    simp only[cond_true]
    funext q
    simp only[put];by_cases a1:q=e.2.1
    ·rw[if_pos a1,if_neg ae,if_pos a1]
    ·rw[if_neg a1];by_cases a2:q=m
     ·rw[if_pos a2,if_pos a2]
     ·rw[if_neg a2,if_neg a2,if_neg a1]
theorem Gv {L V V':Nat->Bool}{b:Nat->D}:∀{T:fm},(∀e∈T,e.2.2 V=e.2.2 V')->bq L V T b=bq L V' T b
 |[],_=>rfl
 |e::T,h=>by
  have h1:=h e (dI ..);have h2:=Gv (L:=L) (b:=b) λx hx=>h x (dW _ hx);simp only[bq,h1,h2]
theorem P1 {L V V':Nat->Bool}{r:Nat}{b:Nat->D}(hb:tR r b=b):∀{T:fm},(∀e∈T,L e.1=true->gY r (e.2.2 V)=e.2.2 V')->tR r (bq L V T b)=bq L V' T b
 |[],_=>hb
 |e::T,h=>by
  have h1:=h e (dI ..);have h2:=P1 (L:=L) hb λx hx=>h x (dW _ hx);simp only[bq];cases hL:L e.1 with
  |false=>simp only[cond_false];exact h2
  |true=>
   simp only[cond_true];rw[<-h2,<-h1 hL]
   funext q
   simp only[tR,put];split<;>rfl
theorem P4 {L V:Nat->Bool}{b:Nat->D}:∀{T:fm},(∀e∈T,L e.1=true)->bq L V T b=T.foldr (λe f=>put f e.2.1 (e.2.2 V)) b
 |[],_=>rfl
 |e::T,h=>by
  have h1:=h e (dI ..);have h2:=P4 (L:=L) (V:=V) (b:=b) λx hx=>h x (dW _ hx);simp only[bq,h1,h2,cond_true,List.foldr]
theorem Gx {L V:Nat->Bool}{b:Nat->D}:∀{T:fm},(∀e∈T,L e.1=false)->bq L V T b=b
 |[],_=>rfl
 |e::T,h=>by
  have h1:=h e (dI ..);have h2:=Gx (L:=L) (V:=V) (b:=b) λx hx=>h x (dW _ hx);simp only[bq,h1,h2,cond_false]
theorem bX.of_eq {c:Ctx}{s s':St}(h:s=s'):bX c s s':=h▸bX.refl
theorem aP.Rx {c:Ctx}{o:Oper}{s:St}{K:St->Prop}(hg:o.guard=none)(h:bZ c.P [] [o] s K):aP c o s K:=by
 refine aP.of ?_;simp only[bZ,hg]at h;exact h
end Go.Ab
end
section
namespace Go.Ab
open Go.RowKit
def xC (ops:Array Oper):Bool:=(ct ops.size).all λi=>match ops[i]? with|some o=>o.after.all (λe=> !gV .any e||decide (e.on < i))|none=>true
theorem Na {ops:Array Oper}(h:xC ops=true){i:Nat}{o:Oper}(ho:ops[i]? =some o):∀e∈o.after,gV .any e=true->e.on < i:=by
 have hi:=(bt.1 ho).1;have h1:=iD.1 h i (oR.2 hi);rw[ho]at h1;intro e he hb;have:=Array.all_eq_true'.1 h1 e he;simpa[hb]using this
def tG (F:Fence)(P:Program)(ops:Array Oper)(o:Oper)(a:Act)(w:World)(N:Act->World->Prop)(Q:Exit->Act->World->Prop):Prop:=
 if eh o (Go.yielded ops a.tmps)then o.wpIn F 0 P a w N Q else(∀f,o.about P w a.eval=some f->F.fn f)/\N (a.put o.dst undef) w
theorem Yp {F:Fence}{P:Program}{ops:Array Oper}{o:Oper}{a:Act}{w:World}{N N':Act->World->Prop}{Q:Exit->Act->World->Prop}(hn:∀a w,N a w->N' a w)(h:tG F P ops o a w N Q):tG F P ops o a w N' Q:=by
 unfold tG at *;split
 ·rename_i hw;rw[if_pos hw]at h;exact Oper.wpIn_mono hn h
 ·rename_i hw;rw[if_neg hw]at h;exact⟨h.1,hn _ _ h.2⟩
theorem N8 {P:Program}{ops:Array Oper}{Q:Exit->Act->World->Prop}(Inv:(Nat->Bool)->Act->World->Prop)
  (TE:∀(i:Nat) (o:Oper),ops[i]? =some o->∀e∈o.after,gV .any e=true->e.on < i)
  (step:∀(L:Nat->Bool) (i:Nat) (o:Oper),ops[i]? =some o->L i=false->(∀e∈o.after,gV .any e=true->L e.on=true)->∀a w,Inv L a w->
   tG cE P ops o a w (Inv (λj=>decide (j=i)||L j)) Q)
  (done:∀(L:Nat->Bool) a w,(∀i,i < ops.size->L i=true)->Inv L a w->Q .normal a w):
  ∀(fuel:Nat) (listed:Array Bool) (a:Act) (w:World),listed.size=ops.size->((ct ops.size).filter λj=> !listed.getD j false).length<=fuel->Inv (λj=>listed.getD j false) a w->
   wpAnyIn cE 0 P .any ops Q fuel listed a w:=by
 have lh:∀(listed:Array Bool) (j:Nat),listed.size=ops.size->j < ops.size->listed.getD j true=listed.getD j false:=λlisted j hs hj=>by
  simp[hs,hj]
 have dw:∀listed:Array Bool,listed.size=ops.size->rq .any ops listed=[]->∀i,i < ops.size->listed.getD i false=true:=λlisted hs hr=>by
  intro i;induction i using Nat.strongRecOn with
  |_ i ih=>
   intro hi;cases hl:listed.getD i false with
   |true=>rfl
   |false=>
    exfalso;have:i∈rq .any ops listed:=mem_ready.2 ⟨by rw[lh listed i hs hi];exact hl,ops[i],by simp[hi],λe he hb=>ih e.on (TE i _ (by simp[hi]) e he hb) (Nat.lt_trans (TE i _ (by simp[hi]) e he hb) hi)⟩;rw[hr]at this;cases this
 intro fuel;induction fuel with
 |zero=>
  intro listed a w hs hc hI;have rX:((ct ops.size).filter λj=> !listed.getD j false)=[]:=List.length_eq_zero_iff.1 (Nat.le_zero.1 hc);have hL:∀i,i < ops.size->listed.getD i false=true:=λi hi=>by
   cases hl:listed.getD i false with
   |true=>rfl
   |false=>
    have:i∈((ct ops.size).filter λj=> !listed.getD j false):=Jv.2 ⟨oR.2 hi,by rw[hl];rfl⟩;rw[rX]at this;cases this
  refine⟨?_,done _ a w hL hI⟩;refine List.eq_nil_iff_forall_not_mem.2 λi hi=> ?_;obtain⟨h1,o,ho,_⟩:=mem_ready.1 hi;have fj:=(bt.1 ho).1;rw[lh listed i hs fj,hL i fj]at h1;cases h1
 |succ fuel ih=>
  intro listed a w hs hc hI;refine⟨λh0=>done _ a w (dw listed hs h0) hI,λi hi=> ?_⟩;obtain⟨h1,o,ho,h2⟩:=mem_ready.1 hi;have fj:=(bt.1 ho).1;have hl:listed.getD i false=false:=by rw[<-lh listed i hs fj];exact h1
  unfold wpOpIn;rw[ho];simp only;refine Yp (ops:=ops) (λa' w' hI'=> ?_) (step (λj=>listed.getD j false) i o ho hl (λe he hb=>h2 e he hb) a w hI);refine ih (listed.setIfInBounds i true) a' w' (by simpa using hs) ?_ ?_
  ·have aG:((ct ops.size).filter λj=> !(listed.setIfInBounds i true).getD j false).length < ((ct ops.size).filter λj=> !listed.getD j false).length:=by
    have DP:((ct ops.size).filter λj=> !(listed.setIfInBounds i true).getD j false)=(((ct ops.size).filter λj=> !listed.getD j false).filter λj=>decide (j≠i)):=by
     rw[List.filter_filter];refine List.filter_congr λj hj=> ?_;by_cases bF:j=i
     ·subst bF;simp[hs,fj]
     ·simp[yh,fq bF,bF]
    rw[DP];refine List.length_filter_lt_length_iff_exists.2 ⟨i,Jv.2 ⟨oR.2 fj,by rw[hl];rfl⟩,by simp⟩
   omega
  ·have e:(λj=>(listed.setIfInBounds i true).getD j false)=λj=>decide (j=i)||listed.getD j false:=by
    funext j
    by_cases bF:j=i
    ·subst bF;simp[hs,fj]
    ·simp[yh,fq bF,bF]
   rw[e];exact hI'
def fS (c:Ctx)(ops:List Oper)(o:Oper)(s:St)(K:St->Prop):Prop:=
 ∀(a:Act) (w:World) (N':Act->World->Prop) (Q':Exit->Act->World->Prop),R c s a w->(∀s a w,R c s a w->K s->N' a w)->tG c.F c.P ops.toArray o a w N' Q'
section
variable {c:Ctx} {s:St}
theorem fS.qO {ops:List Oper}{o:Oper}{K:St->Prop}(hg:o.guard=none)(h:aP c o s K):fS c ops o s K:=λa w N' Q' hr hN=>by
 unfold tG;rw[if_pos (by simp[eh,hg])];exact h a w N' Q' hr hN
theorem fS.on {ops:List Oper}{o:Oper}{K:St->Prop}{j t:Nat}{want:Bool}(cP:o.guard=some (j,want))(ht:iu ops j=some t)(hb:s.sl t= .bool want)(h:aP c o s K):fS c ops o s K:=λa w N' Q' hr hN=>by
 obtain⟨g,hg⟩:=hr;have hy:=R.yielded (ops:=ops.toArray) hg (by simpa using ht) hb;unfold tG;rw[if_pos (by simp[eh,cP,hy])];exact h a w N' Q' ⟨g,hg⟩ hN
theorem fS.off {ops:List Oper}{o:Oper}{K:St->Prop}{j t:Nat}{want b:Bool}(cP:o.guard=some (j,want))(ht:iu ops j=some t)(hb:s.sl t= .bool b)(gS:b≠want)(hd:bd s o.dst)(h:K (s.put o.dst .skp)):fS c ops o s K:=λa w N' Q' hr hN=>by
 obtain⟨g,hg⟩:=hr;have hy:=R.yielded (ops:=ops.toArray) hg (by simpa using ht) hb;unfold tG;rw[if_neg (by simp[eh,cP,hy,gS])];exact⟨λ_ _=>trivial,hN _ _ _ ⟨g,hg.put hd (.skp _)⟩ h⟩
end
theorem alu {c:Ctx}{id:Nat}{l:List Oper}{Q:Exit->St->Prop}(hm:c.P.follows .mixedOrders=true)(hc:c.l=none)(hB:xC l.toArray=true)(n:Nat)(T:fm)(b:Nat->D)(B:(Nat->Bool)->List Bx)(W:(Nat->Bool)->List Row)
  (step:∀L j o,oz l.toArray L->l[j]? =some o->L j=false->(∀e∈o.after,gV .any e=true->L e.on=true)->
   fS c l o ⟨n,bq L L T b,B L,W L⟩ (λs'=>bX c s' ⟨n,bq (more L j) (more L j) T b,B (more L j),W (more L j)⟩))
  (done:∀L,(∀j,j < l.length->L j=true)->Q .normal ⟨n,bq L L T b,B L,W L⟩):av c (.region id l.toArray true) Q ⟨n,bq (λ_=>false) (λ_=>false) T b,B λ_=>false,W λ_=>false⟩:=by
 intro a w hr;have hF:c.F=cE:=by unfold Ctx.F;rw[hc];rfl
 rw[hF];refine wpIn_region_any hm (N8 (λL a w=>oz l.toArray L/\R c ⟨n,bq L L T b,B L,W L⟩ a w) (λi o ho=>Na hB ho) (λL i o ho hL xq a w hI=> ?_) (λL a w hL hI=>⟨_,hI.2,done L (by simpa using hL)⟩) l.toArray.size _ a _ aO ?_ ?_)
 ·have h:=step L i o hI.1 (by simpa using ho) hL xq a w (λa w=>oz l.toArray (λj=>decide (j=i)||L j)/\R c ⟨n,bq (λj=>decide (j=i)||L j) (λj=>decide (j=i)||L j) T b,B (λj=>decide (j=i)||L j),W (λj=>decide (j=i)||L j)⟩ a w) (λe a w=>∃s',R c s' a w/\Q e s') hI.2 (λs' a' w' cW hk=>⟨λj oj hj qo e he hb=> ?_,hk _ _ cW⟩)
  ·rw[hF]at h;exact h
  ·simp only[Bool.or_eq_true,decide_eq_true_eq]at qo⊢;rcases qo with rfl|qo
   ·rw[ho]at hj;cases hj
    exact .inr (xq e he hb)
   ·exact .inr (hI.1 j oj hj qo e he hb)
 ·exact fu (List.length_filter_le _ _) aO
 ·have e:(λj=>(gW l.toArray.size false).getD j false)=λ_=>false:=by
   funext j
   by_cases hj:j < l.length<;>simp[hj]
  rw[e];exact⟨λj o _ h=>(by cases h),RG.BH hr⟩
end Go.Ab
end
section
namespace Go.Ab
open Go.RowKit
mutual
def vw (bx:List Bx)(rw:List Row):Nat->D->Option D
 |0,_=>none
 |n + 1, .own r=>match rw[r]? with|some row=>some (.list row.xs)|none=>none
 |n + 1, .box i off=>match bx[i]? with
  |some (.mu cs)=>(Gc bx rw n cs).map λl=> .ro (l.drop off)
  |some (.fz cs)=>some (.ro (cs.drop off))
  |_=>none
 |n + 1, .agg cs=>(Gc bx rw n cs).map .agg
 |n + 1, .ag f cs=>(Gc bx rw n cs).map (.ag f)
 |_ + 1, .aF _=>none
 |_ + 1, .cL _ _=>none
 |_ + 1, .aN _ _ _ _=>none
 |_ + 1, .bu _=>some .any
 |_ + 1, .val (.slice none 0 0)=>some (.list [])
 |_ + 1,d=>some d
def Gc (bx:List Bx)(rw:List Row):Nat->List D->Option (List D)
 |_,[]=>some []
 |0,_::_=>none
 |n + 1,d::ds=>match vw bx rw n d with|some d'=>(Gc bx rw (n + 1) ds).map (d'::·)|none=>none
end
abbrev IW (w:World):Addr->Prop:=λx=>∃u,w.cell? x=some u
section
variable {c:Ctx} {s:St} {a:Act} {w:World} {g:Gh}
end
end Go.Ab
end
section
namespace Go.Ab
open Go.RowKit
section
variable {c:Ctx} {s:St}
theorem aeu {ops l:List Oper}{QQ:Exit->Act->World->Prop}(n:Nat){dst:Option Tmp}{op:Op}{ty:TypeId}{pos:String}{aft:Array Edge}{j:Nat}{want:Bool}(At:(St->Prop)->St->Prop)(hy:∀(N:St->Prop) (s1:St),At N s1->aP c ⟨dst,op,ty,pos,aft,some (j,want)⟩ s1 N)
  (hl:l=l.take n++⟨dst,op,ty,pos,aft,some (j,want)⟩::l.drop (n + 1))(Rest:St->Prop)
  (hR:∀s3 a3 w3,R c s3 a3 w3->Rest s3->wpListIn c.F 0 c.P ops.toArray QQ (l.drop (n + 1)) a3 w3)
  (h:∀K1:St->Prop,(∀s1,xL ops j want dst At Rest s1->K1 s1)->bZ c.P ops (l.take n) s K1){a:Act}{w:World}(hr:R c s a w):wpListIn c.F 0 c.P ops.toArray QQ l a w:=by
 rw[hl];generalize l.take n=l1 at *;generalize l.drop (n + 1)=l2 at *;refine qv (c:=c) (ops:=ops.toArray) (λs1 a1 w1 fO cX=> ?_) l1 s a w hr (h _ (λs1 h1=>h1));obtain⟨y,yT⟩:∃y:Oper,y=⟨dst,op,ty,pos,aft,some (j,want)⟩:=⟨_,rfl⟩;rw[<-yT]at hy⊢;have cP:y.guard=some (j,want):=by rw[yT]
 show wpListIn c.F 0 c.P _ _ (y::l2) a1 w1;unfold wpListIn;obtain⟨t,ht,cX⟩:=cM cX;obtain⟨g1,aK⟩:=fO;have lO:y.dst=dst:=by rw[yT]
 cases hb:s1.sl t<;>rw[hb]at cX<;>simp only[wG]at cX
 case skp=>
  have rP:=R.AI (ops:=ops.toArray) aK (by simpa using ht) hb;rw[if_neg (by simp[eh,cP,rP])];refine⟨λ_ _=>trivial, ?_⟩;rw[lO];exact hR _ _ _ ⟨g1,aK.put cX.1 (.skp _)⟩ cX.2
 rename_i b;have rP:=R.yielded (ops:=ops.toArray) aK (by simpa using ht) hb;by_cases gS:b=want
 ·subst gS;rw[if_pos (by simp[eh,cP,rP])];exact hy _ s1 (cX.1 rfl) a1 w1 _ _ ⟨g1,aK⟩ hR
 ·have r9:b= !want:=by cases b<;>cases want<;>simp_all
  rw[if_neg (by simp[eh,cP,rP,gS])];obtain⟨hd,h2⟩:=cX.2 r9;refine⟨λ_ _=>trivial, ?_⟩;rw[lO];exact hR _ _ _ ⟨g1,aK.put hd (.skp _)⟩ h2
end
end Go.Ab
end
