import Derived.Test.YtafmfhkplgapjaaGreatDoorZ06
set_option linter.unusedVariables false
set_option linter.unusedSimpArgs false
open Array renaming getElem?_append->yi,getElem?_eq_some_iff->bt,replicate->gW
open Bool renaming and_eq_true->c_
open Go.Deferred renaming ofValue->pN
open Go.Fence renaming wide->cE
open Go.Frame renaming enter->OV
open Go renaming undef->bp
open List renaming append_assoc->kK,getD_eq_getElem?_getD->ic,getElem?_append_left->bQ,getElem?_append_right->dX,getElem?_cons_succ->uN,getElem?_drop->tB,getElem?_eq_getElem->bS,getElem?_eq_none->pM,getElem?_eq_some_iff->aQ,getElem?_map->cO,getElem?_set_ne->gj,getElem?_set_self->jg,length_append->eQ,length_map->iB,mem_append->fA,mem_cons->eK,mem_cons_of_mem->dW,mem_cons_self->dI,mem_of_getElem?->ey,mem_singleton->oQ,nodup_nil->uK,singleton_append->XA
open Go.Machine renaming fenced->Ju
open Nat renaming add_sub_cancel_left->OJ,le_refl->aY,lt_or_ge->ft,not_le_of_lt->xW,not_lt_zero->dF,sub_zero->su,zero_add->fK,zero_le->bD
open Option renaming getD_some->e8,map_eq_some_iff->cv,map_some->eH
open Option.some renaming inj->iA,injEq->gE
open Go.Region renaming wanted->eh
open Go.StepsIn renaming trans->vU
open Go.Value renaming func->tv,ownBlock->je
open Go.World renaming alloc_heap_new->zK,putObj_heap_other->j7
section
namespace Go.Ab
open Go.RowKit
theorem an {a b:Prop}(x:a)(y:b):a/\b:=⟨x,y⟩
def US (ops:List Oper)(k m:Nat):Bool:=match ops[k]? with
 |some o=>o.after.toList.any λe=>Region.binds .any e&&e.on == m
 |none=>false
theorem anG {ops:List Oper}{L:Nat->Bool}(hC:oz ops.toArray L){k m:Nat}(hk:L k=true)(h:US ops k m=true):L m=true:=by
 unfold US at h;split at h
 ·rename_i o ho;obtain⟨e,he,h2⟩:=List.any_eq_true.1 h;simp only[c_,beq_iff_eq]at h2;rw[<-h2.2];exact hC k o (by simpa using ho) hk e (Array.mem_toList_iff.1 he) h2.1
 ·cases h
def pS (F V:Nat->Bool):fm->(Nat->D)->Nat->D
 |[],b,m=>b m
 |e::T,b,m=>bif m == e.2.1 then(bif F e.1 then e.2.2 V else pS F V T b m)else pS F V T b m
theorem lZ {F V:Nat->Bool}{b:Nat->D}{m:Nat}:pS F V [] b m=b m:=rfl
theorem l_ {F V:Nat->Bool}{T:fm}{b:Nat->D}{m k m':Nat}{v:(Nat->Bool)->D}:pS F V ((k,m',v)::T) b m=bif m == m' then(bif F k then v V else pS F V T b m)else pS F V T b m:=rfl
theorem yy {F V:Nat->Bool}{b:Nat->D}:∀{T T0:fm},T=T0->∀m,bq F V T b m=pS F V T0 b m:=by
 rintro T _ rfl m;induction T with
 |nil=>rfl
 |cons e T ih=>
  simp only[bq,pS];by_cases h:m=e.2.1
  ·subst h;cases hF:F e.1 with
   |true=>simp[put]
   |false=>simpa using ih
  ·have hb:(m == e.2.1)=false:=by simpa using h
   rw[hb];cases hF:F e.1 with
   |true=>simpa[put,h]using ih
   |false=>simpa using ih
theorem Gy {L:Nat->Bool}{k k' m:Nat}{v:(Nat->Bool)->D}{b:Nat->D}{T:fm}(hk:L k=false)(n1:(T.map (·.1)).Nodup)(n2:(T.map (·.2.1)).Nodup)(hf:(T.find? λe=>e.1 == k)=some (k',m,v))(hv:∀e∈T,e.2.2 (more L k)=e.2.2 L):
  bq (more L k) (more L k) T b=put (bq L L T b) m (v L):=by
 have h1:=List.mem_of_find?_eq_some hf;have h2:=List.find?_some hf;simp only[beq_iff_eq]at h2;subst h2;have h3:v (more L k')=v L:=hv _ h1;rw[Gw hk n1 n2 h1,Gv hv,h3]
theorem P5 {L:Nat->Bool}{k:Nat}{b:Nat->D}{T:fm}(hk:k∉T.map (·.1))(hv:∀e∈T,e.2.2 (more L k)=e.2.2 L):bq (more L k) (more L k) T b=bq L L T b:=by
 rw[CQ hk,Gv hv]
theorem Qs {p:Prop}(h:p:=by first|exact bX.of_eq rfl|exact⟨by assumption,bX.of_eq rfl⟩|exact⟨by omega,by omega,bX.of_eq rfl⟩|exact⟨by decide,bX.of_eq rfl⟩|exact⟨_,rfl,rfl,bX.of_eq rfl⟩|exact⟨afA (by omega) (by omega),bX.of_eq rfl⟩|(refine⟨?_, ?_⟩<;>first|exact bX.of_eq rfl|omega|rfl)):p:=h
theorem Vk {p:Prop}(h:p:=by
 first
  |rw[Gy hL pk pj (by rw[hT];rfl) (by rw[hT];simp[more])]
  |rw[P5 (by rw[cX];decide) (by rw[hT];simp[more])]
 try simp only[hX,jS,kr,ne_eq,Nat.reduceEqDiff,not_false_eq_true,cond_true,cond_false,List.cons_append,List.nil_append,List.append_nil]
 have hR:=yy (F:=L) (V:=L) (b:=b) hT;first
  |refine aP.of ?_
  |refine fS.qO rfl (aP.of ?_)
  |refine fS.on rfl rfl (by simp only[hX,hR,congrFun hb,l_,lZ,fN,gk,kO,put,Nat.reduceEqDiff,Nat.reduceBEq,cond_true,cond_false,if_true,if_false,reduceIte]) (aP.of ?_)
  |refine lH.Rw rfl (fS.qO rfl (aP.of ?_))
 simp -implicitDefEqProofs only[go_sem,j5,aU,Nat.reduceAdd,Nat.reduceSub,Nat.reduceMul,Nat.reduceLT,Nat.reduceLeDiff,Nat.reduceEqDiff,Nat.reduceBEq,Int.reduceLT,Int.reduceLE,Int.reduceToNat,Int.reduceAdd,Int.reduceSub,Int.reduceMul,Int.reduceNeg,Int.reduceEq,reduceCtorEq,eq_self,ne_eq,not_false_eq_true,if_true,if_false,reduceIte,hX,hR,congrFun hb,l_,lZ,fN,gk,kO,cond_true,cond_false];exact Qs):p:=h
end Go.Ab
end
section
namespace Go.Ab
open Go.RowKit
section
variable {P:Program} {f:FuncId} {Q:Exit->Act->World->Prop} {a:Act} {w:World}
def ym (f:FuncId)(P:Program)(code:Code)(Q:Exit->Act->World->Prop)(a:Act)(w:World):Prop:=
 ∀(b:Frame) (k:List Item) (cs:List Frame),b.roundOf=none->b.fn=f->∃e a' w',Q e a' w'/\ArrivesIn (Ju P cE) P (lone (b.atR a (.code code::k)) cs w) b k cs e a' w'
theorem E1 {fr:Frame}{cs:List Frame}{w:World}(ha:fr.about P w=none):(lone fr cs w).fenced P cE:=fenced_calm (n:=0) trivial (room_wide _) ha
theorem Ym {x y:Code}(h:x.wpIn cE 0 P (Exit.then (ym f P y Q) Q) a w):ym f P (.seq x y) Q a w:=by
 intro b k cs qe hb;have h0:(lone (b.atR a (.code (.seq x y)::k)) cs w).fenced P cE:=E1 rfl;obtain⟨e,a₁,w₁,hq,gg⟩:=h b (.code y::k) cs qe trivial (room_wide _);cases e with
 |normal=>obtain⟨e₂,a₂,w₂,yY,Bo⟩:=hq b k cs qe hb;exact⟨e₂,a₂,w₂,yY, .of_steps (.head h0 stepR_seq gg) Bo⟩
 |_=>exact⟨_,a₁,w₁,hq, .of_steps (.one h0 stepR_seq) (.pass (x:= .code y) rfl (λ_ _=> .inl aO) gg)⟩
theorem Yo {id:Nat}{x:Code}(h:ym f P x (λe a w=>(e= .normal\/∃ch,e= .panic ch)/\Q e a w) a w):ym f P (.block id x) Q a w:=by
 intro b k cs qe hb;have h0:(lone (b.atR a (.code (.block id x)::k)) cs w).fenced P cE:=E1 rfl;obtain⟨e,a₁,w₁,⟨he,hq⟩,gg⟩:=h b (.inBlock id::k) cs qe hb;rcases he with rfl|⟨ch,rfl⟩
 ·exact⟨.normal,a₁,w₁,hq, .head h0 stepR_block (vU gg (.one (E1 rfl) stepR_inBlock))⟩
 ·exact⟨.panic ch,a₁,w₁,hq, .of_steps (.one h0 stepR_block) gg⟩
theorem akC {fn:Func}{c:Code}{args:Array Value}{R:Ending->World->Prop}(hf:P.funcs[f]? =some fn)(hb:fn.body=some c)
  (h:ym f P c (bodyPostM cE 0 P fn R) {tmps:=args++gW (fn.ntmps - args.size) undef,defers:=[]} w):CallsIn cE 0 P f args w R:=by
 refine⟨trivial,λcs hr=> ?_⟩;obtain⟨b,og⟩:∃b:Frame,b={(default:Frame)with fn:=f,kind:= .normal,roundOf:=none}:=⟨_,rfl⟩;have lu:OV P f args .normal=b.atR {tmps:=args++gW (fn.ntmps - args.size) undef,defers:=[]} [.code c]:=by
  rw[og];simp[OV,Frame.atR,hf,hb]
 have r_:b.fn=f:=by rw[og]
 have ly:b.kind= .normal:=by rw[og]
 have lx:b.roundOf=none:=by rw[og]
 obtain⟨e,a',w',hq,gg⟩:=h b [] cs lx r_;rw[<-lu]at gg;have out:∀(u:FrameMode) (todo:List Item),StepsIn (Ju P cE) P (lone (OV P f args .normal) cs w) (lone {b.atR a' todo with mode:=u} cs w')->
   LeavesInM cE 0 P fn a'.tmps R a'.defers u w'->∃e uV fr,R e uV/\ComesIn (Ju P cE) P (lone (OV P f args .normal) cs w) (lone fr cs uV) e/\fr.fn=f/\fr.leaving P uV e:=λu todo hs hl=>by
  obtain⟨e',uV,Vb,hR,xa,q_,eN⟩:=leaves_stepsInM a'.defers u w' {b.atR a' todo with mode:=u} cs rfl rfl rfl (by show P.funcs[b.fn]? =_;rw[r_];exact hf) ly trivial hr hl;exact⟨e',uV,Vb,hR,ComesIn.of_steps hs xa,q_.trans r_,eN⟩
 cases e with
 |normal=>exact out .returning [] (vU gg (.one (E1 (fr:=b.atR a' []) rfl) (stepR_end lx))) hq
 |ret=>obtain⟨todo,hs⟩:=gg.1 lx;exact out .returning todo hs hq
 |panic chain=>obtain⟨todo,hs⟩:=gg;exact out _ todo hs hq
 |exit id=>exact hq.elim
 |goto l=>exact hq.elim
 |outgrown=>exact⟨.outgrown,w',b,hq,gg.resolve_left (by rw[ly];simp),r_,trivial⟩
def ab3 (P:Program)(fn:Func)(l:Nat)(R:Ending->World->Prop):Exit->Act->World->Prop
 | .normal,_,w=>∃v w',(Instr.endRound l none).run P w= .ok v w'/\R (.returned v) w'
 | .panic ch,a,w=>LeavesInM cE 0 P fn a.tmps (λe w'=>∃c',e= .panicked c'/\R e w') a.defers (.panicking ch) w
 |_,_,_=>False
theorem ab4 {l:Nat}{fn:Func}{tmps:Array Value}{assign body:Code}{R:Ending->World->Prop}(hf:P.funcs[f]? =some fn)
  (h:assign.wpIn (cE.inRound l) 0 P (Exit.then (λa₁ w₁=>∃w₂,(Instr.beginRound l).run P w₁= .ok () w₂/\body.wpIn (cE.inRound l) 0 P (ab3 P fn l R) a₁ w₂) (λ_ _ _=>False)) {tmps:=tmps,defers:=[]} w):
  RoundIn cE 0 P l f tmps assign body w R:=by
 refine⟨trivial,λc cs hr=> ?_⟩;obtain⟨b,og⟩:∃b:Frame,b={(default:Frame)with fn:=f,kind:= .normal,roundOf:=some l}:=⟨_,rfl⟩;have iH:Frame.round l f tmps assign body .normal=b.atR {tmps:=tmps,defers:=[]} [.code assign, .beginRound, .code body]:=by rw[og];simp[Frame.round,Frame.atR]
 have r_:b.fn=f:=by rw[og]
 have ly:b.kind= .normal:=by rw[og]
 have lx:b.roundOf=some l:=by rw[og]
 have cW:(cE.inRound l).room ((c::cs).length + 1 + 0):=hr;obtain⟨e,a₁,w₁,hq,gg⟩:=h b [.beginRound, .code body] (c::cs) lx trivial cW;rw[<-iH]at gg;cases e with
 |normal=>
  obtain⟨w₂,UO,Mw⟩:=hq;have s1:StepsIn (Ju P (cE.inRound l)) P (lone (b.atR a₁ [.beginRound, .code body]) (c::cs) w₁) (lone (b.atR a₁ [.code body]) (c::cs) w₂):=
   .one (fenced_calm (n:=0) (fr:=b.atR a₁ [.beginRound, .code body]) trivial cW rfl) (stepR_beginRound lx UO)
  obtain⟨e₂,a₂,w₃,yY,Bo⟩:=Mw b [] (c::cs) lx trivial cW;cases e₂ with
  |normal=>
   obtain⟨v,w₄,vz,hR⟩:=yY;exact⟨.returned v,w₄,hR,(vU gg s1).trans (vU Bo (.one (fenced_calm (n:=0) (fr:=b.atR a₂ []) trivial cW rfl) (stepR_round_end lx ly vz)))⟩
  |panic chain=>
   obtain⟨todo,afT⟩:=Bo;obtain⟨e',w',Vb,⟨c',rfl,hR⟩,hs,q_,hl⟩:=leaves_stepsInM (F:=cE) a₂.defers (.panicking chain) w₃ {b.atR a₂ todo with mode:= .panicking chain} (c::cs) rfl rfl rfl (by show P.funcs[b.fn]? =_;rw[r_];exact hf) ly trivial cW yY;exact⟨.panicked c',w',hR,((vU gg s1).trans (vU afT hs)).trans (.one (fenced_leaving (n:=0) (F:=cE) trivial cW hl) (step_leave_panicked hl))⟩
  |_=>exact yY.elim
 |_=>exact hq.elim
end
def I4 (P:Program)(l:Nat)(xs:List (List D))(pc:List PanicEntry->Prop)(J Jx:Nat->Inv):Prop:=
 ∀k T S M W (args:List Value) x,xs[k]? =some x->J k T S M W->args.length=x.length->(∀q d,x[q]? =some d->Rel W ⟨S,[],[],M⟩ (args.getD q bp) d)->
  YieldAt cE 0 P l args.toArray W λe W'=>∃S' M',wg T S M W S' M' W'/\((e= .returned (.bool true)/\J (k + 1) T S' M' W')\/(∃ch,e= .panicked ch/\pc ch/\Jx (k + 1) T S' M' W'))
def ON (P:Program)(pc:List PanicEntry->Prop)(gf:FuncId)(cs:List D)(xs:List (List D)):Prop:=
 (∀(args:Array Value) (w:World),(callFunc gf args).run P w= .ok (.enter gf args) w)/\
 ∀(S:Addr->Prop) (M:MM) (w:World) (lb:List Value),lG w->Good w S->jf w M->lb.length=cs.length->(∀q x,cs[q]? =some x->Rel w ⟨S,[],[],M⟩ (lb.getD q bp) x)->
  ∀(l:Nat) (J Jx:Nat->Inv),(∀k,Abides (J k))->(∀k,Abides (Jx k))->I4 P l xs pc J Jx->J 0 (λ_=>False) S M w->
   Calls P gf (tv (.yield l) #[] #[]::lb).toArray w λe w'=>∃T S' M',((∃v,e= .returned v)/\J xs.length T S' M' w')\/(∃ch k,e= .panicked ch/\pc ch/\Jx k T S' M' w')
theorem afD {c:IC}{xs:List (List D)}{pc:List PanicEntry->Prop}(hY:I4 c.P c.l xs pc c.J c.Jx){Q:Exit->Ix->St->Prop}{s:St}{k id:Nat}{l1 l2:List Oper}{fx:Operand}{ys:Array Operand}{dst:Option Tmp}{at_:Array TypeId}{ty:TypeId}{pos:String}{aft:Array Edge}{gd:Option (Nat×Bool)}
  (h:∀K1:St->Prop,(∀s1 d,s1.ev fx= .val (.func (.yield c.l) #[] #[])->gm s1.bx s1.rw (ys.toList.map s1.ev)=some d->xs[k]? =some d->bd s1 dst->(∀(j:Nat) (b:Bool),gd=some (j,b)->∃t,iu (l1++⟨dst, .call ⟨.value fx,ys,at_⟩,ty,pos,aft,gd⟩::l2) j=some t/\s1.sl t= .bool b)->
    (∀ch,pc ch->Q (.panic ch) (false,k + 1) s1)->
    bZ c.P (l1++⟨dst, .call ⟨.value fx,ys,at_⟩,ty,pos,aft,gd⟩::l2) l2 (s1.put dst (.bool true)) (λs2=>Q .normal (true,k + 1) s2)->K1 s1)->
   bZ c.P (l1++⟨dst, .call ⟨.value fx,ys,at_⟩,ty,pos,aft,gd⟩::l2) l1 s K1):
  IA c (.region id (l1++⟨dst, .call ⟨.value fx,ys,at_⟩,ty,pos,aft,gd⟩::l2).toArray false) Q (true,k) s:=by
 intro aW a w T S M hJ ⟨lt,g,e1,e2,hg⟩;obtain⟨y,hy⟩:∃y:Oper,y=⟨dst, .call ⟨.value fx,ys,at_⟩,ty,pos,aft,gd⟩:=⟨_,rfl⟩;rw[<-hy]at h⊢;refine wpIn_region_lit ?_;have sZ:=h (λs1=>∃d,s1.ev fx= .val (.func (.yield c.l) #[] #[])/\gm s1.bx s1.rw (ys.toList.map s1.ev)=some d/\xs[k]? =some d/\bd s1 dst/\(∀(j:Nat) (b:Bool),gd=some (j,b)->∃t,iu (l1++y::l2) j=some t/\s1.sl t= .bool b)/\
   (∀ch,pc ch->Q (.panic ch) (false,k + 1) s1)/\bZ c.P (l1++y::l2) l2 (s1.put dst (.bool true)) (λs2=>Q .normal (true,k + 1) s2)) (λs1 d h1 h2 h3 h4 cP hp h6=>⟨d,h1,h2,h3,h4,cP,hp,h6⟩)
 refine qv (c:=⟨c.P,w,S,M,none,λb=>T b\/w.heap.size<=b,[]⟩) (λs1 a1 w1 fO cX=> ?_) l1 s a w ⟨g,hg⟩ sZ;obtain⟨g1,aK⟩:=fO;obtain⟨d,h1,h2,h3,h4,cP,agb,h6⟩:=cX;obtain⟨T1,hi,hr⟩:=IR.next lt aK;have EG:=aW.ab (true,k) _ _ _ _ _ _ _ _ hJ hi;have ql:=aK.ev fx;rw[h1]at ql;generalize hv:a1.eval fx=vf at ql;cases ql;obtain⟨q1,q2⟩:=u9 h2;obtain⟨fn,tmps,assign,body,aV,DU⟩:=hY k T1 g1.S g1.M w1 (ys.toList.map a1.eval) d h3 EG (by rw[q1];simp) (λq dd hq=>by
  obtain⟨z,hz,hp⟩:=q2 q dd hq;simp only[cO,cv]at hz;obtain⟨u,hu,rfl⟩:=hz;rw[ic];simp only[cO,hu,eH,e8];exact rI aK (aK.ev u) hp)
 show wpListIn cE 0 c.P _ _ (y::l2) a1 w1;unfold wpListIn;have LU:eh y (Go.yielded (l1++y::l2).toArray a1.tmps)=true:=by
  have Eg:y.guard=gd:=by rw[hy]
  cases gd with
  |none=>simp[eh,Eg]
  |some q=>
   obtain⟨j,b⟩:=q;obtain⟨t,ht,hb⟩:=cP j b rfl;have LL:=R.yielded (ops:=(l1++y::l2).toArray) aK (by simpa using ht) hb;simp[eh,Eg,LL]
 rw[if_pos LU];refine⟨λ_ _=>trivial, ?_⟩;have yW:(y.semAt cE.round a1.eval).run c.P w1= .ok (.round c.l fn tmps assign body) w1:=by
  rw[Oper.semAt_eq _ _ _ (by rw[hy];intro cl h;cases h),hy];simp[execOp,resolve,hv,pN,invoke,aV];rw[<-Array.toList_map,Array.toArray_toList]at aV;simp[aV]
 rw[yW,Oper.uponIn_round];refine⟨λh=>(by cases h),DU.mono ?_⟩;rintro e w2 ⟨S2,M2,hf,iY⟩;have cV:=hr.round hf;rcases iY with⟨rfl,kx⟩|⟨ch,rfl,iG,kx⟩
 ·obtain⟨Dt,g2,f1,f2,fk⟩:=cV;have jo:RG ⟨c.P,w2,S2,M2,none,λb=>T1 b\/w2.heap.size<=b,[]⟩ (s1.put dst (.bool true)) (a1.put dst (.bool true)) w2 g2:=fk.put h4 (.bool _ _);have lO:y.dst=dst:=by rw[hy]
  show wpListIn cE 0 c.P _ _ l2 (a1.put y.dst (.bool true)) w2;rw[lO];refine qu (c:=⟨c.P,w2,S2,M2,none,λb=>T1 b\/w2.heap.size<=b,[]⟩) (K:=λs2=>Q .normal (true,k + 1) s2) (λs3 a3 w3 jV nf=> ?_) l2 _ _ _ ⟨g2,jo⟩ h6;obtain⟨g3,de⟩:=jV;obtain⟨T3,xl,DV⟩:=IR.next Dt de;exact⟨(true,k + 1),s3,T3,_,_,aW.ab (true,k + 1) _ _ _ _ _ _ _ _ kx xl,DV,nf⟩
 ·exact⟨(false,k + 1),s1,T1,S2,M2,kx,cV,agb ch iG⟩
theorem afC {c:IC}{xs:List (List D)}{pc:List PanicEntry->Prop}(hY:I4 c.P c.l xs pc c.J c.Jx){Q:Exit->Ix->St->Prop}{s:St}{k id:Nat}{l:List Oper}(n:Nat){fx:Operand}{ys:Array Operand}{dst:Option Tmp}{at_:Array TypeId}{ty:TypeId}{pos:String}{aft:Array Edge}{gd:Option (Nat×Bool)}
  (hl:l=l.take n++⟨dst, .call ⟨.value fx,ys,at_⟩,ty,pos,aft,gd⟩::l.drop (n + 1))
  (h:∀K1:St->Prop,(∀s1 d,s1.ev fx= .val (.func (.yield c.l) #[] #[])->gm s1.bx s1.rw (ys.toList.map s1.ev)=some d->xs[k]? =some d->bd s1 dst->(∀(j:Nat) (b:Bool),gd=some (j,b)->∃t,iu l j=some t/\s1.sl t= .bool b)->
    (∀ch,pc ch->Q (.panic ch) (false,k + 1) s1)->
    bZ c.P l (l.drop (n + 1)) (s1.put dst (.bool true)) (λs2=>Q .normal (true,k + 1) s2)->K1 s1)->
   bZ c.P l (l.take n) s K1):
  IA c (.region id l.toArray false) Q (true,k) s:=by
 have h2:=afD (c:=c) hY (Q:=Q) (s:=s) (k:=k) (id:=id) (l1:=l.take n) (l2:=l.drop (n + 1)) (fx:=fx) (ys:=ys) (dst:=dst) (at_:=at_) (ty:=ty) (pos:=pos) (aft:=aft) (gd:=gd);rw[<-hl]at h2;exact h2 h
def QE (n:Nat)(rs:Array ResultVar)(pc:List PanicEntry->Prop):Exit->Ix->St->Prop
 | .normal,i,_=>i=(true,n)/\rs=#[]
 | .ret,i,_=>i=(true,n)/\rs=#[]
 | .panic ch,i,_=>i.1=false/\pc ch
 |_,_,_=>False
theorem afq {P:Program}{pc:List PanicEntry->Prop}{f:FuncId}{fn:Func}{code:Code}{cs:List D}{xs:List (List D)}{n:Nat}{rs:Array ResultVar}(hf:P.funcs[f]? =some fn)(hn:fn.ntmps=n)(hr:fn.results=rs)
  (hc:∀(args:Array Value) (w:World),(callFunc f args).run P w= .ok (.enter f args) w)(hb:fn.body=some code)(hl:cs.length + 1<=n)
  (h:∀(l:Nat) (J Jx:Nat->Inv),I4 P l xs pc J Jx->IA ⟨P,l,[],J,Jx⟩ code (QE xs.length rs pc) (true,0) ⟨n,kQ 0 (.val (.func (.yield l) #[] #[])::cs),[],[]⟩):ON P pc f cs xs:=by
 subst hn;subst hr
 refine⟨hc,λS M w lb zp hS hM qZ bw l J Jx ML MK hY MN=> ?_⟩;refine(callsIn_wide (n:=0)).1 (callsIn_of_wp_marks hf hb trivial ?_);have aW:IC.Ok ⟨P,l,[],J,Jx⟩:=⟨λi=>by obtain⟨b,k⟩:=i;cases b;exact MK k;exact ML k,λk T S M W args x hx=>by simp at hx⟩
 let args:Array Value:=(tv (.yield l) #[] #[]::lb).toArray
 have hw:=h l J Jx hY aW {tmps:=args++gW (fn.ntmps - args.size) undef,defers:=[]} w (λ_=>False) S M MN
  ⟨λb h=>h.elim,⟨S,[],[],M⟩,rfl,rfl,⟨⟨⟨uK,λd hd=>by cases hd⟩,hM,λ_ _ h=>h,λ_ _ h=> .inl h,λi b h=>by simp at h,λ_ _=>rfl,⟨zp,λb vs hv hm=>hm.elim (λhm=>hm.elim (λh=>h.elim) (λhl=>absurd (zp.lt b vs hv) (Nat.not_lt.2 hl))) (λhm=>hm (zp.tY hM b vs hv))⟩⟩,by simp[args];omega, .of (Below.refl _ _),λ_ h=> .inr h,hS,λ_ h=> .inl h,λ_ h=>h,hS,rfl,rfl,λm=> ?_,λi cs hi=>by simp at hi,λi cs hi=>by simp at hi,λi cs hi=>by simp at hi,⟨λ_=> .inl 0,λi x b hi=>by simp at hi,λr row v gb hr=>by simp at hr⟩,λi es hi=>by simp at hi⟩⟩
 ·refine wpIn_mono (F:=cE) hw ?_;rintro e a' w' ⟨i',s',T',S',M',iT,⟨lt,g,rfl,rfl,hg⟩,hq⟩;have step:∀{a2:Act} {w2:World},RG ⟨P,w',g.S,g.M,none,λb=>T' b\/w'.heap.size<=b,[]⟩ s' a2 w2 g->∃vS,JX J Jx i' vS g.S g.M w2:=λhr=>by
   obtain⟨vS,jW,_⟩:=IR.next lt hr;exact⟨vS,aW.ab i' _ _ _ _ _ _ _ _ iT jW⟩
  have fin:i'=(true,xs.length)->fn.results=#[]->LeavesInM cE 0 P fn a'.tmps (λe w'=>∃T S' M',((∃v,e= .returned v)/\J xs.length T S' M' w')\/(∃ch k,e= .panicked ch/\pc ch/\Jx k T S' M' w')) a'.defers .returning w':=λhi iY=>by
   refine AL (c:=⟨P,w',g.S,g.M,none,λb=>T' b\/w'.heap.size<=b,[]⟩) (s:=s') (g:=g) (ds:=[]) a'.defers a' w' hg rfl (by rw[iY];rfl) (λv uV hr _=> ?_);obtain⟨vS,kx⟩:=step hr;subst hi;exact⟨vS,g.S,g.M, .inl ⟨⟨v,rfl⟩,kx⟩⟩
  cases e with
  |normal=>exact fin hq.1 hq.2
  |ret=>exact fin hq.1 hq.2
  |panic ch=>
   refine yK (c:=⟨P,w',g.S,g.M,none,λb=>T' b\/w'.heap.size<=b,[]⟩) (s:=s') (g:=g) (a0:=a') a'.defers a' w' hg rfl (λw2 h2 _=> ?_);obtain⟨vS,kx⟩:=step h2;obtain⟨b,k⟩:=i';have hb:b=false:=hq.1;subst hb;exact⟨vS,g.S,g.M, .inr ⟨ch,k,rfl,hq.2,kx⟩⟩
  |exit id=>exact hq.elim
  |goto t=>exact hq.elim
  |outgrown=>exact hq.elim
 ·simp only;rw[tU];simp only[dF,if_false,su];have e:(args++gW (fn.ntmps - args.size) undef).getD m undef=(tv (.yield l) #[] #[]::lb).getD m undef:=by
   simp only[args,Array.getD_eq_getD_getElem?,ic];rw[yi];split
   ·simp
   ·rename_i hm;rw[pM (by simpa using hm)];simp[Array.getElem?_replicate];split<;>rfl
  rw[e];cases m with
  |zero=>exact .val _ _
  |succ m=>
   simp only[uN,List.getD_cons_succ];cases hd:cs[m]? with
   |none=>exact .undef _ _
   |some x=>exact bw m x hd
def wk (P:Program)(f:FuncId)(ds:List D)(bx:List Bx)(rw:List Row)(K:D->List Bx->List Row->Prop)(Kp:List PanicEntry->List Bx->List Row->Prop):Prop:=
 (∀(args:Array Value) (w:World),(callFunc f args).run P w= .ok (.enter f args) w)/\
 ∀(c:Ctx) (st:St) (a:Act) (W:World) (g:Gh) (args:List Value),c.P=P->RG c st a W g->st.bx=bx->st.rw=rw->args.length=ds.length->(∀q x,ds[q]? =some x->Rel W g (args.getD q bp) x)->
  Calls P f args.toArray W λe W'=>(∃v d s2 a2 g2,e= .returned v/\RG (inner c W g) s2 a2 W' g2/\Rel W' g2 v d/\K d s2.bx s2.rw)\/(∃ch s2 a2 g2,e= .panicked ch/\RG (inner c W g) s2 a2 W' g2/\Kp ch s2.bx s2.rw)
theorem wk.mono {P:Program}{f:FuncId}{ds:List D}{bx:List Bx}{rw:List Row}{K K':D->List Bx->List Row->Prop}{Kp XE:List PanicEntry->List Bx->List Row->Prop}(h:wk P f ds bx rw K Kp)(hk:∀d aB aD,K d aB aD->K' d aB aD)(hp:∀ch aB aD,Kp ch aB aD->XE ch aB aD):wk P f ds bx rw K' XE:=by
 refine⟨h.1,λc st a W g args hP hg hb hr hl bw=>(h.2 c st a W g args hP hg hb hr hl bw).mono ?_⟩;rintro e w' (⟨v,d,s2,a2,g2,h1,h2,h3,h4⟩|⟨ch,s2,a2,g2,h1,h2,h3⟩)
 ·exact .inl ⟨v,d,s2,a2,g2,h1,h2,h3,hk _ _ _ h4⟩
 ·exact .inr ⟨ch,s2,a2,g2,h1,h2,hp _ _ _ h3⟩
def QF (P:Program)(rs:Array ResultVar)(K:D->List Bx->List Row->Prop)(Kp:List PanicEntry->List Bx->List Row->Prop):Exit->St->Prop
 | .panic ch,s=>Kp ch s.bx s.rw
 |e,s=>cC P rs K e s
def yj (f:FuncId)(c:Ctx)(code:Code)(Q:Exit->St->Prop)(s:St):Prop:=
 ∀a w,R c s a w->ym f c.P code (λe a' w'=>∃s',R c s' a' w'/\Q e s') a w
section
variable {c:Ctx} {s:St} {f:FuncId} {Q:Exit->St->Prop}
theorem YD (hc:c.l=none):c.F=cE:=by unfold Ctx.F;rw[hc];rfl
theorem Od {x y:Code}(hc:c.l=none)(h:av c x (bH (yj f c y Q) Q) s):yj f c (.seq x y) Q s:=by
 intro a w hr;have h1:=h a w hr;rw[YD hc]at h1;refine Ym (wpIn_mono h1 ?_);rintro e a' w' ⟨s',cW,hq⟩;cases e with
 |normal=>exact hq a' w' cW
 |_=>exact⟨s',cW,hq⟩
theorem aly {id:Nat}{x:Code}(h:yj f c x (λe s=>(e= .normal\/∃ch,e= .panic ch)/\Q e s) s):yj f c (.block id x) Q s:=by
 intro a w hr;refine Yo (λb k cs h1 h2=> ?_);obtain⟨e,a',w',⟨s',cW,he,hq⟩,gg⟩:=h a w hr b k cs h1 h2;exact⟨e,a',w',⟨he,s',cW,hq⟩,gg⟩
end
theorem akG {P:Program}{f:FuncId}{fn:Func}{code:Code}{ds:List D}{bx:List Bx}{rw:List Row}{K:D->List Bx->List Row->Prop}{Kp:List PanicEntry->List Bx->List Row->Prop}{n:Nat}{rs:Array ResultVar}(hf:P.funcs[f]? =some fn)(hn:fn.ntmps=n)(hr:fn.results=rs)
  (hc:∀(args:Array Value) (w:World),(callFunc f args).run P w= .ok (.enter f args) w)(hb:fn.body=some code)(hl:ds.length<=n)
  (h:∀(w0:World) (S0:Addr->Prop) (M0:MM) (own:Nat->Prop) (β:List Nat),β.length=bx.length->yj f ⟨P,w0,S0,M0,none,own,β⟩ code (QF P rs K Kp) ⟨n,kQ 0 ds,bx,rw⟩):wk P f ds bx rw K Kp:=by
 subst hn;subst hr
 refine⟨hc,λc st a W g args hP hg fQ ml eN bw=> ?_⟩;subst hP;subst fQ;subst ml
 refine(callsIn_wide (n:=0)).1 (akC hf hb ?_);have lu:RG (inner c W g) ⟨fn.ntmps,kQ 0 ds,st.bx,st.rw⟩ {tmps:=args.toArray++gW (fn.ntmps - args.toArray.size) undef,defers:=[]} W g:=hg.zz rfl (by simp;omega) (λm=>by
  simp only;rw[tU];simp only[dF,if_false,su];cases hd:ds[m]? with
  |none=>exact .undef _ _
  |some x=>
   have hm:=(aQ.1 hd).1;have:=bw m x hd;have e:(args.toArray++gW (fn.ntmps - args.toArray.size) undef).getD m undef=args.getD m undef:=by
    have:m < args.length:=ae;simp[yi,this]
   rw[e];exact this)
 intro b k cs h1 h2;obtain⟨e,a',w',⟨s',⟨g',gQ⟩,hq⟩,gg⟩:=h W g.S g.M _ g.β hg.lβ _ W ⟨g,lu⟩ b k cs h1 h2;refine⟨e,a',w', ?_,gg⟩;have af3:cC (inner c W g).P fn.results K e s'->bodyPostM cE 0 c.P fn (λe W'=>(∃v d s2 a2 g2,e= .returned v/\RG (inner c W g) s2 a2 W' g2/\Rel W' g2 v d/\K d s2.bx s2.rw)\/(∃ch s2 a2 g2,e= .panicked ch/\RG (inner c W g) s2 a2 W' g2/\Kp ch s2.bx s2.rw)) e a' w':=λhq=>
  Ky (c:=inner c W g) gQ hq (λv w2 d h2 hv hk=> .inl ⟨v,d,s',_,g',rfl,h2,hv,hk⟩)
 cases e with
 |panic ch=>exact yK (c:=inner c W g) (s:=s') (g:=g') (a0:=a') a'.defers a' w' gQ rfl (λw2 h2 _=> .inr ⟨ch,s',_,g',rfl,h2,hq⟩)
 |_=>exact af3 hq
def N6 (c:Ctx)(Q:Exit->St->Prop)(N:St->Prop)(fx:Operand)(xs:List Operand)(dst:Option Tmp)(s1:St):Prop:=
 bd s1 dst/\lW (s1.ev fx) λf fs cs=>∃ds,xN s1.bx s1.rw (fs++xs.map s1.ev++cs) ds/\
  wk c.P f ds s1.bx s1.rw (λd aB aD=>N (St.put ⟨s1.n,j4 s1.bx.length s1.sl,aB,aD⟩ dst d)) (λch aB aD=>Q (.panic ch) ⟨s1.n,j4 s1.bx.length s1.sl,aB,aD⟩)
section
variable {c:Ctx} {s:St}
theorem akI {Q:Exit->St->Prop}{N:St->Prop}{y:Oper}{fx:Operand}{xs:Array Operand}{dst:Option Tmp}{at_:Array TypeId}{ty:TypeId}{pos:String}{aft:Array Edge}{s1:St}{a1:Act}{w1:World}{N':Act->World->Prop}
  (hy:y=⟨dst, .call ⟨.value fx,xs,at_⟩,ty,pos,aft,none⟩)(hr:R c s1 a1 w1)(hk:N6 c Q N fx xs.toList dst s1)(hN:∀s a w,R c s a w->N s->N' a w):y.wpIn c.F 0 c.P a1 w1 N' (λe a' w'=>∃s',R c s' a' w'/\Q e s'):=by
 obtain⟨hd,hk⟩:=hk;obtain⟨g1,aK⟩:=hr;obtain⟨f,fs,cs,⟨vf⟩,⟨vs⟩,⟨ds,hp,hC⟩,hv,xg,hl,yX,hr⟩:=CC (aK.ev fx) hk;have um:vf.length=fs.length:=by simpa using xg
 have lR:vs.length=cs.length:=by simpa using hl
 have aV:(execOp a1.eval y).run c.P w1= .ok (.enter f (vf++xs.toList.map a1.eval++vs).toArray) w1:=by
  simp[execOp,hy,resolve,hv,pN,invoke];rw[hC.1];simp
 obtain⟨e1,e2⟩:=IS aK (vs:=vf++xs.toList.map a1.eval++vs) hp (by simp[um,lR]) (λq y hy=>by
  rw[ic];rw[kK]at hy⊢;rcases ft q fs.length with hq|hq
  ·rw[bQ hq]at hy;rw[bQ ae];have:=yX q y hy;simpa using this
  rw[dX hq]at hy;rw[dX ae,um];rcases ft (q - fs.length) (xs.toList.map s1.ev).length with hq|hq
  ·rw[bQ hq]at hy;simp only[cO,cv]at hy;obtain⟨z,hz,rfl⟩:=hy;rw[bQ (by simpa using hq)];simp only[cO,hz,eH,e8];exact aK.ev z
  ·rw[dX hq]at hy;have:=hr _ y hy;rw[dX (by simpa using hq)];simpa using this)
 have fk:RG c ⟨s1.n,j4 s1.bx.length s1.sl,s1.bx,s1.rw⟩ a1 w1 g1:=⟨aK.df,aK.sz,aK.below,aK.cu,aK.ba,aK.en,aK.S0,aK.fJ,aK.lβ,aK.lρ,λm=>Iu (aK.sl m),aK.bx,aK.fz,aK.rw,aK.ap,aK.mp⟩;have bf:=hC.2 c _ a1 w1 g1 (vf++xs.toList.map a1.eval++vs) rfl fk rfl rfl (by simp only[eQ,iB]at e1⊢;omega) e2;refine gK (by rw[hy];intro cl h;cases h) ?_;unfold Oper.wp;rw[aV];refine bf.mono ?_;rintro e w' (⟨v,d,s2,a2,g2,rfl,h2,bw,lp⟩|⟨ch,s2,a2,g2,rfl,h2,lp⟩)
 ·have hb:=fk.yL h2 (λm=>EP _ _);have lO:y.dst=dst:=by rw[hy]
  show N' (a1.put y.dst v) w';rw[lO];exact hN _ _ _ ⟨_,hb.put hd bw⟩ lp
 ·exact⟨_,⟨_,fk.yL h2 (λm=>EP _ _)⟩,lp⟩
theorem Xb {Q:Exit->St->Prop}{id:Nat}{l:List Oper}(n:Nat){fx:Operand}{xs:Array Operand}{dst:Option Tmp}{at_:Array TypeId}{ty:TypeId}{pos:String}{aft:Array Edge}
  (hl:l=l.take n++⟨dst, .call ⟨.value fx,xs,at_⟩,ty,pos,aft,none⟩::l.drop (n + 1))
  (h:∀K1:St->Prop,(∀s1,N6 c Q (λs2=>bZ c.P l (l.drop (n + 1)) s2 (λs2=>Q .normal s2)) fx xs.toList dst s1->K1 s1)->bZ c.P l (l.take n) s K1):
  av c (.region id l.toArray false) Q s:=by
 intro a w hr;refine wpIn_region_lit ?_;rw[hl];rw[hl]at h;have kU:(l.take n++(⟨dst, .call ⟨.value fx,xs,at_⟩,ty,pos,aft,none⟩:Oper)::l.drop (n + 1)).take n=l.take n:=by rw[<-hl]
 have eN:(l.take n++(⟨dst, .call ⟨.value fx,xs,at_⟩,ty,pos,aft,none⟩:Oper)::l.drop (n + 1)).drop (n + 1)=l.drop (n + 1):=by rw[<-hl]
 rw[kU,eN]at h;generalize l.take n=l1 at *;generalize l.drop (n + 1)=l2 at *;obtain⟨y,hy⟩:∃y:Oper,y=⟨dst, .call ⟨.value fx,xs,at_⟩,ty,pos,aft,none⟩:=⟨_,rfl⟩;rw[<-hy]at h⊢;refine qv (c:=c) (λs1 a1 w1 fO cX=> ?_) l1 s a w hr (h _ (λs1 h1=>h1));show wpListIn c.F 0 c.P _ _ (y::l2) a1 w1;unfold wpListIn;rw[if_pos (by rw[hy];simp[eh])];exact akI (c:=c) hy fO cX (λs3 a3 w3 jV nf=>qu (c:=c) (K:=λs2=>Q .normal s2) (λs4 a4 w4 lP qi=>⟨s4,lP,qi⟩) l2 _ _ _ jV nf)
end
theorem QX {w:World}{L:Nat}{o:Obj}(h:w.heap[L]? =some o):w.putObj L o=w:=by
 have h1:=(bt.1 h);have:w.heap.setIfInBounds L o=w.heap:=by
  refine Array.ext_getElem? λi=> ?_;rw[Array.getElem?_setIfInBounds];split
  ·rename_i e;subst e;rw[if_pos h1.1,h]
  ·rfl
 unfold World.putObj;rw[this]
def ac1 (P:Program)(l:Nat)(Q:Exit->Act->World->Prop)(a':Act):Ending->World->Prop
 | .returned _,w=>∃w',(Instr.endLoop l).run P w= .ok none w'/\Q .normal a' w'
 | .panicked ch,w=>Q (.panic ch) a' w
 | .outgrown,_=>False
theorem Yn {P:Program}{f:FuncId}{gx:Operand}{ps:Array Tmp}{assign body:Code}{Q:Exit->Act->World->Prop}{a:Act}{w:World}{l:Nat}{mark:List Deferred}{w₁ JS w₂:World}{d:Deferred}{f':FuncId}{args:Array Value}
  (he:(Instr.enterLoop f a.tmps ps assign body none).run P w= .ok (l,mark) w₁)(iY:(resolve a.eval (rangeCall gx l) 0).run P w₁= .ok d JS)(hinv:(invoke d.target d.args).run P JS= .ok (.enter f' args) w₂)
  (ta:Calls P f' args w₂ (ac1 P l Q {a with defers:=mark++a.defers})):ym f P (.rangeFunc gx ps assign body) Q a w:=by
 intro b k cs qe hb;have h0:(lone (b.atR a (.code (.rangeFunc gx ps assign body)::k)) cs w).fenced P cE:=fenced_lone (.inl trivial) (λ_ _=>trivial) (room_wide _);have Ux:=stepR_rangeFunc (P:=P) (b:=b) (a:=a) (k:=k) (cs:=cs) (w:=w) (by rw[hb,qe];exact he) iY hinv;obtain⟨e,w₃,fr,hR,Tq,q_,HK⟩:=((callsIn_wide (n:=0)).2 ta).2 (b.atR {a with defers:=mark++a.defers} (.inRangeFunc l::k)::cs) (room_wide _);cases e with
 |outgrown=>exact hR.elim
 |returned v=>
  have hl:(lone fr (b.atR {a with defers:=mark++a.defers} (.inRangeFunc l::k)::cs) w₃).fenced P cE:=fenced_leaving (n:=0) trivial (room_wide _) HK;obtain⟨w₄,vz,hq⟩:=hR;refine⟨.normal,_,w₄,hq, .head h0 Ux (vU Tq (.head hl ?_ (.one (E1 (fr:=b.atR {a with defers:=mark++a.defers} (.endRangeFunc l::k)) rfl) (stepR_endRangeFunc vz))))⟩;rw[<-finish_atR_inRangeFunc l v];exact step_leave_returned HK
 |panicked chain=>
  have hl:(lone fr (b.atR {a with defers:=mark++a.defers} (.inRangeFunc l::k)::cs) w₃).fenced P cE:=fenced_leaving (n:=0) trivial (room_wide _) HK;refine⟨.panic chain,_,w₃,hR, .inRangeFunc l::k, .head h0 Ux (vU Tq (.one hl ?_))⟩;rw[<-Frame.raise_atR];exact step_leave_panicked HK
def Qx (o:Prop)(n nb:Nat)(dq:Nat->D)(aB:List Bx)(aD:List Row)(pc:List PanicEntry->Prop)(Q:Exit->St->Prop):Exit->St->Prop
 | .normal,s'=>o/\Le s' ⟨n,dJ,aB,aD⟩
 | .panic ch,s'=>pc ch/\∃eo eL,eo.length=nb/\(⟨n,dJ,eo,eL⟩:St).named/\Le s' ⟨n,dJ,eo,eL⟩/\∀ch,pc ch->Q (.panic ch) ⟨n,dq,eo,eL⟩
 |_,_=>False
section
variable {P:Program} {w0:World} {S0:Addr->Prop} {M0:MM} {own:Nat->Prop} {β0:List Nat}
theorem alx {f:FuncId}{fn:Func}(hf:P.funcs[f]? =some fn){pc:List PanicEntry->Prop}{gx:Operand}{ps:Array Tmp}{assign body:Code}{Q:Exit->St->Prop}{s:St}{gf:FuncId}{cs cm:List D}{xs:List (List D)}
  (hg:s.ev gx= .ag gf cs)(hp:gm s.bx s.rw cs=some cm)(hI:ON P pc gf cm xs)(fV:∀x∈xs,x.length=ps.size)(mn:∀p∈ps.toList,p < s.n)
  (dq:Nat->D)(bx:Nat->List Bx)(rw:Nat->List Row)(nb:Nat)(ok:Nat->Prop)(ok0:ok 0)(hle:Le s ⟨s.n,dq,bx 0,rw 0⟩)(ed:∀m,Names nb 0 (dq m))
  (iZ:∀k,k<=xs.length->(bx k).length=nb)(dD:∀k,k<=xs.length->(⟨s.n,dJ,bx k,rw k⟩:St).named)(hβ:β0.length<=nb)
  (round:∀(k:Nat) (x:List D),xs[k]? =some x->ok k->∀(w1:World) (S1:Addr->Prop) (M1:MM) (l:Nat) (o1:Nat->Prop) (b1:List Nat),b1.length=nb->
   av ⟨P,w1,S1,M1,some l,o1,b1⟩ assign (bH (λs'=>∀(w2:World) (S2:Addr->Prop) (M2:MM) (o2:Nat->Prop),av ⟨P,w2,S2,M2,some l,o2,b1⟩ body (Qx (ok (k + 1)) s.n nb dq (bx (k + 1)) (rw (k + 1)) pc Q) s') (λ_ _=>False))
    ⟨s.n,nN ps.toList x dq,bx k,rw k⟩)
  (done:ok xs.length->Q .normal ⟨s.n,dq,bx xs.length,rw xs.length⟩):yj f ⟨P,w0,S0,M0,none,own,β0⟩ (.rangeFunc gx ps assign body) Q s:=by
 obtain⟨c,hc⟩:∃c:Ctx,c=⟨P,w0,S0,M0,none,own,β0⟩:=⟨_,rfl⟩;rw[<-hc];have tc:c.P=P:=by rw[hc]
 intro a w hr;obtain⟨g,fP⟩:=hr;have hv:=fP.ev gx;rw[hg]at hv;generalize yU:a.eval gx=vx at hv;have D4:(⟨s.n,dq,bx 0,rw 0⟩:St).named:=⟨λm=>by
  have h1:=ed m;have iH:=iZ 0 (bD _);simp only[iH];exact h1.Lj,(dD 0 (bD _)).2⟩
 have DK:c.β0.length<=(⟨s.n,dq,bx 0,rw 0⟩:St).bx.length:=by rw[hc];simpa[iZ 0 (bD _)]using hβ
 have h0:=fP.le hle D4 DK;cases hv with
 |ag _ _ vs _ jn uh=>
 obtain⟨vs⟩:=vs;obtain⟨e1,e2⟩:=u9 hp;have qZ:vs.length=cm.length:=by rw[e1];simpa using jn
 have za:∀q x,cm[q]? =some x->Rel w ⟨g.S,[],[],g.M⟩ (vs.getD q bp) x:=λq x hx=>by
  obtain⟨y,hy,sU⟩:=e2 q x hx;exact rI fP (by simpa using uh q y hy) sU
 obtain⟨rec,gy⟩:∃rec:LoopState->Loop,rec=λst=>{state:=st,pending:=none,fn:=f,tmps:=a.tmps,params:=ps,assign,body,defers:=w.heap.size}:=⟨_,rfl⟩;obtain⟨W1,qn⟩:∃W1,(w.alloc (.deferred (some []))).alloc (.loop (rec .ready))=W1:=⟨_,rfl⟩;have xy:W1.heap[w.heap.size + 1]? =some (.loop (rec .ready)):=by
  rw[<-qn];have:=zK (w.alloc (.deferred (some []))) (.loop (rec .ready));rwa [World.size_alloc]at this
 have aA:W1.heap[w.heap.size]? =some (.deferred (some [])):=by
  rw[<-qn];exact(Below.heap_alloc _ _ _ aO).trans (zK w _)
 have gz:Below w.heap.size w W1:=by rw[<-qn];exact(((Below.refl _ w).alloc (aY _) _).alloc aO _)
 have aR:c.w0.heap.size<=w.heap.size:=fP.below.size;have h1:=h0.world gz (λ_ h=>h) (λ_ h=> .inl h) (h0.ba.below gz);have te:jf W1 g.M:=h1.df.bO;have EB:Good W1 g.S:=h1.ba;rw[tc];refine Yn (l:=w.heap.size + 1) (mark:=[{target:= .collected w.heap.size,args:=#[]}]) (w₁:=W1) (d:={target:= .fn (.func gf) vs.toArray,args:=#[.func (.yield (w.heap.size + 1)) #[] #[]]}) (JS:=W1) (f':=gf)
  (args:=(tv (.yield (w.heap.size + 1)) #[] #[]::vs).toArray) (w₂:=W1) ?_ ?_ ?_ ?_
 ·rw[<-qn,gy];exact run_enterLoop_outer _ _ _ _ _
 ·simp only[resolve,yU];simp[go_sem]
 ·have:=hI.1 (tv (.yield (w.heap.size + 1)) #[] #[]::vs).toArray W1;simp[invoke,go_sem];simpa using this
 refine(hI.2 g.S g.M W1 vs (h1.df.fD.at h1.below) EB te qZ (λq x hx=>(za q x hx).aZ ⟨λy hy=>by
   obtain⟨u,hu⟩:=fP.ba y hy;obtain⟨cc,tt,ff,Eo⟩:=tn hu;exact World.cell?_of_block (gz.block _ (bt.1 Eo).1),λ_ h=>h,λ_ _ h=>h,λ_ _ h=>h,λ_ _ h=>h⟩)
  (w.heap.size + 1) (λk T S M W=>(k<=xs.length/\ok k)/\JJ c a (w.heap.size + 1) w.heap.size ⟨s.n,dq,bx k,rw k⟩ (rec .ready) T S M W)
  (λ_ T S M W=>∃eo eL,(∀ch,pc ch->Q (.panic ch) ⟨s.n,dq,eo,eL⟩)/\JJ c a (w.heap.size + 1) w.heap.size ⟨s.n,dq,eo,eL⟩ (rec .busy) T S M W)
  (λk T S M W T' S' M' W' h hi=>⟨h.1,JC T S M W T' S' M' W' h.2 hi⟩)
  (λk T S M W T' S' M' W' h hi=>by obtain⟨eo,eL,h2,h3⟩:=h;exact⟨eo,eL,h2,JC T S M W T' S' M' W' h3 hi⟩) ?_ ?_).mono ?_
 ·
  rintro k T S M W args x hx ⟨⟨hk,aW⟩,g1,rfl,rfl,aK,Bg,hL,hD,hT⟩ hlen bw;have mX:x.length=ps.size:=fV x (ey hx);have kv:k < xs.length:=(aQ.1 hx).1;have ly:(bx k).length=nb:=iZ k hk;have hy:=run_yield (P:=P) (args:=args.toArray) hL (by rw[gy];simp;omega);rw[gy]at hy;refine⟨f,_,assign,body,hy,ab4 hf ?_⟩;have xm:((ps.zip args.toArray).foldl (λt (p,v)=>t.setIfInBounds p v) a.tmps)=((ps.toList.zip args).foldl (λt (p,v)=>t.setIfInBounds p v) a.tmps):=by
   rw[<-Array.foldl_toList];simp
  obtain⟨q1,q2⟩:=GR (w:=W) (g:=g1) ps.toList x args dq a.tmps hlen (λq d hd=>(bw q d hd).aZ (EL _ _ _ _ _)) (λp hp=>by rw[aK.sz];exact mn p hp) (λm=>aK.sl m);have lu:=aK.enter Bg (some (w.heap.size + 1)) (a':={tmps:=(ps.zip args.toArray).foldl (λt (p,v)=>t.setIfInBounds p v) a.tmps,defers:=[]}) (sl:=nN ps.toList x dq) rfl (by rw[xm];exact q1) (by rw[xm];exact q2);rw[tc]at lu;have hA:=round k x hx aW W g1.S g1.M (w.heap.size + 1) _ g1.β (by rw[aK.lβ];exact ly) _ W ⟨g1,lu⟩;refine wpIn_mono hA ?_;rintro e a1 w1 ⟨s1,⟨g2,h2⟩,hq⟩;cases e with
  |normal=>
   have Ev:=(bt.1 hL).1;have xx:¬(W.heap.size<=w.heap.size + 1\/(c.own (w.heap.size + 1)/\¬T (w.heap.size + 1)/\dp W (w.heap.size + 1))):=λh=>by
    rcases h with h|⟨_,_,h⟩
    ·omega
    ·exact dp.not hL rfl aO h
   have jX:w1.heap[w.heap.size + 1]? =some (.loop (rec .ready)):=(h2.below.block _ Ev (λh=>h.elim xx (λh=>h (aK.df.bO.wN hL)))).trans hL;have lx:=run_beginRound (P:=P) jX (by rw[gy]);have jU:=h2.KA (w':=w1.putObj (w.heap.size + 1) (.loop {rec .ready with state:= .busy})) (GQ jX) (KB jX) ⟨h2.df.cN.1,λd hd=>by
    obtain⟨D2,hB,rfl,dQ⟩:=h2.df.cN.2 d hd;exact⟨D2,hB,rfl,(j7 (λe=>by subst e;rw[jX]at dQ;cases dQ)).trans dQ⟩⟩ (λb hb=>h2.cu b (by have:=h2.below.size;simp only[World.putObj_size]at hb;exact Nat.le_trans this hb))
   have hB:=hq (w1.putObj (w.heap.size + 1) (.loop {rec .ready with state:= .busy})) g2.S g2.M _ a1 _ ⟨g2,jU⟩;refine⟨_,lx,wpIn_mono hB ?_⟩;rintro e a3 W3 ⟨s3,⟨g3,h3⟩,g_⟩;have tg:(w1.putObj (w.heap.size + 1) (.loop {rec .ready with state:= .busy})).heap[w.heap.size + 1]? =some (.loop {rec .ready with state:= .busy}):=World.putObj_heap_same (bt.1 jX).1;have rY:=(bt.1 tg).1;have l1:mI (λb=>W.heap.size<=b\/b=w.heap.size + 1\/(c.own b/\¬T b/\dp W b)) W g1 w1 g2:=h2.later rfl rfl rfl (λb hb=>hb.elim .inl (λh=> .inr (.inr h)));have l2:=Dw (p:=λb=>W.heap.size<=b\/b=w.heap.size + 1\/(c.own b/\¬T b/\dp W b)) h2.ba jX (.inr (.inl rfl)) (.loop {rec .ready with state:= .busy});have fin:∀{a4:Act} {W4:World},RG ⟨P,w1.putObj (w.heap.size + 1) (.loop {rec .ready with state:= .busy}),g2.S,g2.M,some (w.heap.size + 1),λb=>W.heap.size<=b\/(c.own b/\¬T b/\dp W b),g1.β⟩ s3 a4 W4 g3->W4.heap[w.heap.size + 1]? =some (.loop {rec .ready with state:= .busy})/\
     ∀(eo:List Bx) (eL:List Row) (r2:Loop),Le s3 ⟨s.n,dJ,eo,eL⟩->eo.length=nb->(⟨s.n,dJ,eo,eL⟩:St).named->
      ∃S' M',wg T g1.S g1.M W S' M' (W4.putObj (w.heap.size + 1) (.loop r2))/\JJ c a (w.heap.size + 1) w.heap.size ⟨s.n,dq,eo,eL⟩ r2 T S' M' (W4.putObj (w.heap.size + 1) (.loop r2)):=λ{a4 W4} h4=>by
    have H8:W4.heap[w.heap.size + 1]? =some (.loop {rec .ready with state:= .busy}):=(h4.below.block _ rY (λh=>h.elim xx (λh=>h (jU.df.bO.wN tg)))).trans tg;have l3:mI (λb=>W.heap.size<=b\/b=w.heap.size + 1\/(c.own b/\¬T b/\dp W b)) _ g2 W4 g3:=h4.later rfl rfl rfl (λb hb=>hb.elim .inl (λh=> .inr (.inr h)));have hl:=(l1.trans l2 (λb hb=> .inl hb)).trans l3 (λb hb=> .inl hb);exact⟨H8,λeo eL r2 hle hlen dD=>Qw (st:=⟨s.n,dq,bx k,rw k⟩) (nb:=nb) aK Bg hL hD hT ae ly h4 rfl (λb hb=>hb) hl H8 (by rw[show(⟨s.n,dq,bx k,rw k⟩:St).bx.length=nb from ly];exact ed) hle hlen dD⟩
   cases e with
   |normal=>
    obtain⟨mz,gR⟩:=fin h3;have he:=run_endRound (P:=P) none mz;obtain⟨S',M',f1,f2⟩:=gR (bx (k + 1)) (rw (k + 1)) (rec .ready) g_.2 (iZ _ kv) (dD _ kv);rw[gy]at he f1 f2⊢;exact⟨_,_,he,S',M',f1, .inl ⟨rfl,⟨kv,g_.1⟩,f2⟩⟩
   |panic ch=>
    obtain⟨iG,eo,eL,h5,h6,h7,h8⟩:=g_;refine yK (s:=s3) (g:=g3) (a0:=a3) a3.defers a3 W3 h3 rfl (λW4 h4 _=>⟨ch,rfl, ?_⟩);obtain⟨H8,gR⟩:=fin h4;obtain⟨S',M',f1,f2⟩:=gR eo eL {rec .ready with state:= .busy} h7 h5 h6;rw[QX H8]at f1 f2;refine⟨S',M',f1, .inr ⟨ch,rfl,iG,eo,eL,h8, ?_⟩⟩;have er:({rec .ready with state:= .busy}:Loop)=rec .busy:=by rw[gy]
    rw[er]at f2;exact f2
   |ret=>exact g_.elim
   |exit id=>exact g_.elim
   |goto t=>exact g_.elim
   |outgrown=>exact g_.elim
  |exit id=>exact hq.elim
  |goto l=>exact hq.elim
  |ret=>exact hq.elim
  |panic ch=>exact hq.elim
  |outgrown=>exact hq.elim
 ·
  refine⟨⟨bD _,ok0⟩,_, ?_, ?_,h1,⟨λ_ _ _ _ _ _ h=>h,λ_ _ _ _ _ _ _ _ h=>h,λ_ _ _ _ h=>h,λ_ h=>h.elim⟩,xy,aA,λ_ h=>h.elim⟩<;>rfl
 ·
  have UG:∀{st:St} {W W':World} {g1:Gh} {r:Loop},RG c st a W g1->W.heap[w.heap.size + 1]? =some (.loop r)->W.heap[w.heap.size]? =some (.deferred (some []))->(∃o,W'=W.putObj (w.heap.size + 1) o)->
    RG c st {a with defers:={target:= .collected w.heap.size,args:=#[]}::a.defers} W' g1:=λ{st W W' g1 r} aK hL hD ⟨o,ho⟩=>by
   subst ho;refine aK.rD hL rfl aO (aK.cu _ ae) rfl ⟨List.nodup_cons.2 ⟨λhm=> ?_,aK.df.cN.1⟩,λd hd=> ?_⟩
   ·obtain⟨D',_,e,dN⟩:=fP.df.cN.2 _ hm;cases e;have:=(bt.1 dN).1;omega
   ·rcases eK.1 hd with rfl|hd
    ·exact⟨w.heap.size,aK.cu _ aR,rfl,(j7 ae).trans hD⟩
    ·obtain⟨D2,hB,rfl,dQ⟩:=aK.df.cN.2 d hd;exact⟨D2,hB,rfl,(j7 (λe=>by subst e;rw[hL]at dQ;cases dQ)).trans dQ⟩
  rintro e W2 ⟨T,S',M',⟨⟨v,rfl⟩,⟨hk,aW⟩,hJ⟩|⟨ch,k,rfl,iG,eo,eL,hq,hJ⟩⟩
  ·obtain⟨g1,rfl,rfl,aK,Bg,hL,hD,hT⟩:=hJ;have aV:=run_endLoop (P:=P) hL (by rw[gy];simp);have hp:(rec .ready).pending=none:=by rw[gy]
   rw[hp]at aV;exact⟨_,aV,_,⟨g1,UG aK hL hD ⟨_,rfl⟩⟩,done aW⟩
  ·obtain⟨g1,rfl,rfl,aK,Bg,hL,hD,hT⟩:=hJ;exact⟨_,⟨g1,UG aK hL hD ⟨_,(QX hL).symm⟩⟩,hq ch iG⟩
end
def wK (t:TypeId)(ch:List PanicEntry):Prop:=∃x:Int,ch=[{v:= .iface t (.agg #[.int .i64 x]),recovered:=false}]
theorem SZ {w:World}{g:Gh}{v:Value}{x:Int}(h:Rel w g v (.agg [.int .i64 x])):v= .agg #[.int .i64 x]:=by
 cases h
 case agg vs hl h1 h2=>
  have h3:=h2 0 (.int .i64 x) rfl;have hs:vs.size=1:=by simpa using hl
  obtain⟨vs⟩:=vs
  match vs,hs with
  |[a],_=>
   have h3:Rel w g a (.int .i64 x):=h3;cases h3;rfl
theorem alq {c:Ctx}{s:St}{Q:Exit->St->Prop}{id:Nat}{l:List Oper}(n:Nat){t:TypeId}{d7 d8:Tmp}{x:Int}{ty Gg:TypeId}{pos pos':String}{aft IY:Array Edge}
  (hl:l=l.take n++[⟨some d8, .makeInterface t (.tmp d7),ty,pos,aft,none⟩,⟨none, .panic (.tmp d8),Gg,pos',IY,none⟩]){fs:Array Field}(ht:c.P.underlying t=some (.struct fs))
  (h:∀K1:St->Prop,(∀s1,s1.sl d7= .agg [.int .i64 x]->d8 < s1.n->(∀ch d,wK t ch->Q (.panic ch) (s1.put (some d8) d))->K1 s1)->bZ c.P l (l.take n) s K1):av c (.region id l.toArray false) Q s:=by
 intro a w hr;refine wpIn_region_lit ?_;rw[hl];rw[hl]at h;have kU:(l.take n++[(⟨some d8, .makeInterface t (.tmp d7),ty,pos,aft,none⟩:Oper),⟨none, .panic (.tmp d8),Gg,pos',IY,none⟩]).take n=l.take n:=by rw[<-hl]
 rw[kU]at h;generalize l.take n=l1 at *;refine qv (c:=c) (λs1 a1 w1 fO cX=> ?_) l1 s a w hr (h (λs1=>s1.sl d7= .agg [.int .i64 x]/\d8 < s1.n/\∀ch d,wK t ch->Q (.panic ch) (s1.put (some d8) d)) (λs1 h1 h2 h3=>⟨h1,h2,h3⟩));obtain⟨h1,h2,h3⟩:=cX;obtain⟨g1,aK⟩:=fO;have hv:=aK.sl d7;rw[h1]at hv;have hv:=SZ hv;unfold wpListIn;rw[if_pos (by simp[eh])];refine gK (c:=c) (by intro cl h;cases h) ?_;have hx:a1.eval (.tmp d7)= .agg #[.int .i64 x]:=hv;have aV:(execOp a1.eval ⟨some d8, .makeInterface t (.tmp d7),ty,pos,aft,none⟩).run c.P w1= .ok (.value (.iface t (.agg #[.int .i64 x]))) w1:=by
  simp[execOp,hx,Instr.makeInterface,underlying,ht,Sem.run]
 unfold Oper.wp;rw[aV];show wpListIn _ _ _ _ _ [_] _ _;unfold wpListIn;rw[if_pos (by simp[eh])];have fk:=aK.put (dst:=some d8) (show d8 < s1.n from h2) (v:= .iface t (.agg #[.int .i64 x])) (d:= .val (.iface t (.agg #[.int .i64 x]))) (.val _ _);have hy:(a1.put (some d8) (.iface t (.agg #[.int .i64 x]))).eval (.tmp d8)= .iface t (.agg #[.int .i64 x]):=by
  have:=fk.sl d8;have e:(s1.put (some d8) (.val (.iface t (.agg #[.int .i64 x])))).sl d8= .val (.iface t (.agg #[.int .i64 x])):=by simp[St.put,put]
  rw[e]at this;have:Rel w1 g1 ((a1.put (some d8) (.iface t (.agg #[.int .i64 x]))).eval (.tmp d8)) (.val (.iface t (.agg #[.int .i64 x]))):=this;generalize(a1.put (some d8) (.iface t (.agg #[.int .i64 x]))).eval (.tmp d8)=v at this;cases this;rfl
 generalize(a1.put (some d8) (.iface t (.agg #[.int .i64 x])))=a2 at fk hy;refine⟨λ_ _=>trivial, ?_⟩;have yW:(Oper.semAt c.F.round a2.eval ⟨none, .panic (.tmp d8),Gg,pos',IY,none⟩).run c.P w1= .halt (.panic (.iface t (.agg #[.int .i64 x]))) w1:=by
  rw[Oper.semAt_eq _ _ _ (by intro cl h;cases h)];simp[execOp,hy,Instr.panic,goPanic]
 rw[yW,Oper.uponIn_panic];exact⟨_,⟨_,fk⟩,h3 _ _ ⟨x,rfl⟩⟩
end Go.Ab
end
section
namespace Go.Ab
open Go.RowKit
def JF (P:Program)(f:FuncId)(ds:List D)(pc:List PanicEntry->Prop)(res:Option D):Prop:=
 (∀(args:Array Value) (w:World),(callFunc f args).run P w= .ok (.enter f args) w)/\
 ∀(S:Addr->Prop) (M:MM) (w:World) (args:List Value),lG w->Good w S->jf w M->args.length=ds.length->(∀q x,ds[q]? =some x->Rel w ⟨S,[],[],M⟩ (args.getD q bp) x)->
  Calls P f args.toArray w λe w'=>∃S' M',Grow w S M w' S' M'/\Good w' S'/\((∃v d,res=some d/\e= .returned v/\Rel w' ⟨S',[],[],M'⟩ v d)\/(res=none/\∃ch,e= .panicked ch/\pc ch))
def ahZ (P:Program)(rs:Array ResultVar)(pc:List PanicEntry->Prop)(res:Option D):Exit->St->Prop
 | .panic ch,_=>res=none/\pc ch
 |e,s=>∃d,res=some d/\bb P rs d e s
theorem akB {P:Program}{f:FuncId}{fn:Func}{code:Code}{ds:List D}{pc:List PanicEntry->Prop}{res:Option D}{n:Nat}{rs:Array ResultVar}(hf:P.funcs[f]? =some fn)(py:fn.ntmps=n)(HC:fn.results=rs)
  (hc:∀(args:Array Value) (w:World),(callFunc f args).run P w= .ok (.enter f args) w)(hb:fn.body=some code)(hn:ds.length<=n)
  (h:∀(w0:World) (S0:Addr->Prop) (M0:MM),av ⟨P,w0,S0,M0,none,λb=>w0.heap.size<=b,[]⟩ code (ahZ P rs pc res) ⟨n,kQ 0 ds,[],[]⟩):JF P f ds pc res:=by
 subst py;subst HC
 refine⟨hc,λS M w args hT hS hM hl bw=> ?_⟩;refine(callsIn_wide (n:=0)).1 (callsIn_of_wp_marks hf hb trivial ?_);have hw:=h w S M {tmps:=args.toArray++gW (fn.ntmps - args.toArray.size) undef,defers:=[]} w
  ⟨⟨S,[],[],M⟩,⟨⟨uK,λd hd=>by cases hd⟩,hM,λ_ _ h=>h,λ_ _ h=> .inl h,λi b h=>by simp at h,λ_ _=>rfl,hT.fresh hM⟩,by simp;omega, .of (Below.refl _ _),λ_ h=>h,hS,λ_ h=> .inl h,λ_ h=>h,hS,rfl,rfl, ?_, ?_, ?_, ?_, ?_,λi es hi=>by simp at hi⟩
 ·refine wpIn_mono (F:=cE) hw ?_;have grow:∀{s':St} {a':Act} {w':World} {g:Gh},RG ⟨P,w,S,M,none,λb=>w.heap.size<=b,[]⟩ s' a' w' g->Grow w S M w' g.S g.M:=λhg=>
   ⟨⟨hg.below.os,hg.below.tape,hg.below.output,hg.below.size,λk hk hn=>hg.below.block k hk (λh=>h.elim (λh=>absurd (show w.heap.size<=k from h) (xW hk)) hn)⟩,hg.S0,hg.en,hg.df.m0,hg.df.gw,hg.df.bO⟩
  rintro e a' w' ⟨s',⟨g,hg⟩,hq⟩;have ret:(∃d,res=some d/\bb P fn.results d e s')->bodyPostM cE 0 P fn (λe w'=>∃S' M',Grow w S M w' S' M'/\Good w' S'/\((∃v d,res=some d/\e= .returned v/\Rel w' ⟨S',[],[],M'⟩ v d)\/(res=none/\∃ch,e= .panicked ch/\pc ch))) e a' w':=by
   rintro⟨d,hd,hq⟩;exact QD (c:=⟨P,w,S,M,none,λb=>w.heap.size<=b,[]⟩) hg hq (λv w' hg hv=>⟨g.S,g.M,grow hg,hg.ba, .inl ⟨v,d,hd,rfl,hv⟩⟩)
  cases e with
  |panic ch=>exact yK (c:=⟨P,w,S,M,none,λb=>w.heap.size<=b,[]⟩) (s:=s') (g:=g) (a0:=a') a'.defers a' w' hg rfl (λw2 h2 _=>⟨g.S,g.M,grow h2,h2.ba, .inr ⟨hq.1,ch,rfl,hq.2⟩⟩)
  |_=>exact ret hq
 ·intro m;simp only;rw[tU];simp only[dF,if_false,su];cases hd:ds[m]? with
  |none=>exact .undef _ _
  |some x=>
   have hm:=(aQ.1 hd).1;have:=bw m x hd;have e:(args.toArray++gW (fn.ntmps - args.toArray.size) undef).getD m undef=args.getD m undef:=by
    have:m < args.length:=ae;simp[yi,this]
   rw[e];exact this
 ·intro i cs hi;simp at hi
 ·intro i cs hi;simp at hi
 ·intro i cs hi;simp at hi
 ·exact⟨λ_=> .inl 0,λi x b hi=>by simp at hi,λr row v gb hr=>by simp at hr⟩
def atP (c:Ctx)(Q:Exit->St->Prop)(N:St->Prop)(xs:List Operand)(dst:Option Tmp)(ds:List D)(pc:List PanicEntry->Prop)(res:Option D)(s1:St):Prop:=
 yC s1.bx s1.rw (xs.map s1.ev)=some ds/\bd s1 dst/\(∀d,res=some d->N (s1.put dst d))/\(res=none->∀ch,pc ch->Q (.panic ch) s1)
section
variable {c:Ctx} {s:St} {l1 l2:List Deferred}
theorem W5 {Q:Exit->St->Prop}{id:Nat}{l:List Oper}(n:Nat){f:FuncId}{xs:Array Operand}{dst:Option Tmp}{at_:Array TypeId}{ty:TypeId}{pos:String}{aft:Array Edge}{res:Option D}{ds:List D}{pc:List PanicEntry->Prop}
  (hl:l=l.take n++⟨dst, .call ⟨.value (.func f),xs,at_⟩,ty,pos,aft,none⟩::l.drop (n + 1))(hC:JF c.P f ds pc res)(cX:((l.take n).all λo=>uW o.op||zF o.op)=true)(lp:((l.drop (n + 1)).all λo=>uW o.op||zF o.op)=true)
  (h:∀K1:St->Prop,(∀s1,atP c Q (λs2=>bZ c.P l (l.drop (n + 1)) s2 (λs2=>Q .normal s2)) xs.toList dst ds pc res s1->K1 s1)->bZ c.P l (l.take n) s K1):
  fB l1 l2 c (.region id l.toArray false) Q s:=by
 intro a w hr;refine wpIn_region_lit ?_;rw[hl];rw[hl]at h;have T8:(l.take n++(⟨dst, .call ⟨.value (.func f),xs,at_⟩,ty,pos,aft,none⟩:Oper)::l.drop (n + 1)).take n=l.take n:=by rw[<-hl]
 have qZ:(l.take n++(⟨dst, .call ⟨.value (.func f),xs,at_⟩,ty,pos,aft,none⟩:Oper)::l.drop (n + 1)).drop (n + 1)=l.drop (n + 1):=by rw[<-hl]
 rw[T8,qZ]at h;generalize l.take n=la at *;generalize l.drop (n + 1)=lb at *;obtain⟨y,hy⟩:∃y:Oper,y=⟨dst, .call ⟨.value (.func f),xs,at_⟩,ty,pos,aft,none⟩:=⟨_,rfl⟩;rw[<-hy]at h⊢;refine Av (c:=c) (λs1 a1 w1 fO hk=> ?_) la s a w cX hr (h _ (λs1 h1=>h1));show wpListIn c.F 0 c.P _ _ (y::lb) a1 w1;unfold wpListIn;rw[if_pos (by rw[hy];simp[eh])];obtain⟨h1,h2,h3,h4⟩:=hk;obtain⟨ng,g1,aK⟩:=fO;obtain⟨q1,q2,q3⟩:=abB (o:=y) (by rw[hy]) aK h1 hC.1;have sZ:({a1 with defers:=l2}:Act).eval=a1.eval:=rfl;rw[sZ]at q1 q2 q3;have bf:=hC.2 g1.S g1.M w1 _ (aK.df.fD.at aK.below) aK.ba aK.df.bO q2 q3;refine gK (by rw[hy];intro cl h;cases h) ?_;unfold Oper.wp;rw[q1];refine bf.mono ?_;rintro e w' ⟨S',M',jW,od,⟨v,d,hd,rfl,bw⟩|⟨hn,ch,rfl,iG⟩⟩
 ·have lO:y.dst=dst:=by rw[hy]
  have hp:=(aK.grow jW od).put h2 (bw.aZ (EL _ _ _ _ _));have il:({a1 with defers:=l2}:Act).put dst v={a1.put dst v with defers:=l2}:=by cases dst<;>rfl
  have hdp:(a1.put dst v).defers=l1:=by cases dst<;>exact ng
  rw[il]at hp;have:=Av (c:=c) (l1:=l1) (l2:=l2) (ops:=(la++y::lb).toArray) (K:=λs2=>Q .normal s2) (Q:=λe a' w'=>∃s',RX l1 l2 c s' a' w'/\Q e s') (rest:=[]) (λs4 a4 w4 lP qi=>⟨s4,lP,qi⟩) lb _ _ _ lp ⟨hdp,_,hp⟩ (by simpa using h3 d hd);show wpListIn c.F 0 c.P _ _ lb (a1.put y.dst v) w';rw[lO];simpa using this
 ·exact⟨s1,⟨ng,_,aK.grow jW od⟩,h4 hn ch iG⟩
end
end Go.Ab
end
section
namespace Go.Ab
open Go.RowKit
theorem Xc {c:Ctx}{Q:Exit->St->Prop}{s:St}{str:ByteArray}{x:Operand}{t7 t8 t9 t10:Tmp}{tS CF Gf Ge Al:TypeId}{p7 p8 p9 AF:String}{f7 f8 f9 f10:Array Edge}{LG LF e0:Nat}{body:Code}
  (hx:s.ev x= .str str)(aM:kN c.P tS=true)(h7:t7 < s.n)(h8:t8 < s.n)(h9:t9 < s.n)(nk:t10 < s.n)(U3:t9≠t8)(hβ:c.β0=[])(fQ:s.bx=[])(ml:s.rw=[])
  (p:Nat->Prop)(jF:p 0)(inv:Nat->List (Nat×D))(dD:∀k,((inv k).all λp=>cq 0 0 p.2)=true)
  (hle:∀B,Le ((s.put (some t7) (.str str)).put (some t8) (jm B)) (cR s.n ((t8,jm B)::inv 0) [] []))
  (round:∀(B k:Nat) (hk:k < str.size),p k->∀(w1:World) (S1:Addr->Prop) (M1:MM) (o1:Nat->Prop) (r:Nat),(if(str[k]'hk).toNat < 128 then r=(str[k]'hk).toNat else 128<=r)->av ⟨c.P,w1,S1,M1,c.l,o1,[]⟩ body (λe s'=>(e= .normal/\(str[k]'hk).toNat < 128/\p (k + 1)/\Le s' (cR s.n ((t8,jm B)::inv (k + 1)) [] []))\/((e= .ret\/∃ch,e= .panic ch)/\s'.bx=[]/\s'.rw=[]/\Q e s'))
   (((⟨s.n,((t8,jm B)::inv k).foldr (λp f=>put f p.1 p.2) dJ,[],[]⟩:St).put (some t9) (.aF [.bool true, .int .i64 k, .int .i32 r])).put (some t10) (.bool true)))
  (done:p str.size->∀B,Q .normal (((⟨s.n,((t8,jm B)::inv str.size).foldr (λp f=>put f p.1 p.2) dJ,[],[]⟩:St).put (some t9) (.aF [.bool false])).put (some t10) (.bool false))):
  av c (.seq (.region LG #[⟨some t7, .move x,CF,p7,f7,none⟩,⟨some t8, .range tS (.tmp t7),Gf,p8,f8,none⟩] false)
   (.block e0 (.loop (.seq (.region LF #[⟨some t9, .next (.tmp t8) true,Ge,p9,f9,none⟩,⟨some t10, .extract (.tmp t9) 0,Al,AF,f10,none⟩] false) (.seq (.cond (.tmp t10) .skip (.exit e0)) body))))) Q s:=by
 intro a w hr;have qh:∀B k,(cR s.n ((t8,jm B)::inv k) [] []).named:=λB k=>ik (by
  simp only[List.all_cons,List.length_nil,dD k];rfl) rfl
 refine wpIn_seq (wpIn_region_lit (l:=[⟨some t7, .move x,CF,p7,f7,none⟩,⟨some t8, .range tS (.tmp t7),Gf,p8,f8,none⟩]) ?_);obtain⟨g,hg⟩:=hr;unfold wpListIn;rw[if_pos (by simp[Region.wanted])];have Tr:cZ c.P ⟨some t7, .move x,CF,p7,f7,none⟩ s (λs1=>s1=s.put (some t7) (.str str)):=⟨h7,by show St.put s _ (s.ev x)=_;rw[hx]⟩;refine gK (wE Tr) (Oper.wp_mono (λa1 w1 ⟨s1,fO,e1⟩=> ?_) (uY hg Tr));subst e1;obtain⟨g1,aK⟩:=fO;unfold wpListIn;rw[if_pos (by simp[Region.wanted])];refine gK (λcl e=>by cases e) ?_;have hs7:a1.eval (.tmp t7)= .string str:=by
  have:=aK.sl t7;have e:(s.put (some t7) (.str str)).sl t7= .str str:=by simp[St.put,put]
  rw[e]at this;have:Rel w1 g1 (a1.eval (.tmp t7)) (.str str):=this;generalize a1.eval (.tmp t7)=v at this;cases this;rfl
 refine ac0 (t:=tS) (x:= .tmp t7) rfl hs7 aM ?_;obtain⟨B,MR⟩:∃B,B=w1.heap.size:=⟨_,rfl⟩;have H':c.w0.heap.size<=B:=by rw[MR];exact aK.below.size
 have UQ:=zI w1 (.stringIter str 0);have fk:RG c (s.put (some t7) (.str str)) a1 (w1.iter str 0) ⟨g1.S,g1.β,g1.ρ,g1.M⟩:=aK.world UQ (λ_ h=>h) (λ_ h=> .inl h) (aK.ba.below UQ);have de:RG c ((s.put (some t7) (.str str)).put (some t8) (jm B)) (a1.put (some t8) (.pointer (some ⟨B,0,none⟩))) (w1.iter str 0) ⟨g1.S,g1.β,g1.ρ,g1.M⟩:=fk.put (show t8 < s.n from h8) (.val _ _);have hR:R c (cR s.n ((t8,jm B)::inv 0) [] []) (a1.put (some t8) (.pointer (some ⟨B,0,none⟩))) (w1.iter str 0):=R.le ⟨_,de⟩ (hle B) (qh B 0) (by rw[hβ];exact Nat.le_refl _);have Bb:(w1.iter str 0).heap[B]? =some (.stringIter str 0):=by rw[MR];exact World.iter_heap w1 str 0
 rw[<-MR];unfold wpListIn;refine wpIn_block ?_;refine F4 (λk a w=>(k<=str.size/\p k)/\R c (cR s.n ((t8,jm B)::inv k) [] []) a w/\w.heap[B]? =some (.stringIter str k)) (λk=>str.size - k) (λk a w ⟨⟨hk,pv⟩,hr,hh⟩=> ?_) 0 ⟨⟨Nat.zero_le _,jF⟩,hR,Bb⟩;obtain⟨g,hg⟩:=hr;have Uu:a.eval (.tmp t8)= .pointer (some ⟨B,0,none⟩):=by
  have:=hg.sl t8;have e:(cR s.n ((t8,jm B)::inv k) [] []).sl t8=jm B:=by simp[cR,put]
  rw[e]at this;have:Rel w g (a.eval (.tmp t8)) (jm B):=this;generalize a.eval (.tmp t8)=v at this;cases this;rfl
 refine wpIn_seq (wpIn_region_lit (l:=[⟨some t9, .next (.tmp t8) true,Ge,p9,f9,none⟩,⟨some t10, .extract (.tmp t9) 0,Al,AF,f10,none⟩]) ?_);unfold wpListIn;rw[if_pos (by simp[Region.wanted])];refine gK (λcl e=>by cases e) ?_;by_cases aG:k < str.size
 ·obtain⟨r,wd,agL,Tx⟩:=ai' str k aG;refine adY (x:= .tmp t8) rfl Uu hh aG agL ?_;have HQ:=hg.afr rfl rfl (k:=k + wd) hh H';have ht:=PC (k:=k + wd) hh;have Be:=HQ.put (dst:=some t9) (show t9 < s.n from h9) (v:= .tuple #[.bool true, .int .i64 k, .int .i32 r]) (d:= .aF [.bool true, .int .i64 k, .int .i32 r]) (.aF _ _ _ rfl (λq d hd=>by
   match q,hd with
   |0,hd=>cases hd;exact .bool _ _
   |1,hd=>cases hd;exact .int _ _ _
   |2,hd=>cases hd;exact .int _ _ _
   |q + 3,hd=>simp at hd))
  unfold wpListIn;rw[if_pos (by simp[Region.wanted])];have hex:cZ c.P ⟨some t10, .extract (.tmp t9) 0,Al,AF,f10,none⟩ ((cR s.n ((t8,jm B)::inv k) [] []).put (some t9) (.aF [.bool true, .int .i64 k, .int .i32 r]))
    (λs1=>s1=((cR s.n ((t8,jm B)::inv k) [] []).put (some t9) (.aF [.bool true, .int .i64 k, .int .i32 r])).put (some t10) (.bool true)):=by
   refine⟨nk, ?_⟩;have e:((cR s.n ((t8,jm B)::inv k) [] []).put (some t9) (.aF [.bool true, .int .i64 k, .int .i32 r])).ev (.tmp t9)= .aF [.bool true, .int .i64 k, .int .i32 r]:=by simp[St.ev,St.put,put]
   show tI (St.ev _ (.tmp t9)) _;rw[e];rfl
  have iS:=Be.afs rfl rfl ht;have hP:(c.from_ (lY w B str (k + wd)) g.S g.M B).P=c.P:=rfl;have hF:(c.from_ (lY w B str (k + wd)) g.S g.M B).F=c.F:=rfl;refine gK (c:=c.from_ (lY w B str (k + wd)) g.S g.M B) (wE hex) (Oper.wp_mono (λa3 w3 ⟨s3,jV,e3⟩=> ?_) (uY iS hex));subst e3;unfold wpListIn;refine wpIn_seq ?_;obtain⟨g3,de⟩:=jV;have MC:a3.eval (.tmp t10)= .bool true:=by
   have:=de.sl t10;have e:(((cR s.n ((t8,jm B)::inv k) [] []).put (some t9) (.aF [.bool true, .int .i64 k, .int .i32 r])).put (some t10) (.bool true)).sl t10= .bool true:=by simp[St.put,put]
   rw[e]at this;exact Rel.asBool this
  refine wpIn_cond MC ?_;simp only[if_true];refine wpIn_skip ?_;show body.wpIn c.F 0 c.P _ a3 w3;have Mw:=round B k aG pv (lY w B str (k + wd)) g.S g.M (c.from_ (lY w B str (k + wd)) g.S g.M B).own r Tx.1 a3 w3 ⟨g3,de⟩;refine wpIn_mono Mw ?_;rintro e a4 w4 ⟨s4,lP,⟨rfl,Bn,TA,zc⟩|⟨rfl|⟨ch,rfl⟩,UR,Tj,vm⟩⟩
  ·obtain rfl:=Tx.2 Bn;obtain⟨g5,Ej⟩:=R.le lP zc (qh B (k + 1)) (Nat.le_refl _);have:=Be.LB rfl ht H' Ej rfl rfl;exact⟨k + 1,⟨⟨ae,TA⟩,⟨_,this.1⟩,this.2⟩,ae⟩
  ·obtain⟨g5,Ej⟩:=lP;have:=Be.LB rfl ht H' Ej UR Tj;exact⟨s4,⟨_,this.1⟩,vm⟩
  ·obtain⟨g5,Ej⟩:=lP;have:=Be.LB rfl ht H' Ej UR Tj;exact⟨s4,⟨_,this.1⟩,vm⟩
 ·obtain rfl:k=str.size:=ae;refine adZ (x:= .tmp t8) rfl Uu hh aG ?_;have Be:=hg.put (dst:=some t9) (show t9 < s.n from h9) (v:= .tuple #[.bool false]) (d:= .aF [.bool false]) (.aF _ _ _ rfl (λq d hd=>by
   match q,hd with
   |0,hd=>cases hd;exact .bool _ _
   |q + 1,hd=>simp at hd))
  unfold wpListIn;rw[if_pos (by simp[Region.wanted])];have hex:cZ c.P ⟨some t10, .extract (.tmp t9) 0,Al,AF,f10,none⟩ ((cR s.n ((t8,jm B)::inv str.size) [] []).put (some t9) (.aF [.bool false]))
    (λs1=>s1=((cR s.n ((t8,jm B)::inv str.size) [] []).put (some t9) (.aF [.bool false])).put (some t10) (.bool false)):=by
   refine⟨nk, ?_⟩;have e:((cR s.n ((t8,jm B)::inv str.size) [] []).put (some t9) (.aF [.bool false])).ev (.tmp t9)= .aF [.bool false]:=by simp[St.ev,St.put,put]
   show tI (St.ev _ (.tmp t9)) _;rw[e];rfl
  refine gK (wE hex) (Oper.wp_mono (λa3 w3 ⟨s3,jV,e3⟩=> ?_) (uY Be hex));subst e3;unfold wpListIn;refine wpIn_seq ?_;obtain⟨g3,de⟩:=jV;have MC:a3.eval (.tmp t10)= .bool false:=by
   have:=de.sl t10;have e:(((cR s.n ((t8,jm B)::inv str.size) [] []).put (some t9) (.aF [.bool false])).put (some t10) (.bool false)).sl t10= .bool false:=by simp[St.put,put]
   rw[e]at this;exact Rel.asBool this
  refine wpIn_cond MC ?_;simp only[Bool.false_eq_true,if_false];refine wpIn_exit ?_;simp only[Exit.then,Exit.inBlock,if_true];exact⟨_,⟨g3,de⟩,done pv B⟩
theorem Xd {c:Ctx}{Q:Exit->St->Prop}{s:St}{str:ByteArray}{x:Operand}{t7 t8 t9 t10:Tmp}{tS CF Gf Ge Al:TypeId}{p7 p8 p9 AF:String}{f7 f8 f9 f10:Array Edge}{LG LF e0:Nat}{body:Code}
  (hx:s.ev x= .str str)(aM:kN c.P tS=true)(Bn:∀k (h:k < str.size),(str[k]'h).toNat < 128) (h7:t7 < s.n) (h8:t8 < s.n) (h9:t9 < s.n) (nk:t10 < s.n) (U3:t9≠t8) (hβ:c.β0=[]) (fQ:s.bx=[]) (ml:s.rw=[])
  (inv:Nat->List (Nat×D)) (dD:∀k,((inv k).all λp=>cq 0 0 p.2)=true)
  (hle:∀B,Le ((s.put (some t7) (.str str)).put (some t8) (jm B)) (cR s.n ((t8,jm B)::inv 0) [] []))
  (round:∀(B k:Nat) (hk:k < str.size) (w1:World) (S1:Addr->Prop) (M1:MM) (o1:Nat->Prop),av ⟨c.P,w1,S1,M1,c.l,o1,[]⟩ body (λe s'=>e= .normal/\Le s' (cR s.n ((t8,jm B)::inv (k + 1)) [] []))
   (((⟨s.n,((t8,jm B)::inv k).foldr (λp f=>put f p.1 p.2) dJ,[],[]⟩:St).put (some t9) (.aF [.bool true, .int .i64 k, .int .i32 (str[k]'hk).toNat])).put (some t10) (.bool true)))
  (done:∀B,Q .normal (((⟨s.n,((t8,jm B)::inv str.size).foldr (λp f=>put f p.1 p.2) dJ,[],[]⟩:St).put (some t9) (.aF [.bool false])).put (some t10) (.bool false))):
  av c (.seq (.region LG #[⟨some t7, .move x,CF,p7,f7,none⟩,⟨some t8, .range tS (.tmp t7),Gf,p8,f8,none⟩] false)
   (.block e0 (.loop (.seq (.region LF #[⟨some t9, .next (.tmp t8) true,Ge,p9,f9,none⟩,⟨some t10, .extract (.tmp t9) 0,Al,AF,f10,none⟩] false) (.seq (.cond (.tmp t10) .skip (.exit e0)) body))))) Q s:=
 Xc hx aM h7 h8 h9 nk U3 hβ fQ ml (λ_=>True) trivial inv dD hle (λB k hk _ w1 S1 M1 o1 r hr=>by
  rw[if_pos (Bn k hk)]at hr;subst hr;exact(round B k hk w1 S1 M1 o1).mono λe s' h=> .inl ⟨h.1,Bn k hk,trivial,h.2⟩) λ_=>done
end Go.Ab
end
section
namespace Go.Ab
open Go.RowKit
mutual
def D.rn (σ τ:Nat->Option Nat):D->D
 | .undef=> .undef
 | .int k n=> .int k n
 | .bool b=> .bool b
 | .str s=> .str s
 | .list xs=> .list xs
 | .ro cs=> .ro cs
 | .own r=>match τ r with|some j=> .own j|none=> .undef
 | .val v=> .val v
 | .bM f=> .bM f
 | .skp=> .skp
 | .any=> .any
 | .agg cs=> .agg (nK σ τ cs)
 | .aF cs=> .aF (nK σ τ cs)
 | .ag f cs=> .ag f (nK σ τ cs)
 | .cL f cs=> .cL f (nK σ τ cs)
 | .box i off=>match σ i with|some j=> .box j off|none=> .undef
 | .aN i off n c=>match σ i with|some j=> .aN j off n c|none=> .undef
 | .bu i=>match σ i with|some j=> .bu j|none=> .undef
def nK (σ τ:Nat->Option Nat):List D->List D
 |[]=>[]
 |d::ds=>d.rn σ τ::nK σ τ ds
end
theorem AA (σ τ:Nat->Option Nat):∀ds:List D,nK σ τ ds=ds.map (D.rn σ τ)
 |[]=>rfl
 |d::ds=>by simp only[nK,List.map_cons,AA σ τ ds]
theorem yz (σ τ:Nat->Option Nat)(ds:List D):(nK σ τ ds).length=ds.length:=by rw[AA,iB]
theorem AB {σ τ:Nat->Option Nat}{ds:List D}{q:Nat}{d:D}(h:(nK σ τ ds)[q]? =some d):∃x,ds[q]? =some x/\d=x.rn σ τ:=by
 rw[AA,cO,cv]at h;obtain⟨x,hx,rfl⟩:=h;exact⟨x,hx,rfl⟩
def dZ (σ τ:Nat->Option Nat):Bx->Bx
 | .dead=> .dead
 | .mu cs=> .mu (nK σ τ cs)
 | .fz cs=> .fz cs
 | .mp es=> .mp (es.map λe=>(e.1.rn σ τ,e.2.rn σ τ))
theorem QA (σ τ:Nat->Option Nat)(x:Bx):(dZ σ τ x).live=x.live:=by cases x<;>rfl
theorem Qy {σ τ:Nat->Option Nat}{x:Bx}{cs:List D}(h:dZ σ τ x= .mu cs):∃iy,x= .mu iy/\cs=nK σ τ iy:=by
 cases x<;>simp only[dZ]at h<;>cases h
 exact⟨_,rfl,rfl⟩
theorem QB {σ τ:Nat->Option Nat}{x:Bx}{cs:List D}(h:dZ σ τ x= .fz cs):x= .fz cs:=by
 cases x<;>simp only[dZ]at h<;>cases h
 rfl
theorem Qz {σ τ:Nat->Option Nat}{x:Bx}{es:List (D×D)}(h:dZ σ τ x= .mp es):∃mC,x= .mp mC/\es=mC.map λe=>(e.1.rn σ τ,e.2.rn σ τ):=by
 cases x<;>simp only[dZ]at h<;>cases h
 exact⟨_,rfl,rfl⟩
theorem Rel.rn {w:World}{g:Gh}{v:Value}{d:D}{σ τ:Nat->Option Nat}(h:Rel w g v d):∀{g':Gh},g'.S=g.S->g'.M=g.M->(∀(i j b:Nat),σ i=some j->g.β[i]? =some b->g'.β[j]? =some b)->(∀(i j:Nat) (b:Value),τ i=some j->g.ρ[i]? =some b->g'.ρ[j]? =some b)->Rel w g' v (d.rn σ τ):=by
 induction h with
 |undef g v=>intros;exact .undef _ _
 |int g k n=>intros;exact .int _ _ _
 |bool g b=>intros;exact .bool _ _
 |str g s=>intros;exact .str _ _
 |val g v=>intros;exact .val _ _
 |list g A n c xs sz u hn aR eO hm hr ih=>
  intro g' h1 h3 h4 h5;refine .list _ A n c xs sz u hn aR eO (λq hq=> ?_) (λq d hd=> ?_)
  ·rw[h1];exact hm q hq
  ·have:g'.er=g.er:=by simp only[Gh.er,h1,h3]
   rw[this];exact hr q d hd
 |agg g vs cs hl gH hr ih=>
  intro g' h1 h3 h4 h5;refine .agg _ vs _ (by rw[hl,yz]) (λq hq=>gH q (by rw[yz]at hq;exact hq)) (λq d hd=> ?_);obtain⟨x,hx,rfl⟩:=AB hd;exact ih q x hx h1 h3 h4 h5
 |aF g vs ds hl hr ih=>
  intro g' h1 h3 h4 h5;refine .aF _ vs _ (by rw[hl,yz]) (λq d hd=> ?_);obtain⟨x,hx,rfl⟩:=AB hd;exact ih q x hx h1 h3 h4 h5
 |box g i off b hb=>
  intro g' h1 h3 h4 h5;simp only[D.rn];cases hs:σ i with
  |none=>exact .undef _ _
  |some j=>exact .box _ j off b (h4 i j b hs hb)
 |ro g ad cs u hm hr ih=>
  intro g' h1 h3 h4 h5;refine .ro _ ad cs u (λq hq=> ?_) (λq d hd=> ?_)
  ·rw[h1];exact hm q hq
  ·have:g'.er=g.er:=by simp only[Gh.er,h1,h3]
   rw[this];exact hr q d hd
 |bM g b f h=>intro g' h1 h3 h4 h5;exact .bM _ b f (by rw[h3];exact h)
 |skp g=>intros;exact .skp _
 |any g v h1=>intros;exact .any _ v h1
 |bu g i b hb=>
  intro g' h1 h3 h4 h5;simp only[D.rn];cases hs:σ i with
  |none=>exact .undef _ _
  |some j=>exact .bu _ j b (h4 i j b hs hb)
 |cL g f vs cs hl hr ih=>
  intro g' h1 h3 h4 h5;refine .cL _ f vs _ (by rw[hl,yz]) (λq d hd=> ?_);obtain⟨x,hx,rfl⟩:=AB hd;exact ih q x hx h1 h3 h4 h5
 |aN g i off n c b hb=>
  intro g' h1 h3 h4 h5;simp only[D.rn];cases hs:σ i with
  |none=>exact .undef _ _
  |some j=>exact .aN _ j off n c b (h4 i j b hs hb)
 |own g r' v h=>
  intro g' h1 h3 h4 h5;simp only[D.rn];cases hs:τ r' with
  |none=>exact .undef _ _
  |some j=>exact .own _ j v (h5 r' j v hs h)
 |ag g f vs cs hl hr ih=>
  intro g' h1 h3 h4 h5;refine .ag _ f vs _ (by rw[hl,yz]) (λq d hd=> ?_);obtain⟨x,hx,rfl⟩:=AB hd;exact ih q x hx h1 h3 h4 h5
def nI {α:Type}:List Nat->List α->List α
 |[],_=>[]
 |i::ix,A=>(match A[i]? with|some x=>[x]|none=>[])++nI ix A
def vJ {α:Type}(ix:List Nat)(A2:List α):Nat->List α->List α
 |_,[]=>[]
 |i,x::A=>(match pos ix 0 i with|some j=>(match A2[j]? with|some y=>y|none=>x)|none=>x)::vJ ix A2 (i + 1) A
def jK {α:Type}(ix:List Nat)(A A2:List α):List α:=vJ ix A2 0 A++A2.drop ix.length
theorem CW {α:Type}{A:List α}:∀{ix:List Nat} {j:Nat} {y:α},(∀i∈ix,i < A.length)->(nI ix A)[j]? =some y->∃i,ix[j]? =some i/\A[i]? =some y
 |[],j,y,_,h=>by simp[nI]at h
 |i::ix,j,y,hi,h=>by
  have hl:=hi i (dI ..);simp only[nI,bS hl,XA]at h;cases j with
  |zero=>exact⟨i,rfl,by rw[bS hl];simpa using h⟩
  |succ j=>
   obtain⟨i2,h1,h2⟩:=CW (ix:=ix) (j:=j) (λi fj=>hi i (dW _ fj)) (by simpa using h);exact⟨i2,by simpa using h1,h2⟩
theorem CV {α:Type}{A:List α}:∀{ix:List Nat},(∀i∈ix,i < A.length)->(nI ix A).length=ix.length
 |[],_=>rfl
 |i::ix,hi=>by
  simp only[nI,bS (hi i (dI ..)),XA,List.length_cons,CV λi fj=>hi i (dW _ fj)]
theorem vI {α:Type}(ix:List Nat)(A2:List α):∀(A:List α) (i:Nat),(vJ ix A2 i A).length=A.length
 |[],_=>rfl
 |x::A,i=>by simp[vJ,vI ix A2 A (i + 1)]
theorem No {α:Type}{ix:List Nat}{A A2:List α}:(jK ix A A2).length=A.length + (A2.length - ix.length):=by simp[jK,vI]
theorem EN {α:Type}(ix:List Nat)(A2:List α):∀(A:List α) (i j:Nat),(vJ ix A2 i A)[j]? =(A[j]?).map λx=>match pos ix 0 (i + j)with|some q=>(match A2[q]? with|some y=>y|none=>x)|none=>x
 |[],_,_=>by simp[vJ]
 |x::A,i,0=>by simp[vJ]
 |x::A,i,j + 1=>by
  simp only[vJ,uN,EN ix A2 A (i + 1) j];rw[show i + 1 + j=i + (j + 1) by omega]
theorem Np {α:Type}{ix:List Nat}{A A2:List α}{k:Nat}{y:α}(hlen:ix.length<=A2.length)(h:(jK ix A A2)[k]? =some y):
  (pos ix 0 k=none/\A[k]? =some y)\/∃j,A2[j]? =some y/\k=o9 ix A.length j:=by
 unfold jK at h;by_cases hk:k < A.length
 ·rw[bQ (by rw[vI];exact hk),EN,cv]at h;obtain⟨x,hx,h⟩:=h;rw[fK]at h;cases hp:pos ix 0 k with
  |none=>
   rw[hp]at h;simp only at h;exact .inl ⟨rfl,by rw[hx,h]⟩
  |some j=>
   rw[hp]at h;have hj:=(De hp).2;rw[su]at hj;have dE:j < A2.length:=Nat.lt_of_lt_of_le (aQ.1 hj).1 hlen;simp only[bS dE]at h;exact .inr ⟨j,by rw[bS dE,h],by unfold o9;rw[hj]⟩
 ·rw[dX (by rw[vI];omega),vI,tB]at h;refine .inr ⟨_,h, ?_⟩;unfold o9;rw[pM ae];simp only;omega
theorem ah1 {α:Type}{ix:List Nat}{A A2:List α}{j:Nat}{y:α}(hn:ix.Nodup)(qj:∀i∈ix,i < A.length)(h:A2[j]? =some y):(jK ix A A2)[o9 ix A.length j]? =some y:=by
 unfold o9;cases hj:ix[j]? with
 |some i=>
  have hi:i < A.length:=qj i (ey hj);simp only;unfold jK;rw[bQ (by rw[vI];exact hi),EN,bS hi];simp only[eH,fK,yF hn hj,h]
 |none=>
  have dE:ix.length<=j:=by
   rcases ft j ix.length with h1|h1
   ·rw[bS h1]at hj;cases hj
   ·exact h1
  simp only;unfold jK;rw[dX (by rw[vI];omega),vI,tB,show ix.length + (A.length + (j - ix.length) - A.length)=j by omega];exact h
theorem ah2 {α:Type}{ix:List Nat}{A A2:List α}{k:Nat}{y:α}(hp:pos ix 0 k=none)(h:A[k]? =some y):(jK ix A A2)[k]? =some y:=by
 have hk:=(aQ.1 h).1;unfold jK;rw[bQ (by rw[vI];exact hk),EN,h];simp only[eH,fK,hp]
def xG (nb:Nat)(jx:List Nat)(d:D):D:=match d with
 | .own r=>bif (pos jx 0 r).isNone then .own r else .undef
 |d=>iJ nb d
def iU (nb:Nat)(jx:List Nat):Bx->Bx
 | .mu cs=> .mu (cs.map (xG nb jx))
 |x=>x
theorem aiW (nb:Nat)(jx:List Nat)(x:Bx):(iU nb jx x).live=x.live:=by cases x<;>rfl
section
variable {c:Ctx} {s:St} {a:Act} {w:World} {g:Gh}
def jP (ix jx:List Nat)(g:Gh):Gh:=⟨g.S,ix.map λi=>g.β.getD i 0,jx.map λi=>g.ρ.getD i undef,g.M⟩
theorem Kt {ix jx:List Nat}{g:Gh}(i j b:Nat)(h:pos ix 0 i=some j)(hb:g.β[i]? =some b):(jP ix jx g).β[j]? =some b:=by
 have:=(De h).2;simp only[su]at this;show(ix.map λi=>g.β.getD i 0)[j]? =some b;rw[cO,this];simp[hb]
theorem Qf {ix jx:List Nat}{g:Gh}(i j:Nat)(b:Value)(h:pos jx 0 i=some j)(hb:g.ρ[i]? =some b):(jP ix jx g).ρ[j]? =some b:=by
 have:=(De h).2;simp only[su]at this;show(jx.map λi=>g.ρ.getD i undef)[j]? =some b;rw[cO,this];simp[hb]
theorem CX {ix jx:List Nat}{g:Gh}{j i b:Nat}(h:ix[j]? =some i)(hb:g.β[i]? =some b):(jP ix jx g).β[j]? =some b:=by
 show(ix.map λi=>g.β.getD i 0)[j]? =some b;rw[cO,h];simp[hb]
theorem Qg {ix jx:List Nat}{g:Gh}{j i:Nat}{b:Value}(h:jx[j]? =some i)(hb:g.ρ[i]? =some b):(jP ix jx g).ρ[j]? =some b:=by
 show(jx.map λi=>g.ρ.getD i undef)[j]? =some b;rw[cO,h];simp[hb]
end
theorem Hc {α β:Type}{f:α->β}{ix:List Nat}{A:List α}{j:Nat}{y:β}(hi:∀i∈ix,i < A.length)(h:((nI ix A).map f)[j]? =some y):∃i x,ix[j]? =some i/\A[i]? =some x/\y=f x:=by
 rw[cO,cv]at h;obtain⟨x,hx,rfl⟩:=h;obtain⟨i,h1,h2⟩:=CW hi hx;exact⟨i,x,h1,h2,rfl⟩
def FV (P:Program)(φ:List Nat->Prop)(f:FuncId)(ds:List D)(bx:List Bx)(rw:List Row)(K:D->List Bx->List Row->Prop):Prop:=
 (∀(args:Array Value) (w:World),(callFunc f args).run P w= .ok (.enter f args) w)/\
 ∀(c:Ctx) (st:St) (a:Act) (W:World) (g:Gh) (args:List Value),c.P=P->RG c st a W g->φ g.β->st.bx=bx->st.rw=rw->args.length=ds.length->(∀q x,ds[q]? =some x->Rel W g (args.getD q bp) x)->
  Calls P f args.toArray W λe W'=>∃v d s2 a2 g2,e= .returned v/\RG (inner c W g) s2 a2 W' g2/\Rel W' g2 v d/\K d s2.bx s2.rw
section
variable {P:Program} {f:FuncId} {ds:List D} {bx:List Bx} {rw:List Row} {K:D->List Bx->List Row->Prop}
theorem FV.uw {φ φ2:List Nat->Prop}(h:FV P φ f ds bx rw K)(ix jx:List Nat){bR:List D}{B:List Bx}{RW:List Row}(hn:ix.Nodup)(y9:jx.Nodup)(qj:∀i∈ix,i < B.length)(xj:∀i∈jx,i < RW.length)(fQ:(nI ix B).map (dZ (pos ix 0) (pos jx 0))=bx)(DT:nI jx RW=rw)(kW:bR.map (D.rn (pos ix 0) (pos jx 0))=ds)
  (hφ:∀β,φ2 β->φ (ix.map λi=>β.getD i 0))(EF:∀d aB aD,K d aB aD->jx.length<=aD.length):
  FV P φ2 f bR B RW (λd' B' Ce=>∃d aB aD,K d aB aD/\ix.length<=aB.length/\d'=d.rn (up ix B.length) (up jx RW.length)/\B'=jK ix (B.map (iU B.length jx)) (aB.map (dZ (up ix B.length) (up jx RW.length)))/\Ce=jK jx RW aD):=by
 refine⟨h.1,λc st a W g args hP hg afH hB ml hl bw=> ?_⟩;subst hB;subst ml
 obtain⟨p,hp⟩:∃p:Nat->Prop,p=λb=>(∃(i:Nat) (x:Bx),pos ix 0 i=none/\st.bx[i]? =some x/\x.live=true/\g.β[i]? =some b)\/(∃(r:Nat) (row:Row) (v:Value),pos jx 0 r=none/\st.rw[r]? =some row/\row.live=true/\g.ρ[r]? =some v/\v.ownBlock=some b):=⟨_,rfl⟩;obtain⟨κ,k1,k2⟩:=hg.ap;have Ee:=hg.zz (a':={a with defers:=[]}) (n:=st.n) (sl:=λ_=> .undef) rfl hg.sz (λm=> .undef _ _);obtain⟨c1,vB⟩:∃c1:Ctx,c1=⟨c.P,W,g.S,g.M,none,λb=>W.heap.size<=b\/(c.own b/\dp W b/\¬p b),(jP ix jx g).β⟩:=⟨_,rfl⟩;have L4:∀(j i b:Nat),ix[j]? =some i->g.β[i]? =some b->∀x:Bx,st.bx[i]? =some x->x.live=true->¬p b:=λj i b hj hb x hx hlx lQ=>by
  have e1:=k1 i x b hx hlx hb;rw[hp]at lQ;rcases lQ with⟨i',x',h1,h2,h3,h4⟩|⟨r,row,v,h1,h2,h3,h4,h5⟩
  ·have e2:=k1 i' x' b h2 h3 h4;rw[e1]at e2;injection e2 with e2;subst e2;rw[yF hn hj]at h1;cases h1
  ·have e2:=k2 r row v b h2 h3 h4 h5;rw[e1]at e2;cases e2
 have afY:∀(j r b:Nat) (v:Value),jx[j]? =some r->g.ρ[r]? =some v->∀row:Row,st.rw[r]? =some row->row.live=true->v.ownBlock=some b->¬p b:=λj r b v hj hv row gO za hb lQ=>by
  have e1:=k2 r row v b gO za hv hb;rw[hp]at lQ;rcases lQ with⟨i',x',h1,h2,h3,h4⟩|⟨r',ab1,v',h1,h2,h3,h4,h5⟩
  ·have e2:=k1 i' x' b h2 h3 h4;rw[e1]at e2;cases e2
  ·have e2:=k2 r' ab1 v' b h2 h3 h4 h5;rw[e1]at e2;injection e2 with e2;subst e2;rw[yF y9 hj]at h1;cases h1
 have aK:RG c1 ⟨st.n,λ_=> .undef,bx,rw⟩ {a with defers:=[]} W (jP ix jx g):=by
  have jU:∀{v:Value} {d:D},Rel W g v d->Rel W (jP ix jx g) v (d.rn (pos ix 0) (pos jx 0)):=λhr=>hr.rn rfl rfl (λi j b=>Kt i j b) (λi j b=>Qf i j b);have xb:∀{v:Value} {d:D},Rel W g.mg v d->Rel W (jP ix jx g).mg v (d.rn (pos ix 0) (pos jx 0)):=λhr=>hr.rn rfl rfl (λi j b h hb=>Kt (jx:=jx) (g:=g) i j b h hb) (λi j b _ hb=>by simp[Gh.mg]at hb);subst vB;rw[<-fQ,<-DT];refine⟨⟨⟨uK,λd hd=>by cases hd⟩,hg.df.bO,λ_ _ h=>h,λ_ _ h=> .inl h,λ_ _ h=>h,λ_ _=>rfl,hg.df.fD.own hg.below hg.df.bO (λb hb=>hb.elim .inl λh1=> .inr (.inl h1.1))⟩,hg.sz, .of (Below.refl _ _),λ_ h=> .inl h,hg.ba,λ_ h=> .inl h,λ_ h=>h,hg.ba,by simp[jP,CV qj],by simp[jP,CV xj],λm=> .undef _ _,λj cs hj=> ?_,λj cs hj=> ?_,λr row hr=> ?_, ?_,λj es hj=> ?_⟩
  ·obtain⟨i,x,hi,hx,e⟩:=Hc qj hj;obtain⟨iy,rfl,rfl⟩:=Qy e.symm;obtain⟨b,vs,t,e1,e2,e3,e4,e5,e6⟩:=(hg.bx i iy hx).ex;refine⟨b,vs,t,CX hi e1,e2,⟨by rw[yz];exact e3.1,λq d hd=> ?_⟩, .inr ⟨e4, .inl ⟨_,_,_,e2⟩,L4 j i b hi e1 _ hx rfl⟩,e5,(λhh=>by cases hh)⟩;obtain⟨y,hy,rfl⟩:=AB hd;exact⟨jU (e3.2 q y hy).1,(e3.2 q y hy).2⟩
  ·obtain⟨i,x,hi,hx,e⟩:=Hc qj hj;obtain rfl:=QB e.symm;obtain⟨b,vs,t,e1,e2,e3,e4,e5,e6⟩:=(hg.fz i cs hx).ex;exact⟨b,vs,t,CX hi e1,e2,e3, .inr ⟨e4, .inl ⟨_,_,_,e2⟩,L4 j i b hi e1 _ hx rfl⟩,e5,e6⟩
  ·obtain⟨i,hi,hx⟩:=CW xj hr;obtain⟨v,e1,e2,e3⟩:=(hg.rw i row hx).ex;refine⟨v,Qg hi e1,jU e2,λhl=> ?_⟩;obtain⟨h1,h2,h3⟩:=e3 hl;refine⟨h1,h2,λgb aI=>⟨.inr ⟨(h3 gb aI).1, ?_,afY r i gb v hi e1 row hx hl aI⟩,(h3 gb aI).2⟩⟩;obtain⟨vals,bI⟩:=h1;rcases bI.2 with⟨rfl,_⟩|⟨g2,cap,cur,rfl,_,fH,_⟩
   ·simp[je]at aI
   ·simp[je]at aI;subst aI;exact .inl ⟨_,_,_,fH⟩
  ·refine⟨λb=>match κ b with| .inl i=> .inl ((pos ix 0 i).getD 0)| .inr r=> .inr ((pos jx 0 r).getD 0),λj y b hj jr hb=> ?_,λr row v gb hr jr hv aI=> ?_⟩
   ·obtain⟨i,x,hi,hx,rfl⟩:=Hc qj hj;rw[QA]at jr;have hβ:g.β[i]? =some b:=by
     have eg:i < g.β.length:=by rw[hg.lβ];exact(aQ.1 hx).1
     have:(jP ix jx g).β[j]? =some g.β[i]:=CX hi (bS eg);rw[this]at hb;rw[bS eg];exact hb
    simp only[k1 i x b hx jr hβ,yF hn hi,e8,fK]
   ·obtain⟨i,hi,hx⟩:=CW xj hr;have hρ:g.ρ[i]? =some v:=by
     have eg:i < g.ρ.length:=by rw[hg.lρ];exact(aQ.1 hx).1
     have:(jP ix jx g).ρ[r]? =some g.ρ[i]:=Qg hi (bS eg);rw[this]at hv;rw[bS eg];exact hv
    simp only[k2 i row v gb hx jr hρ aI,yF y9 hi,e8,fK]
  ·obtain⟨i,x,hi,hx,e⟩:=Hc qj hj;obtain⟨mC,rfl,rfl⟩:=Qz e.symm;obtain⟨b,d_⟩:=hg.mp i mC hx;obtain⟨ms,cl,g1,g2,g3⟩:=d_.ex;refine⟨b,CX hi d_.β,⟨ms,cl,g1,by rw[iB];exact g2,λq p m hp hq=> ?_⟩,d_.nm, .inr ⟨d_.own,d_.Ea,L4 j i b hi d_.β _ hx rfl⟩,d_.lU⟩;rw[cO,cv]at hp;obtain⟨p0,jF,rfl⟩:=hp;exact⟨xb (g3 q p0 m jF hq).1,xb (g3 q p0 m jF hq).2⟩
 have af6:∀q x,ds[q]? =some x->Rel W (jP ix jx g) (args.getD q bp) x:=λq x hx=>by
  rw[<-kW,cO,cv]at hx;obtain⟨y,hy,rfl⟩:=hx;exact(bw q y hy).rn rfl rfl (λi j b=>Kt i j b) (λi j b=>Qf i j b)
 have bf:=h.2 c1 _ _ W (jP ix jx g) args (by rw[vB];exact hP) aK (hφ _ afH) rfl rfl (by rw[hl,<-kW,iB]) af6;refine bf.mono ?_;rintro e W' ⟨v,d,s2,a2,g2,rfl,h2,hv,hk⟩;have hW:W.heap.size<=W'.heap.size:=h2.below.size;have Bq:∀(i b:Nat),(jP ix jx g).β[i]? =some b->g2.β[i]? =some b:=λi b hb=>h2.df.gD i b hb;have hlen:ix.length<=s2.bx.length:=by
  rw[<-h2.lβ];rcases ft g2.β.length ix.length with h3|h3
  ·have hx:(jP ix jx g).β[g2.β.length]? =some ((jP ix jx g).β[g2.β.length]'(by simp[jP];omega)):=bS _
   have:=Bq _ _ hx;simp at this
  ·exact h3
 have T7:jx.length<=s2.rw.length:=EF _ _ _ hk;have bI:∀b,(inner c1 W (jP ix jx g)).own b->W.heap.size<=b\/(c.own b/\dp W b/\¬p b):=λb hb=>by
  rcases hb with hb|⟨hb,_⟩
  ·exact .inl hb
  ·rw[vB]at hb;exact hb
 have vn:∀b,(inner c1 W (jP ix jx g)).own b->(inner c W g).own b:=λb hb=>(bI b hb).elim .inl λh=> .inr ⟨h.1,h.2.1⟩;obtain⟨g3,de⟩:∃g3:Gh,g3=⟨g2.S,g.β++g2.β.drop ix.length,jK jx g.ρ g2.ρ,g2.M⟩:=⟨_,rfl⟩;have qb:∀(i b:Nat),g.β[i]? =some b->g3.β[i]? =some b:=λi b hb=>by
  rw[de];show(g.β++_)[i]? =_;rw[bQ (aQ.1 hb).1];exact hb
 have AU:g.ρ.length=st.rw.length:=hg.lρ;have Tc:g2.ρ.length=s2.rw.length:=h2.lρ;have agt:∀i∈jx,i < g.ρ.length:=λi hi=>by rw[AU];exact xj i hi
 have LJ:∀(i:Nat) (b:Value),pos jx 0 i=none->g.ρ[i]? =some b->g3.ρ[i]? =some b:=λi b hpi hb=>by
  rw[de];exact ah2 hpi hb
 have LZ:∀(j:Nat) (b:Value),g2.ρ[j]? =some b->g3.ρ[o9 jx st.rw.length j]? =some b:=λj b hb=>by
  rw[de,<-AU];exact ah1 y9 agt hb
 have AX:∀(j b:Nat),g2.β[j]? =some b->g3.β[o9 ix st.bx.length j]? =some b:=λj b hb=>by
  unfold o9;cases hj:ix[j]? with
  |some i=>
   simp only;have eg:i < g.β.length:=by rw[hg.lβ];exact qj i (ey hj)
   have h1:=Bq j _ (CX hj (bS eg));rw[hb]at h1;rw[qb i _ (bS eg),h1]
  |none=>
   simp only;have dE:ix.length<=j:=by
    rcases ft j ix.length with h1|h1
    ·rw[bS h1]at hj;cases hj
    ·exact h1
   rw[de];show(g.β++_)[_]? =_;rw[dX (by rw[hg.lβ];omega),hg.lβ,tB];rw[show ix.length + (st.bx.length + (j - ix.length) - st.bx.length)=j by omega];exact hb
 have jU:∀{v:Value} {d:D},Rel W' g2 v d->Rel W' g3 v (d.rn (up ix st.bx.length) (up jx st.rw.length)):=λhr=>hr.rn (by rw[de]) (by rw[de]) (λi j b hi hb=>by
  simp only[up,gE]at hi;subst hi;exact AX i b hb) (λi j b hi hb=>by
  simp only[up,gE]at hi;subst hi;exact LZ i b hb)
 have xb:∀{v:Value} {d:D},Rel W' g2.mg v d->Rel W' g3.mg v (d.rn (up ix st.bx.length) (up jx st.rw.length)):=λhr=>hr.rn (by rw[de];rfl) (by rw[de];rfl) (λi j b hi hb=>by
  simp only[up,gE]at hi;subst hi;exact AX i b hb) (λi j b hi hb=>by simp[Gh.mg]at hb)
 have kpR:fL W ⟨g.S,g.β,[],g.M⟩ W' g3:=⟨λx hx=>h2.df.jA x hx,λx hx=>by rw[de];exact h2.S0 x hx,qb,λi b hb=>by simp at hb,λb f hb=>by rw[de];exact h2.df.m0 b f hb⟩;have kpE:fL W g.er W' g3.er:=⟨λx hx=>h2.df.jA x hx,λx hx=>by rw[de];exact h2.S0 x hx,λi b hb=>by simp[Gh.er]at hb,λi b hb=>by simp[Gh.er]at hb,λb f hb=>by rw[de];exact h2.df.m0 b f hb⟩;have Sz:fL W g.mg W' g3.mg:=⟨λx hx=>h2.df.jA x hx,λx hx=>by rw[de];exact h2.S0 x hx,qb,λi b hb=>by simp[Gh.mg]at hb,λb f hb=>by rw[de];exact h2.df.m0 b f hb⟩;have Ub:∀{v:Value} {d:D},Rel W g v d->Rel W' g3 v (xG st.bx.length jx d):=λ{v d} hr=>by
  cases d with
  |own r=>
   simp only[xG];cases HD:(pos jx 0 r).isNone with
   |false=>exact .undef _ _
   |true=>
    cases hr with
    |own _ _ _ hv=>
     exact .own _ _ _ (LJ r _ (by simpa using HD) hv)
  |_=>exact(Names.acq (Iu hr) (EP _ _)).aZ kpR
 have DQ:∀b o,p b->W.heap[b]? =some o->(dp W b)->W'.heap[b]? =some o/\∀x,g2.S x->g.S x\/x.block≠b:=λb o lQ ho hh=>by
  have vE:b < W.heap.size:=(bt.1 ho).1;have ga:¬(inner c1 W (jP ix jx g)).own b:=λhb=>(bI b hb).elim (λh=>by omega) (λh=>h.2.2 lQ);have hM:g.M b=none:=by
   cases hm:g.M b with
   |none=>rfl
   |some f=>
    exfalso;rw[hp]at lQ;rcases lQ with⟨i,x,h1,hx,h3,h4⟩|⟨r,row,v,h1,hx,h3,h4,h5⟩
    ·cases x with
     |dead=>cases h3
     |mu cs=>
      obtain⟨b',vs,t,e1,e2,_⟩:=(hg.bx i cs hx).ex;rw[h4]at e1;cases e1
      rw[hg.df.bO.ve e2]at hm;cases hm
     |fz cs=>
      obtain⟨b',vs,t,e1,e2,_⟩:=(hg.fz i cs hx).ex;rw[h4]at e1;cases e1
      rw[hg.df.bO.ve e2]at hm;cases hm
     |mp es=>
      obtain⟨b',d_⟩:=hg.mp i es hx;have:=d_.β;rw[h4]at this;cases this
      rw[d_.nm]at hm;cases hm
    ·obtain⟨v',e1,e2,e3⟩:=(hg.rw r row hx).ex;rw[h4]at e1;cases e1
     obtain⟨⟨vals,mY⟩,_,_⟩:=e3 h3;rcases mY.2 with⟨rfl,_⟩|⟨g2,cap,cur,rfl,_,fH,_⟩
     ·simp[je]at h5
     ·simp[je]at h5;subst h5;rw[hg.df.bO.ve fH]at hm;cases hm
  refine⟨(h2.below.block b vE (λhm=> ?_)).trans ho,λx hx=> ?_⟩
  ·rcases hm with hm|hm
   ·exact ga hm
   ·exact hm hM
  ·rcases h2.en x hx with h1|h1
   ·exact .inl h1
   ·exact .inr (λe=>ga (e▸h1))
 have rT:∀(i:Nat) (x:Bx) (b:Nat),pos ix 0 i=none->st.bx[i]? =some x->x.live=true->g.β[i]? =some b->p b:=λi x b h1 h2 h3 h4=>by rw[hp];exact .inl ⟨i,x,h1,h2,h3,h4⟩
 have HD:∀(r:Nat) (row:Row) (v:Value) (b:Nat),pos jx 0 r=none->st.rw[r]? =some row->row.live=true->g.ρ[r]? =some v->v.ownBlock=some b->p b:=λr row v b h1 h2 h3 h4 h5=>by rw[hp];exact .inr ⟨r,row,v,h1,h2,h3,h4,h5⟩
 have af_:∀b,p b->b < W.heap.size:=λb lQ=>by
  rw[hp]at lQ;rcases lQ with⟨i,x,q1,q2,q3,q4⟩|⟨r,row,v,q1,q2,q3,q4,q5⟩
  ·exact(hg.rk q2 q3 q4).1
  ·exact(hg.pU q2 q3 q4 q5).1
 have TN:∀b,(inner c1 W (jP ix jx g)).own b->¬p b:=λb ho lQ=>by
  rcases bI b ho with h3|h3
  ·have:=af_ b lQ;omega
  ·exact h3.2.2 lQ
 refine⟨v,d.rn (up ix st.bx.length) (up jx st.rw.length),⟨s2.n,λ_=> .undef,jK ix (st.bx.map (iU st.bx.length jx)) (s2.bx.map (dZ (up ix st.bx.length) (up jx st.rw.length))),jK jx st.rw s2.rw⟩,{a2 with defers:=[]},g3,rfl, ?_,jU hv,d,s2.bx,s2.rw,hk,hlen,rfl,rfl,rfl⟩;have Bf:∀{k:Nat} {y:Bx},(jK ix (st.bx.map (iU st.bx.length jx)) (s2.bx.map (dZ (up ix st.bx.length) (up jx st.rw.length))))[k]? =some y->(pos ix 0 k=none/\k < st.bx.length/\∃x,st.bx[k]? =some x/\y=iU st.bx.length jx x)\/(∃j z,s2.bx[j]? =some z/\y=dZ (up ix st.bx.length) (up jx st.rw.length) z/\k=o9 ix st.bx.length j):=λ{k y} hk=>by
  rcases Np (by simpa using hlen) hk with⟨h1,h2⟩|⟨j,h1,h2⟩
  ·rw[cO,cv]at h2;obtain⟨x,hx,rfl⟩:=h2;exact .inl ⟨h1,(aQ.1 hx).1,x,hx,rfl⟩
  ·rw[cO,cv]at h1;obtain⟨z,hz,rfl⟩:=h1;exact .inr ⟨j,z,hz,rfl,by rw[h2,iB]⟩
 refine⟨⟨⟨uK,λd hd=>by cases hd⟩, ?_,λb f hb=> ?_,λb f hb=> ?_,λi b hb=>qb i b hb,λx hx=>h2.df.jA x hx,Ee.df.fD⟩,h2.sz,
  ⟨h2.below.os,h2.below.tape,h2.below.output,h2.below.size,λk hk hn=>h2.below.block k hk (λhm=>hn ?_)⟩,λb hb=> .inl hb, ?_,λx hx=> ?_,λx hx=> ?_,hg.ba, ?_, ?_,λm=> .undef _ _,λk cs hk=> ?_,λk cs hk=> ?_,λr row hr=> ?_, ?_,λk es hk=> ?_⟩
 ·rw[de];exact h2.df.bO
 ·rw[de];exact h2.df.m0 b f hb
 ·rw[de]at hb;rcases h2.df.gw b f hb with h3|h3
  ·exact .inl h3
  ·exact .inr h3
 ·rcases hm with hm|hm
  ·exact .inl (vn k hm)
  ·exact .inr hm
 ·rw[de];exact h2.ba
 ·rw[de]at hx;rcases h2.en x hx with h3|h3
  ·exact .inl h3
  ·exact .inr (vn _ h3)
 ·rw[de];exact h2.S0 x hx
 ·rw[de];show(g.β++g2.β.drop ix.length).length=_;simp only[No,eQ,iB,List.length_drop,h2.lβ,hg.lβ]
 ·rw[de];show(jK jx g.ρ g2.ρ).length=(jK jx st.rw s2.rw).length;rw[No,No,AU,Tc]
 ·rcases Bf hk with⟨qW,kv,x,hx,e⟩|⟨j,z,hz,e,jH⟩
  ·cases x with
   |mu iy=>
    simp only[iU,Bx.mu.injEq]at e;subst e;obtain⟨b,vs,t,e1,e2,e3,e4,e5,e6⟩:=(hg.bx k iy hx).ex;obtain⟨s1,s3⟩:=DQ b _ (rT k _ b qW hx rfl e1) e2 (.inl ⟨_,_,_,e2⟩);refine⟨b,vs,t,qb k b e1,s1,⟨by rw[iB];exact e3.1,λq d hd=> ?_⟩, .inr ⟨e4, .inl ⟨_,_,_,e2⟩⟩,λ_ x hx=> ?_,(λhh=>by cases hh)⟩
    ·rw[cO,cv]at hd;obtain⟨y,hy,rfl⟩:=hd;exact⟨Ub (e3.2 q y hy).1,(e3.2 q y hy).2⟩
    ·rw[de]at hx;exact(s3 x hx).elim (e5 rfl x) id
   |_=>simp only[iU]at e;cases e
  ·obtain⟨iy,rfl,rfl⟩:=Qy e.symm;obtain⟨b,vs,t,e1,e2,e3,e4,e5,e6⟩:=(h2.bx j iy hz).ex;refine⟨b,vs,t,by rw[jH];exact AX j b e1,e2,⟨by rw[yz];exact e3.1,λq d hd=> ?_⟩,vn b e4,by rw[de];exact e5,(λhh=>by cases hh)⟩;obtain⟨y,hy,rfl⟩:=AB hd;exact⟨jU (e3.2 q y hy).1,(e3.2 q y hy).2⟩
 ·rcases Bf hk with⟨qW,kv,x,hx,e⟩|⟨j,z,hz,e,jH⟩
  ·cases x with
   |fz iy=>
    simp only[iU,Bx.fz.injEq]at e;subst e;obtain⟨b,vs,t,e1,e2,e3,e4,e5,e6⟩:=(hg.fz k cs hx).ex;obtain⟨s1,s3⟩:=DQ b _ (rT k _ b qW hx rfl e1) e2 (.inl ⟨_,_,_,e2⟩);refine⟨b,vs,t,qb k b e1,s1,e3.aZ kpE, .inr ⟨e4, .inl ⟨_,_,_,e2⟩⟩,(λhh=>by cases hh),λ_ q hq=> ?_⟩;rw[de];exact h2.S0 _ (e6 rfl q hq)
   |_=>simp only[iU]at e;cases e
  ·obtain rfl:=QB e.symm;obtain⟨b,vs,t,e1,e2,e3,e4,e5,e6⟩:=(h2.fz j cs hz).ex;refine⟨b,vs,t,by rw[jH];exact AX j b e1,e2, ?_,vn b e4,(λhh=>by cases hh),by rw[de];exact e6⟩;have:g3.er=g2.er:=by rw[de];rfl
   show fZ W' g3.er vs cs;rw[this];exact e3
 ·rcases Np T7 hr with⟨qW,hx⟩|⟨j,hx,ui⟩
  ·obtain⟨v',e1,e2,e3⟩:=(hg.rw r row hx).ex;refine⟨v',LJ r v' qW e1, ?_,λjr=> ?_⟩
   ·have:=Ub e2;simpa[xG,iJ,cq]using this
   ·obtain⟨⟨vals,h4⟩,h5,h6⟩:=e3 jr;have Tz:∀gb,v'.ownBlock=some gb->p gb:=λgb aI=>HD r row v' gb qW hx jr e1 aI;refine⟨⟨vals,h4.1,h4.2.imp id ?_⟩,h5,λgb aI=> ?_⟩
    ·rintro⟨g4,cap,cur,rfl,q1,q2,q3⟩;exact⟨g4,cap,cur,rfl,q1,(DQ g4 _ (Tz g4 rfl) q2 (.inl ⟨_,_,_,q2⟩)).1,q3⟩
    ·have eX:∃cs t fz,W.heap[gb]? =some (.cells cs t fz):=by
      rcases h4.2 with⟨rfl,_⟩|⟨g4,cap,cur,rfl,_,fH,_⟩
      ·simp[je]at aI
      ·simp[je]at aI;subst aI;exact⟨_,_,_,fH⟩
     obtain⟨cs4,t4,fz4,q5⟩:=eX;obtain⟨s1,s3⟩:=DQ gb _ (Tz gb aI) q5 (.inl ⟨_,_,_,q5⟩);refine⟨.inr ⟨(h6 gb aI).1, .inl ⟨_,_,_,q5⟩⟩,λx hx hb=> ?_⟩;rw[de]at hx;exact(s3 x hx).elim (λh=>(h6 gb aI).2 x h hb) (λh=>absurd hb h)
  ·obtain⟨v',e1,e2,e3⟩:=(h2.rw j row hx).ex;refine⟨v',by rw[ui];exact LZ j v' e1, ?_,λjr=> ?_⟩
   ·exact jU e2
   ·obtain⟨h4,h5,h6⟩:=e3 jr;exact⟨h4,h5,λgb aI=>⟨vn gb (h6 gb aI).1,by rw[de];exact(h6 gb aI).2⟩⟩
 ·obtain⟨κ2,l1,l2⟩:=h2.ap
  classical
  refine⟨λb=>if p b then κ b else match κ2 b with| .inl j=> .inl (o9 ix st.bx.length j)| .inr r=> .inr (o9 jx st.rw.length r),λk y b hk jr hb=> ?_,λr row v' gb hr jr n4 aI=> ?_⟩
  ·rcases Bf hk with⟨qW,kv,x,hx,rfl⟩|⟨j,z,hz,rfl,jH⟩
   ·rw[aiW]at jr;have Ua:k < g.β.length:=by rw[hg.lβ];exact kv
    have gz:g.β[k]? =some b:=by
     have:=qb k _ (bS Ua);rw[this]at hb;rw[bS Ua];exact hb
    simp only[rT k x b qW hx jr gz,if_true];exact k1 k x b hx jr gz
   ·rw[QA]at jr;have Ud:j < g2.β.length:=by rw[h2.lβ];exact(aQ.1 hz).1
    have gz:g2.β[j]? =some b:=by
     have:=AX j _ (bS Ud);rw[<-jH,hb]at this;rw[bS Ud];exact this.symm
    have L9:¬p b:=TN b (h2.rk hz jr gz).2;simp only[L9,if_false,l1 j z b hz jr gz,jH]
  ·rcases Np T7 hr with⟨qW,hx⟩|⟨j,hx,ui⟩
   ·have rR:r < g.ρ.length:=by rw[AU];exact(aQ.1 hx).1
    have LY:g.ρ[r]? =some v':=by
     have:=LJ r _ qW (bS rR);rw[this]at n4;rw[bS rR];exact n4
    simp only[HD r row v' gb qW hx jr LY aI,if_true];exact k2 r row v' gb hx jr LY aI
   ·have dE:j < g2.ρ.length:=by rw[Tc];exact(aQ.1 hx).1
    have ku:g2.ρ[j]? =some v':=by
     have:=LZ j _ (bS dE);rw[<-ui,n4]at this;rw[bS dE];exact this.symm
    have L9:¬p gb:=TN gb (h2.pU hx jr ku aI).2;simp only[L9,if_false,l2 j row v' gb hx jr ku aI,ui]
 ·rcases Bf hk with⟨qW,kv,x,hx,e⟩|⟨j,z,hz,e,jH⟩
  ·cases x with
   |mp mC=>
    simp only[iU,Bx.mp.injEq]at e;subst e;obtain⟨b,d_⟩:=hg.mp k es hx;obtain⟨ms,cl,q1,q2,q3⟩:=d_.ex;obtain⟨s1,s3⟩:=DQ b _ (rT k _ b qW hx rfl d_.β) q1 d_.Ea;have hM2:g3.M b=none:=by
     rw[de];cases hm:g2.M b with
     |none=>rfl
     |some f=>
      rcases h2.df.gw b f hm with h3|h3
      ·rw[show(inner c1 W (jP ix jx g)).M0=g.M from rfl,d_.nm]at h3;cases h3
      ·exact absurd (show W.heap.size<=b from h3) (xW d_.lt)
    refine⟨b,qb k b d_.β,⟨ms,cl,s1,q2,λq p m hp hq=>⟨(q3 q p m hp hq).1.aZ Sz,(q3 q p m hp hq).2.aZ Sz⟩⟩,hM2, .inr ⟨d_.own,d_.Ea⟩,λkq jb hh=> ?_⟩;rw[s1]at hh;cases hh
    exact d_.lU ms cl q1
   |_=>simp only[iU]at e;cases e
  ·obtain⟨mC,rfl,rfl⟩:=Qz e.symm;obtain⟨b,d_⟩:=h2.mp j mC hz;obtain⟨ms,cl,q1,q2,q3⟩:=d_.ex;refine⟨b,by rw[jH];exact AX j b d_.β,⟨ms,cl,q1,by rw[iB];exact q2,λq p m hp hq=> ?_⟩,by rw[de];exact d_.nm,vn b d_.own,d_.lU⟩;rw[cO,cv]at hp;obtain⟨p0,jF,rfl⟩:=hp;exact⟨xb (q3 q p0 m jF hq).1,xb (q3 q p0 m jF hq).2⟩
theorem aH.uw (h:aH P f ds bx rw K)(ix jx:List Nat){bR:List D}{B:List Bx}{RW:List Row}(hn:ix.Nodup)(y9:jx.Nodup)(qj:∀i∈ix,i < B.length)(xj:∀i∈jx,i < RW.length)(fQ:(nI ix B).map (dZ (pos ix 0) (pos jx 0))=bx)(DT:nI jx RW=rw)(kW:bR.map (D.rn (pos ix 0) (pos jx 0))=ds)
  (EF:∀d aB aD,K d aB aD->jx.length<=aD.length):
  aH P f bR B RW (λd' B' Ce=>∃d aB aD,K d aB aD/\ix.length<=aB.length/\d'=d.rn (up ix B.length) (up jx RW.length)/\B'=jK ix (B.map (iU B.length jx)) (aB.map (dZ (up ix B.length) (up jx RW.length)))/\Ce=jK jx RW aD):=by
 have h1:FV P (λ_=>True) f ds bx rw K:=⟨h.1,λc st a W g args hP hg _=>h.2 c st a W g args hP hg⟩;have h2:=h1.uw (φ2:=λ_=>True) ix jx hn y9 qj xj fQ DT kW (λ_ _=>trivial) EF;exact⟨h2.1,λc st a W g args hP hg=>h2.2 c st a W g args hP hg trivial⟩
end
attribute[go_sem] D.rn nK dZ nI xG iU jK vJ
end Go.Ab
end
section
namespace Go.Ab
open Go.RowKit
def cY (P:Program)(k m:Nat)(f:FuncId)(ds:List D)(bx:List Bx)(rw:List Row)(K:D->List Bx->List Row->Prop):Prop:=
 (∀(args:Array Value) (w:World),(callFunc f args).run P w= .ok (.enter f args) w)/\
 ∀(c:Ctx) (st:St) (a:Act) (W:World) (g:Gh) (args:List Value),c.P=P->RG c st a W g->g.β[k]? =some m->st.bx=bx->st.rw=rw->args.length=ds.length->(∀q x,ds[q]? =some x->Rel W g (args.getD q bp) x)->
  Calls P f args.toArray W λe W'=>∃v d s2 a2 g2,e= .returned v/\RG (inner c W g) s2 a2 W' g2/\Rel W' g2 v d/\K d s2.bx s2.rw
theorem aH.tie {P:Program}{f:FuncId}{ds:List D}{bx:List Bx}{rw:List Row}{K:D->List Bx->List Row->Prop}(k m:Nat)(h:aH P f ds bx rw K):cY P k m f ds bx rw K:=
 ⟨h.1,λc st a W g args hP hg _ hb hr hl bw=>h.2 c st a W g args hP hg hb hr hl bw⟩
theorem cY.mono {P:Program}{k m:Nat}{f:FuncId}{ds:List D}{bx:List Bx}{rw:List Row}{K K':D->List Bx->List Row->Prop}(h:cY P k m f ds bx rw K)(hk:∀d aB aD,K d aB aD->K' d aB aD):cY P k m f ds bx rw K':=by
 refine⟨h.1,λc st a W g args hP hg ht hb hr hl bw=>(h.2 c st a W g args hP hg ht hb hr hl bw).mono ?_⟩;rintro e w' ⟨v,d,s2,a2,g2,h1,h2,h3,h4⟩;exact⟨v,d,s2,a2,g2,h1,h2,h3,hk _ _ _ h4⟩
theorem xJ {P:Program}{k m:Nat}{f:FuncId}{fn:Func}{code:Code}{ds:List D}{bx:List Bx}{rw:List Row}{K:D->List Bx->List Row->Prop}{n:Nat}{rs:Array ResultVar}(hf:P.funcs[f]? =some fn)(hn:fn.ntmps=n)(hr:fn.results=rs)
  (hc:∀(args:Array Value) (w:World),(callFunc f args).run P w= .ok (.enter f args) w)(hb:fn.body=some code)(hl:ds.length<=n)
  (h:∀(w0:World) (S0:Addr->Prop) (M0:MM) (own:Nat->Prop) (β:List Nat),β.length=bx.length->β[k]? =some m->av ⟨P,w0,S0,M0,none,own,β⟩ code (cC P rs K) ⟨n,kQ 0 ds,bx,rw⟩):cY P k m f ds bx rw K:=by
 subst hn;subst hr
 refine⟨hc,λc st a W g args hP hg ht fQ ml T8 bw=> ?_⟩;subst hP;subst fQ;subst ml
 refine(callsIn_wide (n:=0)).1 (callsIn_of_wp_marks hf hb trivial ?_);have lu:RG (inner c W g) ⟨fn.ntmps,kQ 0 ds,st.bx,st.rw⟩ {tmps:=args.toArray++gW (fn.ntmps - args.toArray.size) undef,defers:=[]} W g:=hg.zz rfl (by simp;omega) (λm=>by
  simp only;rw[tU];simp only[dF,if_false,su];cases hd:ds[m]? with
  |none=>exact .undef _ _
  |some x=>
   have hm:=(aQ.1 hd).1;have:=bw m x hd;have e:(args.toArray++gW (fn.ntmps - args.toArray.size) undef).getD m undef=args.getD m undef:=by
    have:m < args.length:=ae;simp[yi,this]
   rw[e];exact this)
 have hw:=h W g.S g.M (λb=>W.heap.size<=b\/(c.own b/\dp W b)) g.β hg.lβ ht _ W ⟨g,lu⟩;refine wpIn_mono (F:=cE) hw ?_;rintro e a' w' ⟨s',⟨g',gQ⟩,hq⟩;exact Ky gQ hq (λv w2 d h2 hv hk=>⟨v,d,s',_,g',rfl,h2,hv,hk⟩)
theorem akA {P:Program}{k m:Nat}{f:FuncId}{ds:List D}{bx:List Bx}{rw:List Row}{K K':D->List Bx->List Row->Prop}(h:cY P k m f ds bx rw K)
  (hk:∀d aB aD,K d aB aD->∃jc tl k_ tr,aB=jc++tl/\aD=k_++tr/\Names jc.length k_.length d/\a7 jc.length k_.length jc=true/\bx.length<=jc.length/\K' d jc k_):cY P k m f ds bx rw K':=by
 refine⟨h.1,λc st a W g args hP hg ht hb hr hl bw=>(h.2 c st a W g args hP hg ht hb hr hl bw).mono ?_⟩;rintro e w' ⟨v,d,s2,a2,g2,h1,h2,h3,h4⟩;obtain⟨jc,tl,k_,tr,e1,e2,hn,iZ,hle,hK⟩:=hk _ _ _ h4;have h5:=h2.le (s':=⟨s2.n,dJ,jc,k_⟩) ⟨rfl,λm=> .inl rfl,⟨tl,e1⟩,⟨tr,e2⟩⟩ ⟨λm=> .undef,qP _ iZ⟩ (by show g.β.length<=jc.length;rw[hg.lβ,hb];exact hle);exact⟨v,d,⟨s2.n,dJ,jc,k_⟩,a2,_,h1,h5,h3.cut hn,hK⟩
theorem cY.uw {P:Program}{k k2 m:Nat}{f:FuncId}{ds:List D}{bx:List Bx}{rw:List Row}{K:D->List Bx->List Row->Prop}(h:cY P k m f ds bx rw K)(ix jx:List Nat){bR:List D}{B:List Bx}{RW:List Row}(hk:ix[k]? =some k2)(hn:ix.Nodup)(y9:jx.Nodup)(qj:∀i∈ix,i < B.length)(xj:∀i∈jx,i < RW.length)(fQ:(nI ix B).map (dZ (pos ix 0) (pos jx 0))=bx)(DT:nI jx RW=rw)(kW:bR.map (D.rn (pos ix 0) (pos jx 0))=ds)
  (EF:∀d aB aD,K d aB aD->jx.length<=aD.length):
  cY P k2 m f bR B RW (λd' B' Ce=>∃d aB aD,K d aB aD/\ix.length<=aB.length/\d'=d.rn (up ix B.length) (up jx RW.length)/\B'=jK ix (B.map (iU B.length jx)) (aB.map (dZ (up ix B.length) (up jx RW.length)))/\Ce=jK jx RW aD):=by
 have h1:FV P (λβ=>β[k]? =some m) f ds bx rw K:=h;exact h1.uw (φ2:=λβ=>β[k2]? =some m) ix jx hn y9 qj xj fQ DT kW (λβ hb=>by
  rw[cO,hk];simp[ic,hb]) EF
def IQ (c:Ctx)(k m:Nat)(N:St->Prop)(fx:Operand)(xs:List Operand)(dst:Option Tmp)(s1:St):Prop:=
 c.β0[k]? =some m/\bd s1 dst/\lW (s1.ev fx) λf fs cs=>∃ds,xN s1.bx s1.rw (fs++xs.map s1.ev++cs) ds/\cY c.P k m f ds s1.bx s1.rw λd aB aD=>N (St.put ⟨s1.n,j4 s1.bx.length s1.sl,aB,aD⟩ dst d)
theorem jL {c:Ctx}{k m:Nat}{N:St->Prop}{fx:Operand}{xs:List Operand}{dst:Option Tmp}{s1:St}{f:FuncId}{cs ds:List D}{bx:List Bx}{aD:List Row}{K0:D->List Bx->List Row->Prop}(hβ:c.β0[k]? =some m)(hc:cY c.P k m f ds bx aD K0)(hd:bd s1 dst)
  (hx:s1.ev fx= .ag f cs)(ha:xs.map s1.ev++cs=ds)(hb:s1.bx=bx)(hr:s1.rw=aD)(hk:∀d cH fF,K0 d cH fF->N (St.put ⟨s1.n,j4 bx.length s1.sl,cH,fF⟩ dst d)):IQ c k m N fx xs dst s1:=by
 refine⟨hβ,hd, ?_⟩;rw[hx];refine⟨ds, ?_, ?_⟩
 ·rw[<-ha];exact E7
 ·rw[hb,hr];exact hc.mono hk
section
variable {c:Ctx} {s:St}
theorem aP.K9 {K:St->Prop}{k m:Nat}{fx:Operand}{xs:Array Operand}{dst:Option Tmp}{at_:Array TypeId}{ty:TypeId}{pos:String}{aft:Array Edge}{gd:Option (Nat×Bool)}(h:IQ c k m K fx xs.toList dst s):
  aP c ⟨dst, .call ⟨.value fx,xs,at_⟩,ty,pos,aft,gd⟩ s K:=by
 rintro a1 w1 N' Q' hr hN;obtain⟨y,hy⟩:∃y:Oper,y=⟨dst, .call ⟨.value fx,xs,at_⟩,ty,pos,aft,gd⟩:=⟨_,rfl⟩;rw[<-hy];obtain⟨hβ,hd,hk⟩:=h;obtain⟨g1,aK⟩:=hr;obtain⟨f,fs,cs,⟨vf⟩,⟨vs⟩,⟨ds,hp,hC⟩,hv,xg,hl,yX,hr⟩:=CC (aK.ev fx) hk;have um:vf.length=fs.length:=by simpa using xg
 have lR:vs.length=cs.length:=by simpa using hl
 have aV:(execOp a1.eval y).run c.P w1= .ok (.enter f (vf++xs.toList.map a1.eval++vs).toArray) w1:=by
  simp[execOp,hy,resolve,hv,pN,invoke];rw[hC.1];simp
 obtain⟨e1,e2⟩:=IS aK (vs:=vf++xs.toList.map a1.eval++vs) hp (by simp[um,lR]) (λq y hy=>by
  rw[ic];rw[kK]at hy⊢;rcases ft q fs.length with hq|hq
  ·rw[bQ hq]at hy;rw[bQ ae];have:=yX q y hy;simpa using this
  rw[dX hq]at hy;rw[dX ae,um];rcases ft (q - fs.length) (xs.toList.map s.ev).length with hq|hq
  ·rw[bQ hq]at hy;simp only[cO,cv]at hy;obtain⟨z,hz,rfl⟩:=hy;rw[bQ (by simpa using hq)];simp only[cO,hz,eH,e8];exact aK.ev z
  ·rw[dX hq]at hy;have:=hr _ y hy;rw[dX (by simpa using hq)];simpa using this)
 have fk:RG c ⟨s.n,j4 s.bx.length s.sl,s.bx,s.rw⟩ a1 w1 g1:=⟨aK.df,aK.sz,aK.below,aK.cu,aK.ba,aK.en,aK.S0,aK.fJ,aK.lβ,aK.lρ,λm=>Iu (aK.sl m),aK.bx,aK.fz,aK.rw,aK.ap,aK.mp⟩;have bf:=hC.2 c _ a1 w1 g1 (vf++xs.toList.map a1.eval++vs) rfl fk (aK.df.gD k m hβ) rfl rfl (by simp only[eQ,iB]at e1⊢;omega) e2;refine gK (by rw[hy];intro cl h;cases h) ?_;unfold Oper.wp;rw[aV];refine bf.mono ?_;rintro e w' ⟨v,d,s2,a2,g2,rfl,h2,bw,lp⟩;have hb:=fk.yL h2 (λm=>EP _ _);have lO:y.dst=dst:=by rw[hy]
 show N' (a1.put y.dst v) w';rw[lO];exact hN _ _ _ ⟨_,hb.put hd bw⟩ lp
theorem oL {Q:Exit->St->Prop}(k m:Nat){id:Nat}{l:List Oper}(n:Nat){fx:Operand}{xs:Array Operand}{dst:Option Tmp}{at_:Array TypeId}{ty:TypeId}{pos:String}{aft:Array Edge}
  (hl:l=l.take n++⟨dst, .call ⟨.value fx,xs,at_⟩,ty,pos,aft,none⟩::l.drop (n + 1))
  (h:∀K1:St->Prop,(∀s1,IQ c k m (λs2=>bZ c.P l (l.drop (n + 1)) s2 (λs2=>Q .normal s2)) fx xs.toList dst s1->K1 s1)->bZ c.P l (l.take n) s K1):
  av c (.region id l.toArray false) Q s:=oK n (λN s1=>IQ c k m N fx xs.toList dst s1) (λ_ _ h=>aP.K9 h) hl rfl h
theorem bX.YR {n:Nat}{sl rF:Nat->D}{bx:List Bx}{aD:List Row}(k i m:Nat)(hk:sl k= .val (.map (some m)))(hβ:c.β0[i]? =some m)(h1:rF k= .bu i)(h2:∀q,q≠k->rF q=sl q):bX c ⟨n,sl,bx,aD⟩ ⟨n,rF,bx,aD⟩:=by
 rintro a w ⟨g,hg⟩;refine⟨g,⟨hg.df,hg.sz,hg.below,hg.cu,hg.ba,hg.en,hg.S0,hg.fJ,hg.lβ,hg.lρ,λq=> ?_,hg.bx,hg.fz,hg.rw,hg.ap,hg.mp⟩⟩;show Rel w g _ (rF q);by_cases hq:q=k
 ·subst hq;rw[h1];have:=hg.sl q;rw[show(⟨n,sl,bx,aD⟩:St).sl q=sl q from rfl,hk]at this;generalize a.tmps.getD q undef=v at *;cases this;exact .bu _ _ _ (hg.df.gD i m hβ)
 ·rw[h2 q hq];exact hg.sl q
end
end Go.Ab
end
section
namespace Go.Ab
open Go.RowKit Go
mutual
def gZ (p:eP->Bool):D->Bool
 | .agg cs=>eE p cs
 | .aF cs=>eE p cs
 | .ag _ cs=>eE p cs
 | .cL _ cs=>eE p cs
 | .list cs=>eE p cs
 | .ro cs=>eE p cs
 | .bM f=>p f
 |_=>true
def eE (p:eP->Bool):List D->Bool
 |[]=>true
 |d::ds=>gZ p d&&eE p ds
end
section
variable {p:eP->Bool}
theorem tX:∀{ds:List D},eE p ds=true↔∀d∈ds,gZ p d=true
 |[]=>by simp[eE]
 |d::ds=>by simp[eE,tX (ds:=ds)]
theorem Dj {a b:List D}:eE p (a++b)=(eE p a&&eE p b):=by
 rw[Bool.eq_iff_iff,c_,tX,tX,tX];exact List.forall_mem_append
theorem Lc {xs:List D}(h:eE p xs=true):eE p (flat xs)=true:=by
 rw[tX]at h⊢;intro d hd;obtain⟨x,hx,hd⟩:=List.mem_flatMap.1 hd;have h1:=h x hx;cases x with
 |agg cs=>
  have hd:d∈cs:=hd;exact tX.1 (show eE p cs=true by simpa[gZ]using h1) d hd
 |_=>simp only[D.cells,oQ]at hd;rw[hd];exact h1
theorem tW {ds:List D}(h:eE p ds=true){q:Nat}{d:D}(hq:ds[q]? =some d):gZ p d=true:=tX.1 h d (ey hq)
theorem Rel.CE {w:World}{g:Gh}{v:Value}{d:D}(h:Rel w g v d):gZ p d=true->∀{g':Gh},g'.S=g.S->(∀(i b:Nat),g.β[i]? =some b->g'.β[i]? =some b)->g'.ρ=g.ρ->(∀b f,g.M b=some f->p f=true->g'.M b=some f)->Rel w g' v d:=by
 induction h with
 |undef g v=>intros;exact .undef _ _
 |int g k n=>intros;exact .int _ _ _
 |bool g b=>intros;exact .bool _ _
 |str g s=>intros;exact .str _ _
 |val g v=>intros;exact .val _ _
 |list g A n c xs sz u hn aR eO hm hr ih=>
  intro hp g' eS eβ eρ eM;refine .list _ A n c xs sz u hn aR eO (λq hq=> ?_) (λq d hd=>ih q d hd (tW (Lc (by simpa[gZ]using hp)) hd) eS (λ_ _ h=>h) rfl eM);obtain⟨ad,h1,h2,h3,h4⟩:=hm q hq;exact⟨ad,h1,h2,eS▸h3,h4⟩
 |agg g vs cs hl h1 hr ih=>intro hp g' eS eβ eρ eM;exact .agg _ vs cs hl h1 (λq d hd=>ih q d hd (tW (by simpa[gZ]using hp) hd) eS eβ eρ eM)
 |aF g vs ds hl hr ih=>intro hp g' eS eβ eρ eM;exact .aF _ vs ds hl (λq d hd=>ih q d hd (tW (by simpa[gZ]using hp) hd) eS eβ eρ eM)
 |box g i off b hb=>intro hp g' eS eβ eρ eM;exact .box _ i off b (eβ _ _ hb)
 |ro g a cs u hm hr ih=>
  intro hp g' eS eβ eρ eM;refine .ro _ a cs u (λq hq=> ?_) (λq d hd=>ih q d hd (tW (by simpa[gZ]using hp) hd) eS (λ_ _ h=>h) rfl eM);obtain⟨h1,h2,h3⟩:=hm q hq;exact⟨h1,eS▸h2,h3⟩
 |own g r v h=>intro hp g' eS eβ eρ eM;exact .own _ r v (eρ▸h)
 |ag g f vs cs hl hr ih=>intro hp g' eS eβ eρ eM;exact .ag _ f vs cs hl (λq d hd=>ih q d hd (tW (by simpa[gZ]using hp) hd) eS eβ eρ eM)
 |bM g b f h=>intro hp g' eS eβ eρ eM;exact .bM _ b f (eM _ _ h (by simpa[gZ]using hp))
 |aN g i off n c b hb=>intro hp g' eS eβ eρ eM;exact .aN _ i off n c b (eβ _ _ hb)
 |skp g=>intros;exact .skp _
 |any g v h1=>intros;exact .any _ v h1
 |bu g i b hb=>intro hp g' eS eβ eρ eM;exact .bu _ i b (eβ _ _ hb)
 |cL g f vs cs hl hr ih=>intro hp g' eS eβ eρ eM;exact .cL _ f vs cs hl (λq d hd=>ih q d hd (tW (by simpa[gZ]using hp) hd) eS eβ eρ eM)
def RL (p:eP->Bool):Bx->Bool
 | .mu cs=>eE p cs
 | .fz cs=>eE p cs
 | .mp es=>es.all λe=>gZ p e.1&&gZ p e.2
 | .dead=>true
end
section
variable {c:Ctx} {s:St} {a:Act} {w:World} {g:Gh}
theorem RG.PA {p:eP->Bool}(h:RG c s a w g){r:Nat}{e:TypeId}{A B:List D}{F:eP}(hr:s.rw[r]? =some ⟨true,e,1,A++ .bM F::B⟩)(hka:F.ka=false)(D6:F.n=0)(Up:∀b,c.M0 b≠some F)
  (hF:∀f,p f=true↔f≠F)(hs:∀n,gZ p (s.sl n)=true)(hb:∀x∈s.bx,RL p x=true)(hw:∀(k:Nat) row,k≠r->s.rw[k]? =some row->eE p row.xs=true)(hA:eE p A=true)(hB:eE p B=true):
  ∃m,RG c ⟨s.n,s.sl,s.bx++[.mp []],s.rw.set r ⟨true,e,1,A++ .val (.map (some m))::B⟩⟩ a w ⟨g.S,g.β++[m],g.ρ,λb=>if b=m then none else g.M b⟩:=by
 obtain⟨v,e1,e2,e3⟩:=(h.rw r _ hr).ex;obtain⟨e4,e5,e6⟩:=e3 rfl;have Ns:∀x∈A++D.bM F::B,x.cells.length=1:=e5;have Ut:(flat A).length=A.length:=by
  have:=qq 1 A (λx hx=>Ns x (List.mem_append_left _ hx));omega
 have fv:flat (A++D.bM F::B)=flat A++D.bM F::flat B:=by rw[Io];rfl
 have Uq:∀m:Nat,flat (A++D.val (.map (some m))::B)=flat A++D.val (.map (some m))::flat B:=λm=>by rw[Io];rfl
 obtain⟨m,hm,hM⟩:∃m,(∀(g':Gh),g'.S=g.S->(∀b f,g.M b=some f->p f=true->g'.M b=some f)->Rel w g' v (.list (A++ .val (.map (some m))::B)))/\g.M m=some F:=by
  have e2':Rel w g v (.list (A++D.bM F::B)):=e2;clear e2 e3 e4 e6 h;cases e2' with
  |list _ A0 n c0 _ sz u hn aR hc hm cV=>
   rw[fv]at hm cV;have h1:=cV A.length (.bM F) (by rw[dX ae,Ut,Nat.sub_self];rfl);obtain⟨m,D8,h_⟩:∃m,u A.length= .map (some m)/\g.M m=some F:=by
    generalize hu:u A.length=x at h1;cases h1 with
    |bM _ b _ hb=>exact⟨b,rfl,hb⟩
   refine⟨m,λg' eS eM=> ?_,h_⟩;refine .list _ A0 n c0 _ sz u (by simp at hn⊢;exact hn) (λx hx=> ?_) hc (λq hq=> ?_) (λq d hd=> ?_)
   ·rw[fA,eK]at hx;have ag8:(1:Nat)=sz:=aR (.bM F) aO;rcases hx with hx|rfl|hx
    ·exact aR x (by simp[hx])
    ·exact ag8
    ·exact aR x (by simp[hx])
   ·rw[Uq]at hq;obtain⟨ad,g1,g2,g3,g4⟩:=hm q (by simp at hq⊢;exact hq);exact⟨ad,g1,g2,eS▸g3,g4⟩
   ·rw[Uq]at hd;rcases Nat.lt_trichotomy q (flat A).length with hq|hq|hq
    ·rw[bQ hq]at hd;exact(cV q d (by rw[bQ hq];exact hd)).CE (tW (Lc hA) hd) eS (λ_ _ h=>h) rfl eM
    ·subst hq;rw[dX (aY _),Nat.sub_self]at hd;cases hd;rw[Ut,D8];exact .val _ _
    ·obtain⟨k,rfl⟩:∃k,q=(flat A).length + (k + 1):=⟨q - (flat A).length - 1,ae⟩;rw[dX ae,OJ,uN]at hd;exact(cV _ d (by rw[dX ae,OJ,uN];exact hd)).CE (tW (Lc hB) hd) eS (λ_ _ h=>h) rfl eM
 obtain⟨es,cl,hh,_,_,hz⟩:=h.df.bO m F hM;have kV:=hz hka D6;subst kV;have amN:m < w.heap.size:=(bt.1 hh).1;have bI:c.own m:=by
  rcases h.df.gw m F hM with h1|h1
  ·exact absurd h1 (Up m)
  ·exact h.cu m h1
 obtain⟨g',gQ⟩:∃g':Gh,g'=⟨g.S,g.β++[m],g.ρ,λb=>if b=m then none else g.M b⟩:=⟨_,rfl⟩;have eS:g'.S=g.S:=by rw[gQ]
 have eβ:∀(i b:Nat),g.β[i]? =some b->g'.β[i]? =some b:=λi b hi=>by
  rw[gQ];show(g.β++[m])[i]? =some b
  rw[bQ (aQ.1 hi).1];exact hi
 have eρ:g'.ρ=g.ρ:=by rw[gQ]
 have eM:∀b f,g.M b=some f->p f=true->g'.M b=some f:=λb f hb hp=>by
  rw[gQ];show(if b=m then none else g.M b)=some f;rw[if_neg (λEs=>by rw[Es,hM]at hb;cases hb;exact(hF F).1 hp rfl)];exact hb
 have Nr:∀b f,g'.M b=some f->g.M b=some f:=λb f hb=>by
  rw[gQ]at hb
  replace hb:(if b=m then none else g.M b)=some f:=hb
  split at hb
  ·cases hb
  ·exact hb
 have jU:∀{v:Value} {d:D},Rel w g v d->gZ p d=true->Rel w g' v d:=λhr hp=>hr.CE hp eS eβ eρ eM;have af4:∀{v:Value} {d:D},Rel w g.er v d->gZ p d=true->Rel w g'.er v d:=λhr hp=>hr.CE hp eS (λ_ _ h=>h) rfl eM;have Tw:∀{v:Value} {d:D},Rel w g.mg v d->gZ p d=true->Rel w g'.mg v d:=λhr hp=>hr.CE hp eS eβ rfl eM;have hold:∀(i:Nat) (x:Bx),(s.bx++[Bx.mp []])[i]? =some x->s.bx[i]? =some x/\i < s.bx.length\/x= .mp []/\i=s.bx.length:=λi x hi=>by
  rcases ft i s.bx.length with aG|iS
  ·rw[bQ aG]at hi;exact .inl ⟨hi,aG⟩
  ·rw[dX iS]at hi;have:i - s.bx.length=0:=by have:=(aQ.1 hi).1;simp at this;omega
   rw[this]at hi;simp at hi;exact .inr ⟨hi.symm,ae⟩
 have hβ:∀i,i < s.bx.length->∀b,g'.β[i]? =some b->g.β[i]? =some b:=λi hi b hb=>by
  rw[gQ]at hb
  replace hb:(g.β++[m])[i]? =some b:=hb
  rw[bQ (by rw[h.lβ];exact hi)]at hb;exact hb
 have wW:g'.β[s.bx.length]? =some m:=by rw[gQ,<-h.lβ];simp
 have agl:∀{i:Nat} {x:Bx} {b:Nat},s.bx[i]? =some x->x.live=true->g.β[i]? =some b->b≠m:=λ{i x b} hi hl hb e=>by
  subst e;cases x with
  |dead=>cases hl
  |mu cs=>obtain⟨b',vs,t,g1,g2,_⟩:=(h.bx i cs hi).ex;rw[hb]at g1;cases g1;rw[hh]at g2;cases g2
  |fz cs=>obtain⟨b',vs,t,g1,g2,_⟩:=(h.fz i cs hi).ex;rw[hb]at g1;cases g1;rw[hh]at g2;cases g2
  |mp es=>obtain⟨b',d_⟩:=h.mp i es hi;have:=d_.β;rw[hb]at this;cases this;have:=d_.nm;rw[hM]at this;cases this
 have TM:∀{k:Nat} {row:Row} {v:Value} {gb:Nat},s.rw[k]? =some row->row.live=true->g.ρ[k]? =some v->v.ownBlock=some gb->gb≠m:=λ{k row v gb} hk hl hv aI e=>by
  subst e;obtain⟨v',g1,g2,g3⟩:=(h.rw k row hk).ex;rw[hv]at g1;cases g1
  obtain⟨⟨vals,ho⟩,_⟩:=g3 hl;rcases ho.2 with⟨rfl,_⟩|⟨gb',cap,cur,rfl,_,fH,_⟩
  ·simp[je]at aI
  ·simp[je]at aI;subst aI;rw[hh]at fH;cases fH
 have rQ:∀(k:Nat) (row:Row),(s.rw.set r ⟨true,e,1,A++ .val (.map (some m))::B⟩)[k]? =some row->(k=r/\row=⟨true,e,1,A++ .val (.map (some m))::B⟩)\/(k≠r/\s.rw[k]? =some row):=λk row hk=>by
  rw[List.getElem?_set]at hk;split at hk
  ·rename_i vq;split at hk
   ·exact .inl ⟨vq.symm,(iA hk).symm⟩
   ·cases hk
  ·rename_i vq;exact .inr ⟨λh=>vq h.symm,hk⟩
 refine⟨m, ?_⟩;rw[<-gQ];refine⟨⟨h.df.cN,λb f hb=>h.df.bO b f (Nr b f hb),λb f hb=> ?_,λb f hb=>h.df.gw b f (Nr b f hb),λi b hb=>eβ i b (h.df.gD i b hb),h.df.jA,h.df.fD⟩,h.sz,h.below,h.cu,eS▸h.ba,λx hx=>h.en x (eS▸hx),λx hx=>eS▸h.S0 x hx,h.fJ,by rw[gQ];simp[h.lβ],by rw[eρ,h.lρ];simp,λn=>jU (h.sl n) (hs n),λi cs hi=> ?_,λi cs hi=> ?_,λk row hk=> ?_, ?_,λi es hi=> ?_⟩
 ·have h1:=h.df.m0 b f hb;rw[gQ];show(if b=m then none else g.M b)=some f;rw[if_neg (λEs=>by subst Es;rw[hM]at h1;cases h1;exact Up b hb)];exact h1
 ·rcases hold i _ hi with⟨hi,hl⟩|⟨e,rfl⟩
  ·obtain⟨b,ie,t',g1,g2,g3,g4,g5,g6⟩:=(h.bx i cs hi).ex;have hc:=hb _ (ey hi);exact⟨b,ie,t',eβ _ _ g1,g2,⟨g3.1,λq d hd=>⟨jU (g3.2 q d hd).1 (tW hc hd),(g3.2 q d hd).2⟩⟩,g4,(by rw[eS];exact g5),λhh=>by cases hh⟩
  ·cases e
 ·rcases hold i _ hi with⟨hi,hl⟩|⟨e,rfl⟩
  ·obtain⟨b,ie,t',g1,g2,g3,g4,g5,g6⟩:=(h.fz i cs hi).ex;have hc:=hb _ (ey hi);exact⟨b,ie,t',eβ _ _ g1,g2,⟨g3.1,λq d hd=>⟨af4 (g3.2 q d hd).1 (tW hc hd),(g3.2 q d hd).2⟩⟩,g4,(λhh=>by cases hh),by rw[eS];exact g6⟩
  ·cases e
 ·rcases rQ k row hk with⟨rfl,rfl⟩|⟨vq,hk⟩
  ·refine⟨v,by rw[eρ];exact e1,hm g' eS eM,λ_=>⟨by simpa using e4,λx hx=> ?_,λgb aI=> ?_⟩⟩
   ·simp only[fA,eK]at hx;rcases hx with hx|rfl|hx
    ·exact Ns x (by simp[hx])
    ·rfl
    ·exact Ns x (by simp[hx])
   ·obtain⟨g1,g2⟩:=e6 gb aI;exact⟨g1,λx hx he=>by have:=g2 x (eS▸hx) he;simpa using this⟩
  ·obtain⟨v',g1,g2,g3⟩:=(h.rw k row hk).ex;exact⟨v',by rw[eρ];exact g1,jU g2 (by simpa[gZ]using hw k row vq hk),λhl=>⟨(g3 hl).1,(g3 hl).2.1,λgb aI=>⟨((g3 hl).2.2 gb aI).1,λx hx=>((g3 hl).2.2 gb aI).2 x (eS▸hx)⟩⟩⟩
 ·obtain⟨κ,k1,k2⟩:=h.ap;refine⟨λb=>if b=m then .inl s.bx.length else κ b,λi x b hi hx hb=> ?_,λk row v gb hk hl hv aI=> ?_⟩
  ·rcases hold i _ hi with⟨hi,hl⟩|⟨rfl,rfl⟩
   ·have cr:=hβ i hl b hb;simp only;rw[if_neg (agl hi hx cr)];exact k1 i x b hi hx cr
   ·rw[wW]at hb;cases hb
    simp
  ·rw[eρ]at hv;rcases rQ k row hk with⟨rfl,rfl⟩|⟨vq,hk⟩
   ·simp only;rw[if_neg (TM hr rfl hv aI)];exact k2 k _ v gb hr rfl hv aI
   ·simp only;rw[if_neg (TM hk hl hv aI)];exact k2 k row v gb hk hl hv aI
 ·rcases hold i _ hi with⟨hi,hl⟩|⟨e,rfl⟩
  ·obtain⟨b,d_⟩:=h.mp i es hi;obtain⟨ms,jb,g1,g2,g3⟩:=d_.ex;have hc:(es.all λe=>gZ p e.1&&gZ p e.2)=true:=hb _ (ey hi);refine⟨b,eβ _ _ d_.β,⟨ms,jb,g1,g2,λq x y hx hy=> ?_⟩, ?_,d_.own,d_.lU⟩
   ·have h1:=List.all_eq_true.1 hc x (ey hx);simp only[c_]at h1;exact⟨Tw (g3 q x y hx hy).1 h1.1,Tw (g3 q x y hx hy).2 h1.2⟩
   ·cases hgm:g'.M b with
    |none=>rfl
    |some f=>have:=Nr b f hgm;rw[d_.nm]at this;cases this
  ·cases e;refine⟨m,wW,⟨#[],cl,hh,rfl,λq x y hx=>by simp at hx⟩,by rw[gQ];simp,bI,λms jb h2=> ?_⟩;rw[hh]at h2;cases h2
   exact⟨λp q x y hx=>by simp at hx,λx hx=>by simp at hx⟩
theorem alo {code:Code}{Q:Exit->St->Prop}(h:∀t:Int,(∀b (f:eP),c.M0 b=some f->∀x y,f.f []=[x,y]->x < t)->av c code Q s):av c code Q s:=by
 intro a w ⟨g,hg⟩;have aG:∀b f,c.M0 b=some f->b < w.heap.size:=λb f hb=>by
  obtain⟨es,cl,h1,_⟩:=hg.df.bO b f (hg.df.m0 b f hb);exact(bt.1 h1).1
 have key:∀n:Nat,∃t:Int,∀b (f:eP),b < n->c.M0 b=some f->∀x y,f.f []=[x,y]->x < t:=λn=>by
  induction n with
  |zero=>exact⟨0,λb f hb=>absurd hb (dF _)⟩
  |succ n ih=>
   obtain⟨t,ht⟩:=ih;refine⟨max t (match c.M0 n with|some f=>(f.f []).headD 0 + 1|none=>0),λb f hb hf x y hx=> ?_⟩;by_cases Bl:b=n
   ·subst Bl;simp only[hf,hx,List.headD_cons];omega
   ·have:=ht b f ae hf x y hx;omega
 obtain⟨t,ht⟩:=key w.heap.size;exact h t (λb f hb=>ht b f (aG b f hb) hb) a w ⟨g,hg⟩
theorem alm {code:Code}{Q:Exit->St->Prop}{n:Nat}{sl:Nat->D}{bx:List Bx}{RW:List Row}{r1 r2:Nat}{e1 e2:TypeId}{A1 B1 A2 B2:List D}{F1 F2:eP}{p1 p2:eP->Bool}(bz:F1≠F2)(fO:RW[r1]? =some ⟨true,e1,1,A1++ .bM F1::B1⟩)(cV:RW[r2]? =some ⟨true,e2,1,A2++ .bM F2::B2⟩)(hr:r1≠r2)
  (hz:(F1.ka=false/\F1.n=0)/\F2.ka=false/\F2.n=0)(Bg:∀b,c.M0 b≠some F1)(hf2:∀b,c.M0 b≠some F2)(pw:∀f,p1 f=true↔f≠F1)(jo:∀f,p2 f=true↔f≠F2)
  (hs:∀p:eP->Bool,(∀n,gZ p (sl n)=true)/\(∀x∈bx,RL p x=true)/\∀(k:Nat) row,k≠r1->k≠r2->RW[k]? =some row->eE p row.xs=true)
  (hA:(eE p1 A1=true/\eE p1 B1=true/\eE p1 A2=true/\eE p1 B2=true)/\eE p2 A1=true/\eE p2 B1=true/\eE p2 A2=true/\eE p2 B2=true)
  (h:∀(m1 m2:Nat) (w1:World) (S1:Addr->Prop) (M1:MM) (o1:Nat->Prop) (b1:List Nat),b1.length=bx.length + 2->b1[bx.length]? =some m1->b1[bx.length + 1]? =some m2->av ⟨c.P,w1,S1,M1,c.l,o1,b1⟩ code Q ⟨n,sl,bx++[.mp [], .mp []],(RW.set r1 ⟨true,e1,1,A1++ .val (.map (some m1))::B1⟩).set r2 ⟨true,e2,1,A2++ .val (.map (some m2))::B2⟩⟩):av c code Q ⟨n,sl,bx,RW⟩:=by
 intro a w ⟨g,hg⟩;obtain⟨m1,h1⟩:=hg.PA (p:=p1) (r:=r1) fO hz.1.1 hz.1.2 Bg pw (hs p1).1 (hs p1).2.1 (λk row hk gO=>by
  by_cases lp:k=r2
  ·subst lp;have e:RW[k]? =some row:=gO;rw[cV]at e;cases e
   show eE p1 (A2++D.bM F2::B2)=true;have h3:p1 F2=true:=(pw F2).2 (λh=>bz h.symm);rw[Dj];simp only[eE,gZ,hA.1.2.2.1,hA.1.2.2.2,h3,Bool.and_self]
  ·exact(hs p1).2.2 k row hk lp gO) hA.1.1 hA.1.2.1
 have af8:(RW.set r1 ⟨true,e1,1,A1++ .val (.map (some m1))::B1⟩)[r2]? =some ⟨true,e2,1,A2++ .bM F2::B2⟩:=by
  rw[gj hr];exact cV
 obtain⟨m2,h2⟩:=h1.PA (p:=p2) (r:=r2) af8 hz.2.1 hz.2.2 hf2 jo (hs p2).1 (λx hx=>by
  rcases fA.1 hx with hx|hx
  ·exact(hs p2).2.1 x hx
  ·rw[oQ.1 hx];rfl) (λk row hk gO=>by
  replace gO:(RW.set r1 ⟨true,e1,1,A1++ .val (.map (some m1))::B1⟩)[k]? =some row:=gO
  by_cases cX:k=r1
  ·subst cX;have aG:k < RW.length:=(aQ.1 fO).1;rw[jg aG]at gO;cases gO;show eE p2 (A1++D.val (.map (some m1))::B1)=true;rw[Dj];simp only[eE,gZ,hA.2.1,hA.2.2.1,Bool.and_self]
  ·rw[gj (λh=>cX h.symm)]at gO;exact(hs p2).2.2 k row cX hk gO) hA.2.2.2.1 hA.2.2.2.2
 have qZ:g.β.length=bx.length:=hg.lβ;have hf:∀(s:St) (g:Gh),sD c (λ_=>False) s a w g:=λs g=>⟨λ_ _ _ _ _ _ h=>h,λ_ _ _ _ _ _ _ _ h=>h,λ_ _ _ _ h=>h,λ_ _ h=>h,λ_ h=>h.elim⟩;have h3:=h2.aside (hf _ _);have e0:(bx++[Bx.mp []])++[Bx.mp []]=bx++[.mp [], .mp []]:=by simp
 have h4:=h m1 m2 w _ _ _ ((g.β++[m1])++[m2]) (by simp[qZ]) (by rw[<-qZ];simp) (by rw[<-qZ];simp) a w ⟨_,e0▸h3⟩;refine wpIn_mono h4 ?_;rintro e a' w' ⟨s',⟨g2,fk⟩,hq⟩;exact⟨s',⟨g2,((hf _ _).back h2 fk).1⟩,hq⟩
end
theorem bX.Wm {c:Ctx}{n:Nat}{sl:Nat->D}{bx:List Bx}{aD:List Row}(j:Nat){cs eF:List D}(hj:bx[j]? =some (.mu cs))(hl:eF.length=cs.length)(hw:∀(q:Nat) (d':D),eF[q]? =some d'->∃d,cs[q]? =some d/\∀(w:World) (g:Gh) (v:Value),Rel w g v d->Rel w g v d'):
  bX c ⟨n,sl,bx,aD⟩ ⟨n,sl,bx.set j (.mu eF),aD⟩:=by
 rintro a w ⟨g,hg⟩;have dE:j < bx.length:=(aQ.1 hj).1;have hold:∀(k:Nat) (x:Bx),(bx.set j (.mu eF))[k]? =some x->(k=j/\x= .mu eF)\/(k≠j/\bx[k]? =some x):=λk x hk=>by
  by_cases jH:k=j
  ·subst jH;rw[jg dE]at hk;exact .inl ⟨rfl,(iA hk).symm⟩
  ·rw[gj (Ne.symm jH)]at hk;exact .inr ⟨jH,hk⟩
 obtain⟨κ,k1,k2⟩:=hg.ap;obtain⟨b0,sH,t0,e1,e2,e3,e4,e5,_⟩:=(hg.bx j cs hj).ex;have e3:fZ w g sH cs:=e3;refine⟨g,hg.df,hg.sz,hg.below,hg.cu,hg.ba,hg.en,hg.S0,hg.fJ,by simpa using hg.lβ,hg.lρ,hg.sl,λk cm hk=> ?_,λk cm hk=> ?_,hg.rw,⟨κ,λk x b hk hx hb=> ?_,k2⟩,λk es hk=> ?_⟩
 ·rcases hold k _ hk with⟨rfl,e⟩|⟨_,hk⟩
  ·cases e;refine⟨b0,sH,t0,e1,e2,⟨by rw[hl];exact e3.1,λp x hd=> ?_⟩,e4,e5,λhh=>by cases hh⟩;obtain⟨d,ng,dQ⟩:=hw p x hd;have hx:=e3.2 p d ng;exact⟨dQ _ _ _ hx.1,hx.2⟩
  ·exact hg.bx k cm hk
 ·rcases hold k _ hk with⟨_,e⟩|⟨_,hk⟩
  ·cases e
  ·exact hg.fz k cm hk
 ·rcases hold k _ hk with⟨rfl,_⟩|⟨_,hk⟩
  ·exact k1 k _ b hj rfl hb
  ·exact k1 k x b hk hx hb
 ·rcases hold k _ hk with⟨_,e⟩|⟨_,hk⟩
  ·cases e
  ·exact hg.mp k es hk
end Go.Ab
end
