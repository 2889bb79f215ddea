import Derived.Test.YtopobgihpdaggaaGreatDoorZ07
import Derived.Test.YtopobgihpdaggaaGreatDoorRows
set_option linter.unusedVariables false
set_option linter.unusedSimpArgs false
open Bool renaming and_eq_true->dZ
open Go.Fence renaming wide->eO
open Go.Instr renaming checkKey->su,findKey->xT,findNow->vB
open List renaming getD_eq_getElem?_getD->rf,getElem?_append_left->cZ,getElem?_append_right->gk,getElem?_eq_some_iff->bm,getElem?_map->dO,getElem?_set_ne->gz,getElem?_set_self->je,length_cons->mH,mem_cons_self->ey,mem_iff_getElem?->po,nodup_cons->tY
open Option renaming getD_some->fV,map_eq_some_iff->cS,map_some->eW
open PUnit renaming unit->IS
open Go.Region renaming wanted->d_
open Go.Result renaming andThen_ok->mE
open Go.Sem renaming run_bind->kN,run_pure->q_
open Go.Proofs.Tryz renaming prog->ae
section
namespace Go.Ab
open Go.RowKit
def inner (c:Ctx)(W:World)(g:Gh):Ctx:=⟨c.P,W,g.S,g.M,none,λb=>W.heap.size<=b\/(c.own b/\eb W b),g.β⟩
def aT (P:Program)(f:FuncId)(ds:List D)(bx:List Bx)(rw:List Row)(K:D->List Bx->List Row->Prop):Prop:=
 (∀(args:Array Value) (w:World),(callFunc f args).run P w= .ok (.enter f args) w)/\
 ∀(c:Ctx) (st:St) (a:Act) (W:World) (g:Gh) (args:List Value),c.P=P->RG c st a W g->st.bx=bx->st.rw=rw->args.length=ds.length->(∀q x,ds[q]? =some x->Rel W g (args.getD q Go.undef) x)->
  Calls P f args.toArray W λe W'=>∃v d s2 a2 g2,e= .returned v/\RG (inner c W g) s2 a2 W' g2/\Rel W' g2 v d/\K d s2.bx s2.rw
theorem aT.mono {P:Program}{f:FuncId}{ds:List D}{bx:List Bx}{rw:List Row}{K K':D->List Bx->List Row->Prop}(h:aT P f ds bx rw K)(hk:∀d aF aL,K d aF aL->K' d aF aL):aT P f ds bx rw K':=by
 refine⟨h.1,λc st a W g args hP hg hb hr hl b9=>(h.2 c st a W g args hP hg hb hr hl b9).mono ?_⟩;rintro e w' ⟨v,d,s2,a2,g2,h1,h2,h3,h4⟩;exact⟨v,d,s2,a2,g2,h1,h2,h3,hk _ _ _ h4⟩
def vX (P:Program)(s:St):ResultVar->(D->Prop)->Prop
 | .tmp t,k=>k (s.sl t)
 | .cell t ty,k=>jW P s.bx ty (s.sl t) k
def rz (P:Program)(s:St):List ResultVar->(List D->Prop)->Prop
 |[],k=>k []
 |r::rs,k=>vX P s r λd=>rz P s rs λds=>k (d::ds)
def cT (P:Program)(rs:Array ResultVar)(K:D->List Bx->List Row->Prop):Exit->St->Prop
 | .normal,s=>rz P s rs.toList λds=>K (kS ds) s.bx s.rw
 | .ret,s=>rz P s rs.toList λds=>K (kS ds) s.bx s.rw
 |_,_=>False
section
variable {c:Ctx} {s:St} {a:Act} {w:World} {g:Gh}
theorem Ys (h:RG c s a w g){r:ResultVar}{k:D->Prop}(hk:vX c.P s r k):∃v d,(sO a.tmps r).run c.P w= .ok v w/\Rel w g v d/\k d:=by
 cases r with
 |tmp t=>exact⟨_,_,rfl,h.sl t,hk⟩
 |cell t ty=>
  simp only[vX]at hk;have hx:=h.sl t;cases fY:s.sl t<;>rw[fY]at hk hx<;>simp only[jW]at hk
  ·rename_i i off;obtain⟨cs,aE,hk⟩:=z7 hk;obtain⟨b,vs,tb,e1,e2,e3⟩:=h.mem.bx i cs aE;generalize hv:a.tmps.getD t undef=v at hx;cases hx with
   |box _ _ _ b' bT=>
    obtain rfl:b'=b:=by rw[e1]at bT;exact(Option.some.inj bT).symm
    obtain⟨h1,h2⟩:=q7 e2 e3 off;obtain⟨v,d,bg,hr,hk⟩:=yk (P:=c.P) (t:=ty) (ad:=⟨b',off,none⟩) h1 h2 hk;exact⟨v,d,by simp only[sO,hv];simp[asAddr,bg],hr,hk⟩
  ·rename_i cs;obtain⟨ad,u,hv,hm,hr⟩:=hx.Aq;obtain⟨v,d,bg,hr,hk⟩:=yk (P:=c.P) (w:=w) (g:=g) (t:=ty) (ad:=ad) (cs:=cs) (u:=u) (λq hq=>⟨(hm q hq).1,(hm q hq).2.2⟩) (λq d hd=>(hr q d hd).bb (rL _ _)) hk;exact⟨v,d,by simp only[sO,hv];simp[asAddr,bg],hr,hk⟩
theorem N1 (h:RG c s a w g):∀{rs:List ResultVar} {k:List D->Prop},rz c.P s rs k->
  ∃vs ds,(rs.mapM (sO a.tmps)).run c.P w= .ok vs w/\vs.length=ds.length/\(∀q d,ds[q]? =some d->Rel w g (vs.getD q undef) d)/\k ds
 |[],k,hk=>⟨[],[],by simp,rfl,by simp,hk⟩
 |r::rs,k,hk=>by
  obtain⟨v,d,h1,h2,hk⟩:=Ys h hk;obtain⟨vs,ds,h3,h4,h5,hk⟩:=N1 h hk;refine⟨v::vs,d::ds, ?_,by simp[h4],λq x hx=> ?_,hk⟩
  ·rw[List.mapM_cons];simp only[kN,h1,mE,h3,q_]
  ·cases q with
   |zero=>simp at hx;subst hx;exact h2
   |succ q=>exact h5 q x (by simpa using hx)
theorem O0 {fn:Func}{k:List D->Prop}{R:Ending->World->Prop}:∀(l:List Deferred) (a:Act) (w:World),RG c s a w g->a.defers=l->rz c.P s fn.results.toList k->
  (∀v w' ds,RG c s {a with defers:=[]} w' g->Rel w' g v (kS ds)->k ds->R (.returned v) w')->LeavesInM eO 0 c.P fn a.tmps R l .returning w
 |[],a,w,h,hl,hq,hR=>by
  obtain⟨vs,cu,h1,h2,h3,hk⟩:=N1 h hq;refine⟨(if h:vs.length=1 then vs[0]else .tuple vs.toArray), ?_,hR _ _ cu (by rw[show({a with defers:=[]}:Act)=a by rw[<-hl]];exact h) ?_ hk⟩
  ·rw[FF,Array.mapM_eq_mapM_toList];simp only[kN,Sem.run_map,h1];simp
  ·match vs,cu,h2 with
   |[v],[d],_=>simpa[kS]using h3 0 d rfl
   |[],[],_=>exact .aQ _ _ _ rfl ay
   |v1::v2::vs,d1::d2::ds,h2=>
    simp only[mH,kS];rw[dif_neg ag];exact .aQ _ _ _ (by simpa using h2) (λq d hd=>by simpa using h3 q d hd)
 |d::l,a,w,h,hl,hq,hR=>by
  obtain⟨rX,bu⟩:=h.df.cW;rw[hl]at rX bu;obtain⟨D,hB,rfl,hD⟩:=bu d (ey ..);refine⟨by simp, .inl ⟨D,_,rfl,run_takeDeferred hD, ?_⟩⟩;have hg:RG c s {a with defers:=l} (w.putObj D (.deferred none)) g:=h.sJ hD rfl ay hB rfl ⟨(tY.1 rX).2,λd' ed=>by
   obtain⟨D',tE,rfl,lG⟩:=bu d' (List.mem_cons_of_mem _ ed);refine⟨D',tE,rfl, ?_⟩;rw[World.putObj_heap_other (λe=>by subst e;exact(tY.1 rX).1 ed)];exact lG⟩
  exact O0 l {a with defers:=l} _ hg rfl hq hR
theorem XR {fn:Func}{K:D->List Bx->List Row->Prop}{e:Exit}(h:RG c s a w g)(hq:cT c.P fn.results K e s){Rr:Ending->World->Prop}(hR:∀v w' d,RG c s {a with defers:=[]} w' g->Rel w' g v d->K d s.bx s.rw->Rr (.returned v) w'):
  bodyPostM eO 0 c.P fn Rr e a w:=by
 have key:(rz c.P s fn.results.toList λds=>K (kS ds) s.bx s.rw)->LeavesInM eO 0 c.P fn a.tmps Rr a.defers .returning w:=λhq=>
  O0 (k:=λds=>K (kS ds) s.bx s.rw) a.defers a w h rfl hq (λv w' ds h1 h2 h3=>hR v w' (kS ds) h1 h2 h3)
 cases e<;>first|exact key hq|exact hq.elim
end
theorem afW {P:Program}{f:FuncId}{fn:Func}{code:Code}{ds:List D}{bx:List Bx}{rw:List Row}{K:D->List Bx->List Row->Prop}(hf:P.funcs[f]? =some fn)(hb:fn.body=some code)
  (hc:∀(args:Array Value) (w:World),(callFunc f args).run P w= .ok (.enter f args) w)(hn:ds.length<=fn.ntmps)
  (h:∀c:Ctx,c.P=P->c.l=none->c.β0.length=bx.length->az c code (cT P fn.results K) ⟨fn.ntmps,oK 0 ds,bx,rw⟩):aT P f ds bx rw K:=by
 refine⟨hc,λc st a W g args hP hg kc pI hl b9=> ?_⟩;subst hP;subst kc;subst pI
 refine(callsIn_wide (n:=0)).1 (callsIn_of_wp_marks hf hb trivial ?_);have tw:RG (inner c W g) ⟨fn.ntmps,oK 0 ds,st.bx,st.rw⟩ {tmps:=args.toArray++Array.replicate (fn.ntmps - args.toArray.size) undef,defers:=[]} W g:=hg.D9 rfl (by simp;omega) (λm=>by
  simp only;rw[yu];simp only[Nat.not_lt_zero,if_false,Nat.sub_zero];cases hd:ds[m]? with
  |none=>exact .undef _ _
  |some x=>
   have hm:=(bm.1 hd).1;have:=b9 m x hd;have e:(args.toArray++Array.replicate (fn.ntmps - args.toArray.size) undef).getD m undef=args.getD m undef:=by
    have:m < args.length:=ag;simp[Array.getElem?_append,this]
   rw[e];exact this)
 have hw:=h (inner c W g) rfl rfl hg.lβ _ W ⟨g,tw⟩;refine wpIn_mono (F:=eO) hw ?_;rintro e a' w' ⟨s',⟨g',me⟩,hq⟩;exact XR me hq (λv w2 d h2 hv hk=>⟨v,d,s',_,g',rfl,h2,hv,hk⟩)
theorem cV {P:Program}{f:FuncId}{fn:Func}{code:Code}{ds:List D}{bx:List Bx}{rw:List Row}{K:D->List Bx->List Row->Prop}{n:Nat}{rs:Array ResultVar}(hf:P.funcs[f]? =some fn)(hn:fn.ntmps=n)(hr:fn.results=rs)
  (hc:∀(args:Array Value) (w:World),(callFunc f args).run P w= .ok (.enter f args) w)(hb:fn.body=some code)(hl:ds.length<=n)
  (h:∀(w0:World) (S0:Addr->Prop) (M0:MM) (own:Nat->Prop) (β:List Nat),β.length=bx.length->az ⟨P,w0,S0,M0,none,own,β⟩ code (cT P rs K) ⟨n,oK 0 ds,bx,rw⟩):aT P f ds bx rw K:=by
 subst hn;subst hr
 refine afW hf hb hc hl ?_;rintro⟨_,w0,S0,M0,l,own,b0⟩ h1 h2 h3;simp only at h1 h2 h3;subst h1;subst h2
 exact h w0 S0 M0 own b0 h3
def iZ (nb:Nat)(d:D):D:=bif dA nb 0 d then d else .undef
def sc (nb:Nat)(sl:Nat->D):Nat->D:=λm=>iZ nb (sl m)
theorem Rl (nb:Nat)(d:D):Names nb 0 (iZ nb d):=by
 unfold iZ;cases h:dA nb 0 d with
 |true=>exact sZ d h
 |false=>exact .undef
theorem Rk {w:World}{g:Gh}{v:Value}{d:D}{nb:Nat}(h:Rel w g v d):Rel w g v (iZ nb d):=by
 unfold iZ;cases dA nb 0 d with
 |true=>exact h
 |false=>exact .undef _ _
@[go_sem] theorem aon {nb:Nat}{sl:Nat->D}{n:Nat}{v:D}:sc nb (put sl n v)=put (sc nb sl) n (iZ nb v):=by
 funext m;simp only[sc,put];split<;>rfl
@[go_sem] theorem aoo {nb:Nat}:sc nb eC=eC:=rfl
@[go_sem] theorem aov {nb:Nat}{k:IntKind}{n:Int}:iZ nb (.int k n)= .int k n:=rfl
@[go_sem] theorem aoz {nb:Nat}{b:Bool}:iZ nb (.bool b)= .bool b:=rfl
@[go_sem] theorem aor {nb:Nat}{b:ByteArray}:iZ nb (.str b)= .str b:=rfl
@[go_sem] theorem aou {nb:Nat}{l:List D}:iZ nb (.list l)= .list l:=rfl
@[go_sem] theorem aos {nb:Nat}{l:List D}:iZ nb (.ro l)= .ro l:=rfl
@[go_sem] theorem aop {nb:Nat}{v:Value}:iZ nb (.val v)= .val v:=rfl
@[go_sem] theorem aoA {nb:Nat}:iZ nb .any= .any:=rfl
@[go_sem] theorem aot {nb r:Nat}:iZ nb (.own r)= .undef:=rfl
@[go_sem] theorem aoy {nb i off:Nat}:iZ nb (.box i off)=if i < nb then .box i off else .undef:=by
 unfold iZ;simp only[dA];by_cases h:i < nb<;>simp[h]
@[go_sem] theorem aox {nb i off n k:Nat}:iZ nb (.a_ i off n k)=if i < nb then .a_ i off n k else .undef:=by
 unfold iZ;simp only[dA];by_cases h:i < nb<;>simp[h]
@[go_sem] theorem aoB {nb:Nat}{l:List D}:iZ nb (.agg l)=bif db nb 0 l then .agg l else .undef:=rfl
@[go_sem] theorem aoq {nb:Nat}{l:List D}:iZ nb (.aQ l)=bif db nb 0 l then .aQ l else .undef:=rfl
@[go_sem] theorem aow {nb:Nat}{f:FuncId}{l:List D}:iZ nb (.aD f l)=bif db nb 0 l then .aD f l else .undef:=rfl
def zy (bx:List Bx)(rw:List Row):List D->List D->Prop
 |[],[]=>True
 |d::l,d'::l'=>(d'=d\/Ay bx rw d=some d')/\zy bx rw l l'
 |_,_=>False
attribute[go_sem] zy
theorem Il {bx:List Bx}{rw:List Row}:∀{l:List D},zy bx rw l l
 |[]=>trivial
 |_::_=>⟨.inl rfl,Il⟩
theorem Se {c:Ctx}{s:St}{a:Act}{w:World}{g:Gh}(h:RG c s a w g):∀{l l':List D} {vs:List Value},zy s.bx s.rw l l'->vs.length=l.length->(∀q x,l[q]? =some x->Rel w g (vs.getD q Go.undef) x)->
  l'.length=l.length/\∀q x,l'[q]? =some x->Rel w g (vs.getD q Go.undef) x
 |[],[],vs,_,_,_=>⟨rfl,λq x hx=>by simp at hx⟩
 |d::l,d'::l',[],_,hl,_=>by simp at hl
 |d::l,d'::l',v::vs,hk,hl,hr=>by
  obtain⟨h1,h2⟩:=Se h (l:=l) (l':=l') (vs:=vs) hk.2 (by simpa using hl) (λq x hx=>by simpa using hr (q + 1) x (by simpa using hx));refine⟨by simp[h1],λq x hx=> ?_⟩;cases q with
  |zero=>
   simp at hx;subst hx
   have h0:=hr 0 d rfl;rcases hk.1 with rfl|hp
   ·simpa using h0
   ·exact(Oe h (by simpa using h0) hp).bb (rL _ _)
  |succ q=>simpa using h2 q x (by simpa using hx)
 |[],_::_,_,hk,_,_=>hk.elim
 |_::_,[],_,hk,_,_=>hk.elim
def mz (c:Ctx)(N:St->Prop)(fx:Operand)(xs:List Operand)(dst:Option Tmp)(s1:St):Prop:=
 bp s1 dst/\lN (s1.ev fx) λf fs cs=>∃ds,zy s1.bx s1.rw (fs++xs.map s1.ev++cs) ds/\aT c.P f ds s1.bx s1.rw λd aF aL=>N (St.put ⟨s1.n,sc s1.bx.length s1.sl,aF,aL⟩ dst d)
theorem af' {c:Ctx}{N:St->Prop}{fx:Operand}{xs:List Operand}{dst:Option Tmp}{s1:St}(h2:lN (s1.ev fx) λf fs cs=>∃ds,zy s1.bx s1.rw (fs++xs.map s1.ev++cs) ds/\aT c.P f ds s1.bx s1.rw λd aF aL=>N (St.put ⟨s1.n,sc s1.bx.length s1.sl,aF,aL⟩ dst d))(h1:bp s1 dst):mz c N fx xs dst s1:=⟨h1,h2⟩
section
variable {c:Ctx} {s:St}
theorem Ib {N:St->Prop}{y:Oper}{fx:Operand}{xs:Array Operand}{dst:Option Tmp}{at_:Array TypeId}{ty:TypeId}{pos:String}{aft:Array Edge}{s1:St}{a1:Act}{w1:World}{N':Act->World->Prop}{Q':Exit->Act->World->Prop}
  (hy:y=⟨dst, .call ⟨.value fx,xs,at_⟩,ty,pos,aft,none⟩)(hr:R c s1 a1 w1)(hk:mz c N fx xs.toList dst s1)(hN:∀s a w,R c s a w->N s->N' a w):y.wpIn c.F 0 c.P a1 w1 N' Q':=by
 obtain⟨hd,hk⟩:=hk;obtain⟨g1,bM⟩:=hr;obtain⟨f,fs,cs,⟨vf⟩,⟨vs⟩,⟨ds,hp,hC⟩,hv,DF,hl,GW,hr⟩:=Fm (bM.ev fx) hk;have DE:vf.length=fs.length:=by simpa using DF
 have kH:vs.length=cs.length:=by simpa using hl
 have bg:(execOp a1.eval y).run c.P w1= .ok (.enter f (vf++xs.toList.map a1.eval++vs).toArray) w1:=by
  simp[execOp,hy,resolve,hv,Deferred.ofValue,invoke];rw[hC.1];simp
 obtain⟨e1,e2⟩:=Se bM (vs:=vf++xs.toList.map a1.eval++vs) hp (by simp[DE,kH]) (λq y hy=>by
  rw[rf];rw[List.append_assoc]at hy⊢;rcases Nat.lt_or_ge q fs.length with hq|hq
  ·rw[cZ hq]at hy;rw[cZ ag];have:=GW q y hy;simpa using this
  rw[gk hq]at hy;rw[gk ag,DE];rcases Nat.lt_or_ge (q - fs.length) (xs.toList.map s1.ev).length with hq|hq
  ·rw[cZ hq]at hy;simp only[dO,cS]at hy;obtain⟨z,hz,rfl⟩:=hy;rw[cZ (by simpa using hq)];simp only[dO,hz,eW,fV];exact bM.ev z
  ·rw[gk hq]at hy;have:=hr _ y hy;rw[gk (by simpa using hq)];simpa using this)
 have fy:RG c ⟨s1.n,sc s1.bx.length s1.sl,s1.bx,s1.rw⟩ a1 w1 g1:=⟨bM.df,bM.sz,bM.below,bM.cY,bM.bt,bM.eD,bM.S0,bM.fU,bM.lβ,bM.lρ,λm=>Rk (bM.sl m),bM.bx,bM.fz,bM.rw,bM.ap,bM.mp⟩;have bE:=hC.2 c _ a1 w1 g1 (vf++xs.toList.map a1.eval++vs) rfl fy rfl rfl (by simp only[List.length_append,List.length_map]at e1⊢;omega) e2;refine gK (by rw[hy];intro cl h;cases h) ?_;unfold Oper.wp;rw[bg];refine bE.mono ?_;rintro e w' ⟨v,d,s2,a2,g2,rfl,h2,b9,cQ⟩;have hb:=fy.O5 h2 (λm=>Rl _ _);have oQ:y.dst=dst:=by rw[hy]
 show N' (a1.put y.dst v) w';rw[oQ];exact hN _ _ _ ⟨_,hb.put hd b9⟩ cQ
theorem eo {Q:Exit->St->Prop}{id:Nat}{l:List Oper}(n:Nat){fx:Operand}{xs:Array Operand}{dst:Option Tmp}{at_:Array TypeId}{ty:TypeId}{pos:String}{aft:Array Edge}
  (hl:l=l.take n++⟨dst, .call ⟨.value fx,xs,at_⟩,ty,pos,aft,none⟩::l.drop (n + 1))
  (h:∀K1:St->Prop,(∀s1,mz c (λs2=>cq c.P l (l.drop (n + 1)) s2 (λs2=>Q .normal s2)) fx xs.toList dst s1->K1 s1)->cq c.P l (l.take n) s K1):
  az c (.region id l.toArray false) Q s:=by
 intro a w hr;refine wpIn_region_lit ?_;rw[hl];rw[hl]at h;have kZ:(l.take n++(⟨dst, .call ⟨.value fx,xs,at_⟩,ty,pos,aft,none⟩:Oper)::l.drop (n + 1)).take n=l.take n:=by rw[<-hl]
 have fH:(l.take n++(⟨dst, .call ⟨.value fx,xs,at_⟩,ty,pos,aft,none⟩:Oper)::l.drop (n + 1)).drop (n + 1)=l.drop (n + 1):=by rw[<-hl]
 rw[kZ,fH]at h;generalize l.take n=l1 at *;generalize l.drop (n + 1)=l2 at *;obtain⟨y,hy⟩:∃y:Oper,y=⟨dst, .call ⟨.value fx,xs,at_⟩,ty,pos,aft,none⟩:=⟨_,rfl⟩;rw[<-hy]at h⊢;refine pQ (c:=c) (λs1 a1 w1 hH ba=> ?_) l1 s a w hr (h _ (λs1 h1=>h1));show wpListIn c.F 0 c.P _ _ (y::l2) a1 w1;unfold wpListIn;rw[if_pos (by rw[hy];simp[d_])];exact Ib (c:=c) hy hH ba (λs3 a3 w3 kz mZ=>n9 (c:=c) (K:=λs2=>Q .normal s2) (λs4 a4 w4 oU pL=>⟨s4,oU,pL⟩) l2 _ _ _ kz mZ)
end
attribute[go_sem] vX rz cT
end Go.Ab
end
section
namespace Go.Ab
open Go.RowKit
section
variable {P:Program} {w0:World} {S0:Addr->Prop} {M0:MM} {own:Nat->Prop} {β0:List Nat}
end
theorem abb {c:IC}{Q:Exit->Ix->St->Prop}{s:St}{k id:Nat}{l1 l2:List Oper}{fx:Operand}{ys:Array Operand}{dst:Option Tmp}{at_:Array TypeId}{ty:TypeId}{pos:String}{aft:Array Edge}{gd:Option (Nat×Bool)}
  (h:∀K1:St->Prop,(∀s1 d,s1.ev fx= .val (.func (.yield c.l) #[] #[])->gJ s1.bx s1.rw (ys.toList.map s1.ev)=some d->c.xs[k]? =some d->bp s1 dst->(∀(j:Nat) (b:Bool),gd=some (j,b)->∃t,iD (l1++⟨dst, .call ⟨.value fx,ys,at_⟩,ty,pos,aft,gd⟩::l2) j=some t/\s1.sl t= .bool b)->
    (∀b:Bool,cq c.P (l1++⟨dst, .call ⟨.value fx,ys,at_⟩,ty,pos,aft,gd⟩::l2) l2 (s1.put dst (.bool b)) (λs2=>Q .normal (b,k + 1) s2))->K1 s1)->
   cq c.P (l1++⟨dst, .call ⟨.value fx,ys,at_⟩,ty,pos,aft,gd⟩::l2) l1 s K1):
  IA c (.region id (l1++⟨dst, .call ⟨.value fx,ys,at_⟩,ty,pos,aft,gd⟩::l2).toArray false) Q (true,k) s:=by
 intro cO a w T S M hJ ⟨lt,g,e1,e2,hg⟩;obtain⟨y,hy⟩:∃y:Oper,y=⟨dst, .call ⟨.value fx,ys,at_⟩,ty,pos,aft,gd⟩:=⟨_,rfl⟩;rw[<-hy]at h⊢;refine wpIn_region_lit ?_;have qU:=h (λs1=>∃d,s1.ev fx= .val (.func (.yield c.l) #[] #[])/\gJ s1.bx s1.rw (ys.toList.map s1.ev)=some d/\c.xs[k]? =some d/\bp s1 dst/\(∀(j:Nat) (b:Bool),gd=some (j,b)->∃t,iD (l1++y::l2) j=some t/\s1.sl t= .bool b)/\
   ∀b:Bool,cq c.P (l1++y::l2) l2 (s1.put dst (.bool b)) (λs2=>Q .normal (b,k + 1) s2)) (λs1 d h1 h2 h3 h4 cK h6=>⟨d,h1,h2,h3,h4,cK,h6⟩)
 refine pQ (c:=⟨c.P,w,S,M,none,λb=>T b\/w.heap.size<=b,[]⟩) (λs1 a1 w1 hH ba=> ?_) l1 s a w ⟨g,hg⟩ qU;obtain⟨g1,bM⟩:=hH;obtain⟨d,h1,h2,h3,h4,cK,h6⟩:=ba;obtain⟨T1,hi,hr⟩:=IR.next lt bM;have HB:=cO.ab (true,k) _ _ _ _ _ _ _ _ hJ hi;have r5:=bM.ev fx;rw[h1]at r5;generalize hv:a1.eval fx=vf at r5;cases r5;obtain⟨q1,q2⟩:=vY h2;have hY:=cO.rd k T1 g1.S g1.M w1 (ys.toList.map a1.eval) d h3 HB (by rw[q1];simp) (λq dd hq=>by
  obtain⟨z,hz,hp⟩:=q2 q dd hq;simp only[dO,cS]at hz;obtain⟨u,hu,rfl⟩:=hz;rw[rf];simp only[dO,hu,eW,fV];exact rC bM (bM.ev u) hp)
 obtain⟨fn,tmps,assign,body,bg,GV⟩:=hY;show wpListIn eO 0 c.P _ _ (y::l2) a1 w1;unfold wpListIn;have abl:d_ y (Go.yielded (l1++y::l2).toArray a1.tmps)=true:=by
  have Qh:y.guard=gd:=by rw[hy]
  cases gd with
  |none=>simp[d_,Qh]
  |some q=>
   obtain⟨j,b⟩:=q;obtain⟨t,ht,hb⟩:=cK j b rfl;have hyl:=R.yielded (ops:=(l1++y::l2).toArray) bM (by simpa using ht) hb;simp[d_,Qh,hyl]
 rw[if_pos abl];refine⟨λ_ _=>trivial, ?_⟩;have GS:(y.semAt eO.round a1.eval).run c.P w1= .ok (.round c.l fn tmps assign body) w1:=by
  rw[Oper.semAt_eq _ _ _ (by rw[hy];intro cl h;cases h),hy];simp[execOp,resolve,hv,Deferred.ofValue,invoke,bg];rw[<-Array.toList_map,Array.toArray_toList]at bg;simp[bg]
 rw[GS,Oper.uponIn_round];refine⟨λh=>(by cases h),GV.mono ?_⟩;rintro e w2 ⟨S2,M2,hf,mX⟩;have eR:=hr.round hf;have fin:∀b:Bool,JX c.J c.Jx (b,k + 1) T1 S2 M2 w2->wpListIn eO 0 c.P (l1++y::l2).toArray (λe a' w'=>∃i' s' T' S' M',JX c.J c.Jx i' T' S' M' w'/\IR c.P T' S' M' s' a' w'/\Q e i' s') l2 (a1.put y.dst (.bool b)) w2:=by
  intro b n6;obtain⟨Gd,g2,f1,f2,fy⟩:=eR;have jN:RG ⟨c.P,w2,S2,M2,none,λb=>T1 b\/w2.heap.size<=b,[]⟩ (s1.put dst (.bool b)) (a1.put dst (.bool b)) w2 g2:=fy.put h4 (.bool _ _);have oQ:y.dst=dst:=by rw[hy]
  rw[oQ];refine n9 (c:=⟨c.P,w2,S2,M2,none,λb=>T1 b\/w2.heap.size<=b,[]⟩) (K:=λs2=>Q .normal (b,k + 1) s2) (λs3 a3 w3 kz mZ=> ?_) l2 _ _ _ ⟨g2,jN⟩ (h6 b);obtain⟨g3,dW⟩:=kz;obtain⟨T3,yN,GY⟩:=IR.next Gd dW;exact⟨(b,k + 1),s3,T3,_,_,cO.ab (b,k + 1) _ _ _ _ _ _ _ _ n6 yN,GY,mZ⟩
 rcases mX with⟨rfl,n6⟩|⟨rfl,n6⟩
 ·exact fin true n6
 ·exact fin false n6
theorem PD {c:IC}{Q:Exit->Ix->St->Prop}{s:St}{k id:Nat}{l:List Oper}(n:Nat){fx:Operand}{ys:Array Operand}{dst:Option Tmp}{at_:Array TypeId}{ty:TypeId}{pos:String}{aft:Array Edge}{gd:Option (Nat×Bool)}
  (hl:l=l.take n++⟨dst, .call ⟨.value fx,ys,at_⟩,ty,pos,aft,gd⟩::l.drop (n + 1))
  (h:∀K1:St->Prop,(∀s1 d,s1.ev fx= .val (.func (.yield c.l) #[] #[])->gJ s1.bx s1.rw (ys.toList.map s1.ev)=some d->c.xs[k]? =some d->bp s1 dst->(∀(j:Nat) (b:Bool),gd=some (j,b)->∃t,iD l j=some t/\s1.sl t= .bool b)->
    (∀b:Bool,cq c.P l (l.drop (n + 1)) (s1.put dst (.bool b)) (λs2=>Q .normal (b,k + 1) s2))->K1 s1)->
   cq c.P l (l.take n) s K1):
  IA c (.region id l.toArray false) Q (true,k) s:=by
 have h2:=abb (c:=c) (Q:=Q) (s:=s) (k:=k) (id:=id) (l1:=l.take n) (l2:=l.drop (n + 1)) (fx:=fx) (ys:=ys) (dst:=dst) (at_:=at_) (ty:=ty) (pos:=pos) (aft:=aft) (gd:=gd);rw[<-hl]at h2;exact h2 h
end Go.Ab
end
section
namespace Go.Ab
open Go.RowKit
theorem RT {P:Program}{em:Bool}(d:Nat)(xs:List Int)(w:World):∀(fs:List Field) (k:Nat),zd P k fs=true->k + fs.length<=xs.length->
  (forIn fs IS (λf _=>do
    if f.name≠ "_" then
     let agM<-part f.type (xs.map (Value.int .i64)).toArray f.offset
     su em (d + 1) f.type agM
     pure (ForInStep.yield IS)
    else pure (ForInStep.yield IS)):Sem PUnit).run P w= .ok IS w
 |[],k,_,_=>by simp
 |f::fs,k,hf,h1=>by
  simp only[zd,dZ,bne_iff_ne,beq_iff_eq,decide_eq_true_eq]at hf;obtain⟨⟨⟨hn,ho⟩,hu⟩,hr⟩:=hf;have hu:=Pz hu;have pN:cM P f.type=some false:=by unfold cM;rw[hu]
  simp only[mH]at h1;have ih:=RT (em:=em) d xs w fs (k + 1) hr ag;have p1:=FE pN xs k ag w;have p2:(su em (d + 1) f.type (.int .i64 (xs[k]'ag))).run P w= .ok () w:=by
   simp[su,run_underlying hu]
  simp only[List.forIn_cons,hn,ne_eq,not_false_eq_true,if_true,kN,ho,p1,p2,mE,q_];exact ih
theorem aaj {P:Program}{t:TypeId}{n:Nat}(ht:P.underlying t=some (.struct (P.fieldsOf t)))(hf:(zd P 0 (P.fieldsOf t).toList&&decide ((P.fieldsOf t).toList.length=n))=true)(hp:P.stoodInHeld t=false):ua P t true n where
 check em xs w hl:=by
  simp only[dZ,decide_eq_true_eq]at hf
  suffices hh:∀d,(su em (d + 1 + 1) t (dQ true xs)).run P w= .ok () w from hh 9998
  intro d;rw[su];simp only[dQ,kN,run_underlying ht,mE];have:=RT (P:=P) (em:=em) d xs w (P.fieldsOf t).toList 0 hf.1 ag;rw[<-Array.forIn_toList];rw[this];rfl
 find xs es w hl gF:=by
  simp only[dZ,decide_eq_true_eq]at hf;cases es with
  |nil=>exact⟨none,by simp[xT,run_underlying ht,vB], .inl ⟨rfl,λe he=>by cases he⟩⟩
  |cons e1 es=>
   obtain⟨ys,_,hy⟩:=gF e1 (ey ..);obtain⟨r,h1,h2⟩:=QY (P:=P) (kt:=t) (n:=n) xs w (λys hy=>by
    have h:=Rb (P:=P) 9998 xs ys w (P.fieldsOf t).toList 0 hf.1 ag ag;unfold Op.equal Op.maxDepth;rw[show(10000:Nat)=9998 + 1 + 1 from rfl,run_equalIn_struct w _ t _ _ ht hp,h];simp) (e1::es) 0 gF
   refine⟨r, ?_, ?_⟩
   ·have hn:vB (.struct (P.fieldsOf t)) (dQ true xs) (e1::es) 0=none:=by simp[vB,Instr.sameNow]
    simp only[xT,kN,run_underlying ht,mE,hn];exact h1
   ·rcases h2 with h2|⟨j,e',h3,h4,h5⟩
    ·exact .inl h2
    ·exact .inr ⟨j,e',h3,h4,by simpa using h5⟩
 inj xs ys _ _ h:=by
  have h':(xs.map (Value.int .i64)).toArray=(ys.map (Value.int .i64)).toArray:=by simpa[dQ]using h
  have:=congrArg Array.toList h';simp only at this;exact(List.map_inj_right (λa b h=>by cases h;rfl)).1 this
end Go.Ab
end
section
namespace Go.Ab
open Go.RowKit
theorem Rel.names {w:World}{g:Gh}{v:Value}{d:D}(h:Rel w g v d):Names g.β.length g.ρ.length d:=by
 induction h with
 |undef g v=>exact .undef
 |int g k n=>exact .int _ _
 |bool g b=>exact .bool _
 |str g s=>exact .str _
 |val g v=>exact .val _
 |list g A n c xs sz u hn bo fA hm hr ih=>exact .list _
 |agg g vs cs hl h1 hr ih=>exact .agg _ λd hd=>by obtain⟨q,hq⟩:=po.1 hd;exact ih q d hq
 |aQ g vs cs hl hr ih=>exact .aQ _ λd hd=>by obtain⟨q,hq⟩:=po.1 hd;exact ih q d hq
 |box g i off b hb=>exact .box _ _ (bm.1 hb).1
 |ro g a cs u hm hr ih=>exact .ro _
 |own g r v h=>exact .own _ (bm.1 h).1
 |aD g f vs cs hl hr ih=>exact .aD _ _ λd hd=>by obtain⟨q,hq⟩:=po.1 hd;exact ih q d hq
 |eN g b f h=>exact .eN _
 |a_ g i off n c b hb=>exact .a_ _ _ _ _ (bm.1 hb).1
 |skp g=>exact .skp
 |any g v h1=>exact .any
 |bz g i b hb=>exact .bz _ (bm.1 hb).1
 |dq g f vs cs hl hr ih=>exact .dq _ _ λd hd=>by obtain⟨q,hq⟩:=po.1 hd;exact ih q d hq
theorem RG.bZ {c:Ctx}{s:St}{a:Act}{w:World}{g:Gh}(h:RG c s a w g):∀(i:Nat) (x:Bx),s.bx[i]? =some x->x.Db s.bx.length s.rw.length:=by
 intro i x hi;cases x with
 |mu cs=>
  intro d hd;obtain⟨b,vs,t,e1,e2,e3,e4,e5,e6⟩:=(h.bx i cs hi).ex;obtain⟨q,hq⟩:=po.1 hd;have:=(e3.2 q d hq).1.names;rw[<-h.lβ,<-h.lρ];exact this
 |mp es=>
  intro p hp;obtain⟨b,hm⟩:=h.mp i es hi;obtain⟨ms,cl,h1,h2,h3⟩:=hm.ex;obtain⟨q,hq⟩:=po.1 hp;have jm:q < ms.size:=by rw[h2];exact(bm.1 hq).1
  have:=h3 q p ms[q] hq (Array.getElem?_eq_getElem jm);rw[<-h.lβ];exact⟨this.1.names,this.2.names⟩
 |fz cs=>trivial
 |dead=>trivial
end Go.Ab
end
section
namespace Go.Ab
open Go.RowKit
section
variable {c:Ctx} {s:St} {Q:Exit->St->Prop} {code:Code}
theorem tO (i q:Nat)(e:TypeId)(sz:Nat)(cs:List D)(hi:s.bx[i]? =some (.mu cs))(hq:cs[q]? =some (.val (.slice none 0 0)))
  (h:az c code Q {s with bx:=s.bx.set i (.mu (cs.set q (.own s.rw.length))),rw:=s.rw++[⟨true,e,sz,[]⟩]}):az c code Q s:=by
 rintro a w ⟨g,hg⟩;refine h a w ⟨⟨g.S,g.β,g.ρ++[.slice none 0 0],g.M⟩, ?_⟩;have hp:=hg.yp e sz;have en:i < s.bx.length:=(bm.1 hi).1;have jm:q < cs.length:=(bm.1 hq).1;have hold:∀(j:Nat) (x:Bx),(s.bx.set i (.mu (cs.set q (.own s.rw.length))))[j]? =some x->(j=i/\x= .mu (cs.set q (.own s.rw.length)))\/(j≠i/\s.bx[j]? =some x):=λj x hj=>by
  by_cases bd:j=i
  ·subst bd;rw[je en]at hj;exact .inl ⟨rfl,(Option.some.inj hj).symm⟩
  ·rw[gz (Ne.symm bd)]at hj;exact .inr ⟨bd,hj⟩
 obtain⟨κ,k1,k2⟩:=hp.ap;refine⟨hp.df,hp.sz,hp.below,hp.cY,hp.bt,hp.eD,hp.S0,hp.fU,by simpa using hp.lβ,hp.lρ,hp.sl,λj ds hj=> ?_,λj ds hj=> ?_,hp.rw,⟨κ,λj x b hj hx hb=> ?_,k2⟩,λj es hj=>by
  rcases hold j _ hj with⟨_,e1⟩|⟨_,gE⟩
  ·cases e1
  ·exact hp.mp j es gE⟩
 ·rcases hold j _ hj with⟨rfl,e1⟩|⟨_,gE⟩
  ·cases e1;obtain⟨b,vs,t,f1,f2,f3,f4,f5,f6⟩:=(hp.bx j cs hi).ex;refine⟨b,vs,t,f1,f2,⟨by rw[List.length_set];exact f3.1,λp d hd=> ?_⟩,f4,f5,λhh=>by cases hh⟩;by_cases pJ:p=q
   ·subst pJ;rw[je jm]at hd;cases hd;obtain⟨g1,g2⟩:=f3.2 p _ hq;refine⟨?_,g2⟩;generalize vs.getD p undef=v at g1;simp only[if_true]at g1⊢;cases g1;exact .own _ _ _ (by rw[<-hg.lρ];simp)
   ·rw[gz (Ne.symm pJ)]at hd;exact f3.2 p d hd
  ·exact hp.bx j ds gE
 ·rcases hold j _ hj with⟨_,e1⟩|⟨_,gE⟩
  ·cases e1
  ·exact hp.fz j ds gE
 ·rcases hold j _ hj with⟨rfl,_⟩|⟨_,gE⟩
  ·exact k1 j _ b hi rfl hb
  ·exact k1 j x b gE hx hb
end
end Go.Ab
end
namespace Go.Proofs.YtopobgihpdaggaaGreatDoor
open Go.Ab
theorem aj {p:Prop}(h:p:=by kernel_rfl):p:=h
@[go_sem] theorem aiA:Go.Ab.aJ ae 3=1:=aj
@[go_sem] theorem amC:Go.Ab.cM ae 3=some false:=aj
@[go_sem] theorem alV:Go.Ab.bytesOf ae 3=8:=aj
@[go_sem] theorem ajG:Go.Ab.lX ae 3=some .i64:=aj
@[go_sem] theorem ahH:Go.Ab.bX ae 3=some [.int .i64 0]:=aj
@[go_sem] theorem aim:Go.Ab.aJ ae 4=1:=aj
@[go_sem] theorem amo:Go.Ab.cM ae 4=some false:=aj
@[go_sem] theorem aht:Go.Ab.bX ae 4=some [.bool false]:=aj
@[go_sem] theorem aih:Go.Ab.aJ ae 5=1:=aj
@[go_sem] theorem ami:Go.Ab.cM ae 5=some false:=aj
@[go_sem] theorem alU:Go.Ab.bytesOf ae 5=1:=aj
@[go_sem] theorem ajF:Go.Ab.lX ae 5=some .u8:=aj
@[go_sem] theorem ahp:Go.Ab.bX ae 5=some [.int .u8 0]:=aj
@[go_sem] theorem ah7:Go.Ab.aJ ae 9=1:=aj
@[go_sem] theorem al9:Go.Ab.cM ae 9=some false:=aj
@[go_sem] theorem alq:Go.Ab.elemOf ae 9=none:=aj
@[go_sem] theorem alQ:Go.Ab.bytesOf ae 9=16:=aj
@[go_sem] theorem ahg:Go.Ab.bX ae 9=some [.str ⟨#[]⟩]:=aj
@[go_sem] theorem ajI:Go.Ab.lX ae 21=some .i32:=aj
@[go_sem] theorem aiI:Go.Ab.aJ ae 22=1:=aj
@[go_sem] theorem amL:Go.Ab.cM ae 22=some false:=aj
@[go_sem] theorem alE:Go.Ab.elemOf ae 22=some 53:=aj
@[go_sem] theorem aiH:Go.Ab.aJ ae 23=1:=aj
@[go_sem] theorem amK:Go.Ab.cM ae 23=some false:=aj
@[go_sem] theorem alD:Go.Ab.elemOf ae 23=some 48:=aj
@[go_sem] theorem aiG:Go.Ab.aJ ae 24=1:=aj
@[go_sem] theorem amJ:Go.Ab.cM ae 24=some false:=aj
@[go_sem] theorem alC:Go.Ab.elemOf ae 24=some 3:=aj
@[go_sem] theorem alW:Go.Ab.bytesOf ae 24=24:=aj
@[go_sem] theorem ahM:Go.Ab.bX ae 24=some [.val (.slice none 0 0)]:=aj
@[go_sem] theorem aiF:Go.Ab.aJ ae 26=3:=aj
@[go_sem] theorem amI:Go.Ab.cM ae 26=some true:=aj
@[go_sem] theorem ahL:Go.Ab.bX ae 26=some [.val (.slice none 0 0), .val (.slice none 0 0), .int .i64 0]:=aj
@[go_sem] theorem akS:Go.Ab.bq ae 26 0=some (0,23):=aj
@[go_sem] theorem akR:Go.Ab.bq ae 26 1=some (1,24):=aj
@[go_sem] theorem akQ:Go.Ab.bq ae 26 2=some (2,3):=aj
@[go_sem] theorem ajm:Go.Ab.eP ae 26=some λi=>([(0,1),(1,1),(2,1)]:List (Nat×Nat))[i]? :=aj
@[go_sem] theorem aiC:Go.Ab.aJ ae 28=3:=aj
@[go_sem] theorem amE:Go.Ab.cM ae 28=some true:=aj
@[go_sem] theorem ahI:Go.Ab.bX ae 28=some [.int .i64 0, .int .i64 0, .int .i64 0]:=aj
@[go_sem] theorem akO:Go.Ab.bq ae 28 0=some (0,3):=aj
@[go_sem] theorem akN:Go.Ab.bq ae 28 1=some (1,3):=aj
@[go_sem] theorem akM:Go.Ab.bq ae 28 2=some (2,3):=aj
@[go_sem] theorem ajj:Go.Ab.eP ae 28=some λi=>([(0,1),(1,1),(2,1)]:List (Nat×Nat))[i]? :=aj
@[go_sem] theorem aiB:Go.Ab.aJ ae 29=1:=aj
@[go_sem] theorem amD:Go.Ab.cM ae 29=some false:=aj
@[go_sem] theorem alB:Go.Ab.elemOf ae 29=some 97:=aj
@[go_sem] theorem aiz:Go.Ab.aJ ae 30=1:=aj
@[go_sem] theorem amB:Go.Ab.cM ae 30=some false:=aj
@[go_sem] theorem alA:Go.Ab.elemOf ae 30=some 101:=aj
@[go_sem] theorem aiy:Go.Ab.aJ ae 31=1:=aj
@[go_sem] theorem amA:Go.Ab.cM ae 31=some false:=aj
@[go_sem] theorem alz:Go.Ab.elemOf ae 31=some 103:=aj
@[go_sem] theorem aiw:Go.Ab.aJ ae 33=9:=aj
@[go_sem] theorem amy:Go.Ab.cM ae 33=some true:=aj
@[go_sem] theorem ahD:Go.Ab.bX ae 33=some [.int .i64 0, .val (.slice none 0 0), .val (.slice none 0 0), .val (.slice none 0 0), .int .i64 0, .int .i64 0, .int .i64 0, .int .i64 0, .int .i64 0]:=aj
@[go_sem] theorem akK:Go.Ab.bq ae 33 0=some (0,3):=aj
@[go_sem] theorem akJ:Go.Ab.bq ae 33 1=some (1,29):=aj
@[go_sem] theorem akI:Go.Ab.bq ae 33 2=some (2,30):=aj
@[go_sem] theorem akH:Go.Ab.bq ae 33 3=some (3,31):=aj
@[go_sem] theorem akG:Go.Ab.bq ae 33 4=some (4,3):=aj
@[go_sem] theorem akF:Go.Ab.bq ae 33 5=some (5,3):=aj
@[go_sem] theorem akE:Go.Ab.bq ae 33 6=some (6,3):=aj
@[go_sem] theorem akD:Go.Ab.bq ae 33 7=some (7,3):=aj
@[go_sem] theorem akC:Go.Ab.bq ae 33 8=some (8,3):=aj
@[go_sem] theorem ajf:Go.Ab.eP ae 33=some λi=>([(0,1),(1,1),(2,1),(3,1),(4,1),(5,1),(6,1),(7,1),(8,1)]:List (Nat×Nat))[i]? :=aj
@[go_sem] theorem ait:Go.Ab.aJ ae 35=3:=aj
@[go_sem] theorem amu:Go.Ab.cM ae 35=some true:=aj
@[go_sem] theorem ahA:Go.Ab.bX ae 35=some [.int .i64 0, .int .i64 0, .int .i64 0]:=aj
@[go_sem] theorem ako:Go.Ab.bq ae 35 0=some (0,3):=aj
@[go_sem] theorem akn:Go.Ab.bq ae 35 1=some (1,3):=aj
@[go_sem] theorem akm:Go.Ab.bq ae 35 2=some (2,3):=aj
@[go_sem] theorem ajc:Go.Ab.eP ae 35=some λi=>([(0,1),(1,1),(2,1)]:List (Nat×Nat))[i]? :=aj
@[go_sem] theorem aio:Go.Ab.aJ ae 37=25:=aj
@[go_sem] theorem amq:Go.Ab.cM ae 37=some true:=aj
@[go_sem] theorem ahw:Go.Ab.bX ae 37=some [.val (.slice none 0 0), .val (.slice none 0 0), .val (.slice none 0 0), .int .i64 0, .int .i64 0, .int .i64 0, .int .i64 0, .int .i64 0, .int .i64 0, .int .i64 0, .int .i64 0, .val (.slice none 0 0), .val (.slice none 0 0), .val (.slice none 0 0), .int .i64 0, .int .i64 0, .int .i64 0, .int .i64 0, .int .i64 0, .int .i64 0, .val (.slice none 0 0), .int .i64 0, .int .i64 0, .int .i64 0, .int .i64 0]:=aj
@[go_sem] theorem akl:Go.Ab.bq ae 37 0=some (0,22):=aj
@[go_sem] theorem akk:Go.Ab.bq ae 37 1=some (1,26):=aj
@[go_sem] theorem aki:Go.Ab.bq ae 37 2=some (4,28):=aj
@[go_sem] theorem akh:Go.Ab.bq ae 37 3=some (7,3):=aj
@[go_sem] theorem akg:Go.Ab.bq ae 37 4=some (8,3):=aj
@[go_sem] theorem akf:Go.Ab.bq ae 37 5=some (9,3):=aj
@[go_sem] theorem ake:Go.Ab.bq ae 37 6=some (10,33):=aj
@[go_sem] theorem akd:Go.Ab.bq ae 37 7=some (19,3):=aj
@[go_sem] theorem akc:Go.Ab.bq ae 37 8=some (20,24):=aj
@[go_sem] theorem akb:Go.Ab.bq ae 37 9=some (21,35):=aj
@[go_sem] theorem akj:Go.Ab.bq ae 37 10=some (24,3):=aj
@[go_sem] theorem ai':Go.Ab.eP ae 37=some λi=>([(0,1),(1,3),(4,3),(7,1),(8,1),(9,1),(10,9),(19,1),(20,1),(21,3),(24,1)]:List (Nat×Nat))[i]? :=aj
@[go_sem] theorem amn:Go.Ab.cM ae 40=some false:=aj
@[go_sem] theorem aik:Go.Ab.aJ ae 43=1:=aj
@[go_sem] theorem aml:Go.Ab.cM ae 43=some false:=aj
@[go_sem] theorem aij:Go.Ab.aJ ae 48=2:=aj
@[go_sem] theorem amk:Go.Ab.cM ae 48=some true:=aj
@[go_sem] theorem ahq:Go.Ab.bX ae 48=some [.int .i64 0, .int .i64 0]:=aj
@[go_sem] theorem aj_:Go.Ab.bq ae 48 0=some (0,3):=aj
@[go_sem] theorem aj9:Go.Ab.bq ae 48 1=some (1,3):=aj
@[go_sem] theorem ai6:Go.Ab.eP ae 48=some λi=>([(0,1),(1,1)]:List (Nat×Nat))[i]? :=aj
@[go_sem] theorem aii:Go.Ab.aJ ae 49=1:=aj
@[go_sem] theorem amj:Go.Ab.cM ae 49=some false:=aj
@[go_sem] theorem alw:Go.Ab.elemOf ae 49=some 92:=aj
@[go_sem] theorem aif:Go.Ab.aJ ae 51=9:=aj
@[go_sem] theorem amh:Go.Ab.cM ae 51=some true:=aj
@[go_sem] theorem aho:Go.Ab.bX ae 51=some [.int .i64 0, .int .i64 0, .int .i64 0, .int .i64 0, .int .i64 0, .int .i64 0, .int .i64 0, .int .i64 0, .val (.slice none 0 0)]:=aj
@[go_sem] theorem aj8:Go.Ab.bq ae 51 0=some (0,48):=aj
@[go_sem] theorem aj7:Go.Ab.bq ae 51 1=some (2,48):=aj
@[go_sem] theorem aj6:Go.Ab.bq ae 51 2=some (4,3):=aj
@[go_sem] theorem aj5:Go.Ab.bq ae 51 3=some (5,3):=aj
@[go_sem] theorem aj4:Go.Ab.bq ae 51 4=some (6,3):=aj
@[go_sem] theorem aj3:Go.Ab.bq ae 51 5=some (7,3):=aj
@[go_sem] theorem aj2:Go.Ab.bq ae 51 6=some (8,49):=aj
@[go_sem] theorem ai5:Go.Ab.eP ae 51=some λi=>([(0,2),(2,2),(4,1),(5,1),(6,1),(7,1),(8,1)]:List (Nat×Nat))[i]? :=aj
@[go_sem] theorem aie:Go.Ab.aJ ae 53=10:=aj
@[go_sem] theorem amg:Go.Ab.cM ae 53=some true:=aj
@[go_sem] theorem alT:Go.Ab.bytesOf ae 53=96:=aj
@[go_sem] theorem ahn:Go.Ab.bX ae 53=some [.int .i64 0, .int .i64 0, .int .i64 0, .int .i64 0, .int .i64 0, .int .i64 0, .int .i64 0, .int .i64 0, .val (.slice none 0 0), .int .i64 0]:=aj
@[go_sem] theorem aj1:Go.Ab.bq ae 53 0=some (0,51):=aj
@[go_sem] theorem aj0:Go.Ab.bq ae 53 1=some (9,3):=aj
@[go_sem] theorem ai4:Go.Ab.eP ae 53=some λi=>([(0,9),(9,1)]:List (Nat×Nat))[i]? :=aj
@[go_sem] theorem aid:Go.Ab.aJ ae 56=1:=aj
@[go_sem] theorem amf:Go.Ab.cM ae 56=some false:=aj
@[go_sem] theorem alv:Go.Ab.elemOf ae 56=some 90:=aj
@[go_sem] theorem aic:Go.Ab.aJ ae 58=4:=aj
@[go_sem] theorem ame:Go.Ab.cM ae 58=some true:=aj
@[go_sem] theorem alS:Go.Ab.bytesOf ae 58=48:=aj
@[go_sem] theorem ahm:Go.Ab.bX ae 58=some [.int .i64 0, .int .i64 0, .int .i64 0, .val (.slice none 0 0)]:=aj
@[go_sem] theorem ajZ:Go.Ab.bq ae 58 0=some (0,3):=aj
@[go_sem] theorem ajY:Go.Ab.bq ae 58 1=some (1,3):=aj
@[go_sem] theorem ajX:Go.Ab.bq ae 58 2=some (2,3):=aj
@[go_sem] theorem ajW:Go.Ab.bq ae 58 3=some (3,56):=aj
@[go_sem] theorem ai3:Go.Ab.eP ae 58=some λi=>([(0,1),(1,1),(2,1),(3,1)]:List (Nat×Nat))[i]? :=aj
@[go_sem] theorem aib:Go.Ab.aJ ae 66=1:=aj
@[go_sem] theorem amd:Go.Ab.cM ae 66=some false:=aj
@[go_sem] theorem alu:Go.Ab.elemOf ae 66=some 24:=aj
@[go_sem] theorem ahl:Go.Ab.bX ae 66=some [.val (.slice none 0 0)]:=aj
@[go_sem] theorem aia:Go.Ab.aJ ae 68=3:=aj
@[go_sem] theorem amc:Go.Ab.cM ae 68=some true:=aj
@[go_sem] theorem ahk:Go.Ab.bX ae 68=some [.int .i64 0, .val (.slice none 0 0), .val (.slice none 0 0)]:=aj
@[go_sem] theorem ajV:Go.Ab.bq ae 68 0=some (0,3):=aj
@[go_sem] theorem ajU:Go.Ab.bq ae 68 1=some (1,24):=aj
@[go_sem] theorem ajT:Go.Ab.bq ae 68 2=some (2,66):=aj
@[go_sem] theorem ai2:Go.Ab.eP ae 68=some λi=>([(0,1),(1,1),(2,1)]:List (Nat×Nat))[i]? :=aj
@[go_sem] theorem ah':Go.Ab.aJ ae 73=1:=aj
@[go_sem] theorem amb:Go.Ab.cM ae 73=some false:=aj
@[go_sem] theorem als:Go.Ab.elemOf ae 73=some 9:=aj
@[go_sem] theorem alR:Go.Ab.bytesOf ae 73=24:=aj
@[go_sem] theorem ahj:Go.Ab.bX ae 73=some [.val (.slice none 0 0)]:=aj
@[go_sem] theorem ah_:Go.Ab.aJ ae 76=1:=aj
@[go_sem] theorem ama:Go.Ab.cM ae 76=some false:=aj
@[go_sem] theorem alr:Go.Ab.elemOf ae 76=some 73:=aj
@[go_sem] theorem ahi:Go.Ab.bX ae 76=some [.val (.slice none 0 0)]:=aj
@[go_sem] theorem ah9:Go.Ab.aJ ae 78=1:=aj
@[go_sem] theorem al':Go.Ab.cM ae 78=some false:=aj
@[go_sem] theorem aiY:Go.Ab.rO ae 78=true:=aj
@[go_sem] theorem ahh:Go.Ab.bX ae 78=some [.val (.pointer none)]:=aj
@[go_sem] theorem ah8:Go.Ab.aJ ae 83=1:=aj
@[go_sem] theorem al_:Go.Ab.cM ae 83=some false:=aj
@[go_sem] theorem ah6:Go.Ab.aJ ae 90=3:=aj
@[go_sem] theorem al8:Go.Ab.cM ae 90=some true:=aj
@[go_sem] theorem alP:Go.Ab.bytesOf ae 90=24:=aj
@[go_sem] theorem ahf:Go.Ab.bX ae 90=some [.int .i64 0, .int .i64 0, .int .i64 0]:=aj
@[go_sem] theorem ajS:Go.Ab.bq ae 90 0=some (0,3):=aj
@[go_sem] theorem ajR:Go.Ab.bq ae 90 1=some (1,48):=aj
@[go_sem] theorem ai1:Go.Ab.eP ae 90=some λi=>([(0,1),(1,2)]:List (Nat×Nat))[i]? :=aj
@[go_sem] theorem ah5:Go.Ab.aJ ae 92=3:=aj
@[go_sem] theorem al7:Go.Ab.cM ae 92=some true:=aj
@[go_sem] theorem ahe:Go.Ab.bX ae 92=some [.int .i64 0, .int .i64 0, .int .i64 0]:=aj
@[go_sem] theorem ajQ:Go.Ab.bq ae 92 0=some (0,3):=aj
@[go_sem] theorem ajP:Go.Ab.bq ae 92 1=some (1,48):=aj
@[go_sem] theorem ai0:Go.Ab.eP ae 92=some λi=>([(0,1),(1,2)]:List (Nat×Nat))[i]? :=aj
@[go_sem] theorem ah4:Go.Ab.aJ ae 97=7:=aj
@[go_sem] theorem al6:Go.Ab.cM ae 97=some true:=aj
@[go_sem] theorem ahd:Go.Ab.bX ae 97=some [.int .i64 0, .int .i64 0, .int .i64 0, .int .i64 0, .int .i64 0, .int .i64 0, .int .i64 0]:=aj
@[go_sem] theorem ajO:Go.Ab.bq ae 97 0=some (0,3):=aj
@[go_sem] theorem ajN:Go.Ab.bq ae 97 1=some (1,3):=aj
@[go_sem] theorem ajM:Go.Ab.bq ae 97 2=some (2,3):=aj
@[go_sem] theorem ajL:Go.Ab.bq ae 97 3=some (3,48):=aj
@[go_sem] theorem ajK:Go.Ab.bq ae 97 4=some (5,3):=aj
@[go_sem] theorem ajJ:Go.Ab.bq ae 97 5=some (6,3):=aj
@[go_sem] theorem aiX:Go.Ab.aJ ae 101=3:=aj
@[go_sem] theorem am1:Go.Ab.cM ae 101=some true:=aj
@[go_sem] theorem ah3:Go.Ab.bX ae 101=some [.int .i64 0, .int .i64 0, .int .i64 0]:=aj
@[go_sem] theorem alp:Go.Ab.bq ae 101 0=some (0,3):=aj
@[go_sem] theorem alo:Go.Ab.bq ae 101 1=some (1,3):=aj
@[go_sem] theorem aln:Go.Ab.bq ae 101 2=some (2,3):=aj
@[go_sem] theorem aiW:Go.Ab.aJ ae 103=4:=aj
@[go_sem] theorem am0:Go.Ab.cM ae 103=some true:=aj
@[go_sem] theorem ah2:Go.Ab.bX ae 103=some [.int .i64 0, .int .i64 0, .int .i64 0, .int .i64 0]:=aj
@[go_sem] theorem alm:Go.Ab.bq ae 103 0=some (0,48):=aj
@[go_sem] theorem alk:Go.Ab.bq ae 103 1=some (2,3):=aj
@[go_sem] theorem alj:Go.Ab.bq ae 103 2=some (3,3):=aj
@[go_sem] theorem ajy:Go.Ab.eP ae 103=some λi=>([(0,2),(2,1),(3,1)]:List (Nat×Nat))[i]? :=aj
@[go_sem] theorem alK:Go.Ab.elemOf ae 105=some 5:=aj
@[go_sem] theorem aiV:Go.Ab.aJ ae 121=5:=aj
@[go_sem] theorem amZ:Go.Ab.cM ae 121=some true:=aj
@[go_sem] theorem alJ:Go.Ab.elemOf ae 121=none:=aj
@[go_sem] theorem al5:Go.Ab.pf ae 121=some (5,3):=aj
@[go_sem] theorem ah1:Go.Ab.bX ae 121=some [.int .i64 0, .int .i64 0, .int .i64 0, .int .i64 0, .int .i64 0]:=aj
@[go_sem] theorem amY:Go.Ab.cM ae 125=some false:=aj
@[go_sem] theorem ajB:Go.Ab.mapOf ae 125=some (135,141):=aj
@[go_sem] theorem ahc:Go.Ab.zeroV ae 141=some (.val (.pointer none)):=aj
@[go_sem] theorem ajE:Go.Ab.xN ae 135 (.arr 2):=Go.Ab.aan (Go.Ab.aaj aj aj aj)
@[go_sem] theorem aiU:Go.Ab.aJ ae 126=1:=aj
@[go_sem] theorem amX:Go.Ab.cM ae 126=some false:=aj
@[go_sem] theorem alI:Go.Ab.elemOf ae 126=some 58:=aj
@[go_sem] theorem aiT:Go.Ab.aJ ae 127=1:=aj
@[go_sem] theorem amW:Go.Ab.cM ae 127=some false:=aj
@[go_sem] theorem alH:Go.Ab.elemOf ae 127=some 132:=aj
@[go_sem] theorem aiS:Go.Ab.aJ ae 128=1:=aj
@[go_sem] theorem amV:Go.Ab.cM ae 128=some false:=aj
@[go_sem] theorem alG:Go.Ab.elemOf ae 128=some 186:=aj
@[go_sem] theorem ah0:Go.Ab.bX ae 130=some [.val (.slice none 0 0), .val (.slice none 0 0), .val (.slice none 0 0), .int .i64 0, .int .i64 0, .int .i64 0, .int .i64 0, .int .i64 0, .int .i64 0, .int .i64 0, .int .i64 0, .val (.slice none 0 0), .val (.slice none 0 0), .val (.slice none 0 0), .int .i64 0, .int .i64 0, .int .i64 0, .int .i64 0, .int .i64 0, .int .i64 0, .val (.slice none 0 0), .int .i64 0, .int .i64 0, .int .i64 0, .int .i64 0, .val (.slice none 0 0), .val (.slice none 0 0), .val (.map none), .int .i64 0, .val (.slice none 0 0), .bool false]:=aj
@[go_sem] theorem ali:Go.Ab.bq ae 130 0=some (0,37):=aj
@[go_sem] theorem alh:Go.Ab.bq ae 130 1=some (25,126):=aj
@[go_sem] theorem alg:Go.Ab.bq ae 130 2=some (26,127):=aj
@[go_sem] theorem alf:Go.Ab.bq ae 130 3=some (27,125):=aj
@[go_sem] theorem ale:Go.Ab.bq ae 130 4=some (28,3):=aj
@[go_sem] theorem ald:Go.Ab.bq ae 130 5=some (29,128):=aj
@[go_sem] theorem alc:Go.Ab.bq ae 130 6=some (30,4):=aj
@[go_sem] theorem ajx:Go.Ab.eP ae 130=some λi=>([(0,25),(25,1),(26,1),(27,1),(28,1),(29,1),(30,1)]:List (Nat×Nat))[i]? :=aj
@[go_sem] theorem aiR:Go.Ab.aJ ae 132=1:=aj
@[go_sem] theorem alX:Go.Ab.bytesOf ae 132=8:=aj
@[go_sem] theorem ajC:Go.Ab.ua ae 3 false 1:=Go.Ab.aak aj
@[go_sem] theorem ahZ:Go.Ab.bX ae 132=some [.val (.map none)]:=aj
@[go_sem] theorem aiQ:Go.Ab.aJ ae 135=2:=aj
@[go_sem] theorem amU:Go.Ab.cM ae 135=some true:=aj
@[go_sem] theorem ahY:Go.Ab.bX ae 135=some [.int .i64 0, .int .i64 0]:=aj
@[go_sem] theorem alb:Go.Ab.bq ae 135 1=some (1,3):=aj
@[go_sem] theorem ajw:Go.Ab.eP ae 135=some λi=>([(0,1),(1,1)]:List (Nat×Nat))[i]? :=aj
@[go_sem] theorem alO:Go.Ab.xb ae 138=true:=aj
@[go_sem] theorem ahX:Go.Ab.bX ae 138=some [.int .i64 0, .int .i64 0, .val (.slice none 0 0)]:=aj
@[go_sem] theorem ajv:Go.Ab.eP ae 138=some λi=>([(0,1),(1,1),(2,1)]:List (Nat×Nat))[i]? :=aj
@[go_sem] theorem aiZ:Go.Ab.rO ae 141=true:=aj
@[go_sem] theorem ahW:Go.Ab.bX ae 143=some [.val (.slice none 0 0), .int .i64 0]:=aj
@[go_sem] theorem ala:Go.Ab.bq ae 143 0=some (0,24):=aj
@[go_sem] theorem ak':Go.Ab.bq ae 143 1=some (1,3):=aj
@[go_sem] theorem aju:Go.Ab.eP ae 143=some λi=>([(0,1),(1,1)]:List (Nat×Nat))[i]? :=aj
@[go_sem] theorem alN:Go.Ab.xb ae 145=true:=aj
@[go_sem] theorem ahV:Go.Ab.bX ae 145=some [.int .i64 0, .int .i64 0, .int .i64 0]:=aj
@[go_sem] theorem ajt:Go.Ab.eP ae 145=some λi=>([(0,1),(1,1),(2,1)]:List (Nat×Nat))[i]? :=aj
@[go_sem] theorem amT:Go.Ab.cM ae 155=some false:=aj
@[go_sem] theorem aiP:Go.Ab.aJ ae 157=5:=aj
@[go_sem] theorem ahU:Go.Ab.bX ae 157=some [.val .nilFunc, .int .i64 0, .bool false, .bool false, .bool false]:=aj
@[go_sem] theorem ak_:Go.Ab.bq ae 157 0=some (0,155):=aj
@[go_sem] theorem ak9:Go.Ab.bq ae 157 1=some (1,3):=aj
@[go_sem] theorem ak8:Go.Ab.bq ae 157 2=some (2,4):=aj
@[go_sem] theorem ak7:Go.Ab.bq ae 157 3=some (3,4):=aj
@[go_sem] theorem ajs:Go.Ab.eP ae 157=some λi=>([(0,1),(1,1),(2,1),(3,1),(4,1)]:List (Nat×Nat))[i]? :=aj
@[go_sem] theorem aiO:Go.Ab.aJ ae 159=7:=aj
@[go_sem] theorem amS:Go.Ab.cM ae 159=some true:=aj
@[go_sem] theorem ahT:Go.Ab.bX ae 159=some [.val .nilFunc, .int .i64 0, .bool false, .bool false, .bool false, .val (.slice none 0 0), .val (.slice none 0 0)]:=aj
@[go_sem] theorem ak6:Go.Ab.bq ae 159 0=some (0,157):=aj
@[go_sem] theorem ak5:Go.Ab.bq ae 159 1=some (5,24):=aj
@[go_sem] theorem ak4:Go.Ab.bq ae 159 2=some (6,76):=aj
@[go_sem] theorem aiN:Go.Ab.aJ ae 166=4:=aj
@[go_sem] theorem amR:Go.Ab.cM ae 166=some true:=aj
@[go_sem] theorem ahS:Go.Ab.bX ae 166=some [.val (.slice none 0 0), .val (.slice none 0 0), .int .i64 0, .val (.slice none 0 0)]:=aj
@[go_sem] theorem ak3:Go.Ab.bq ae 166 0=some (0,26):=aj
@[go_sem] theorem ak2:Go.Ab.bq ae 166 1=some (3,76):=aj
@[go_sem] theorem ajr:Go.Ab.eP ae 166=some λi=>([(0,3),(3,1)]:List (Nat×Nat))[i]? :=aj
@[go_sem] theorem al4:Go.Ab.pf ae 176=some (6,43):=aj
@[go_sem] theorem ahR:Go.Ab.bX ae 176=some [.int .i64 0, .int .i64 0, .int .i64 0, .int .i64 0, .int .i64 0, .int .i64 0]:=aj
@[go_sem] theorem ajq:Go.Ab.eP ae 176=some λi=>some (i * 1,1):=aj
@[go_sem] theorem aiM:Go.Ab.aJ ae 188=1:=aj
@[go_sem] theorem amQ:Go.Ab.cM ae 188=some false:=aj
@[go_sem] theorem al3:Go.Ab.pf ae 189=some (4,188):=aj
@[go_sem] theorem ahQ:Go.Ab.bX ae 189=some [.val .nilFunc, .val .nilFunc, .val .nilFunc, .val .nilFunc]:=aj
@[go_sem] theorem ajp:Go.Ab.eP ae 189=some λi=>some (i * 1,1):=aj
@[go_sem] theorem ajA:Go.Ab.mapOf ae 196=some (9,157):=aj
@[go_sem] theorem ahb:Go.Ab.zeroV ae 157=some (.agg [.val .nilFunc, .int .i64 0, .bool false, .bool false, .bool false]):=aj
@[go_sem] theorem ajD:Go.Ab.xN ae 9 .str:=Go.Ab.aal aj
@[go_sem] theorem aiL:Go.Ab.aJ ae 206=1:=aj
@[go_sem] theorem amP:Go.Ab.cM ae 206=some false:=aj
@[go_sem] theorem ahP:Go.Ab.bX ae 206=some [.val .nilFunc]:=aj
@[go_sem] theorem aiK:Go.Ab.aJ ae 208=3:=aj
@[go_sem] theorem amO:Go.Ab.cM ae 208=some true:=aj
@[go_sem] theorem alF:Go.Ab.elemOf ae 208=none:=aj
@[go_sem] theorem al2:Go.Ab.pf ae 208=some (3,3):=aj
@[go_sem] theorem ahO:Go.Ab.bX ae 208=some [.int .i64 0, .int .i64 0, .int .i64 0]:=aj
@[go_sem] theorem ajo:Go.Ab.eP ae 208=some λi=>some (i * 1,1):=aj
@[go_sem] theorem amN:Go.Ab.cM ae 216=some false:=aj
@[go_sem] theorem ajz:Go.Ab.mapOf ae 216=some (3,48):=aj
@[go_sem] theorem aha:Go.Ab.zeroV ae 48=some (.agg [.int .i64 0, .int .i64 0]):=aj
@[go_sem] theorem aiJ:Go.Ab.aJ ae 218=10:=aj
@[go_sem] theorem amM:Go.Ab.cM ae 218=some true:=aj
@[go_sem] theorem ahN:Go.Ab.bX ae 218=some [.int .i64 0, .int .i64 0, .int .i64 0, .int .i64 0, .int .i64 0, .int .i64 0, .int .i64 0, .int .i64 0, .val (.slice none 0 0), .val (.map none)]:=aj
@[go_sem] theorem ak1:Go.Ab.bq ae 218 0=some (0,51):=aj
@[go_sem] theorem ak0:Go.Ab.bq ae 218 1=some (9,216):=aj
@[go_sem] theorem ajn:Go.Ab.eP ae 218=some λi=>([(0,9),(9,1)]:List (Nat×Nat))[i]? :=aj
@[go_sem] theorem ajH:Go.Ab.lX ae 244=some .u64:=aj
@[go_sem] theorem amH:Go.Ab.cM ae 265=some false:=aj
@[go_sem] theorem aiE:Go.Ab.aJ ae 267=10:=aj
@[go_sem] theorem amG:Go.Ab.cM ae 267=some true:=aj
@[go_sem] theorem ahK:Go.Ab.bX ae 267=some [.int .i64 0, .int .i64 0, .int .i64 0, .int .i64 0, .int .i64 0, .int .i64 0, .int .i64 0, .int .i64 0, .int .i64 0, .int .i64 0]:=aj
@[go_sem] theorem akZ:Go.Ab.bq ae 267 0=some (0,3):=aj
@[go_sem] theorem akY:Go.Ab.bq ae 267 1=some (1,3):=aj
@[go_sem] theorem akX:Go.Ab.bq ae 267 2=some (2,265):=aj
@[go_sem] theorem akW:Go.Ab.bq ae 267 3=some (3,3):=aj
@[go_sem] theorem akV:Go.Ab.bq ae 267 4=some (4,48):=aj
@[go_sem] theorem akU:Go.Ab.bq ae 267 5=some (6,48):=aj
@[go_sem] theorem akT:Go.Ab.bq ae 267 6=some (8,48):=aj
@[go_sem] theorem ajl:Go.Ab.eP ae 267=some λi=>([(0,1),(1,1),(2,1),(3,1),(4,2),(6,2),(8,2)]:List (Nat×Nat))[i]? :=aj
@[go_sem] theorem aiD:Go.Ab.aJ ae 272=2:=aj
@[go_sem] theorem amF:Go.Ab.cM ae 272=some true:=aj
@[go_sem] theorem ahJ:Go.Ab.bX ae 272=some [.int .i64 0, .val (.slice none 0 0)]:=aj
@[go_sem] theorem akP:Go.Ab.bq ae 272 1=some (1,24):=aj
@[go_sem] theorem ajk:Go.Ab.eP ae 272=some λi=>([(0,1),(1,1)]:List (Nat×Nat))[i]? :=aj
@[go_sem] theorem alM:Go.Ab.xb ae 309=true:=aj
@[go_sem] theorem ahG:Go.Ab.bX ae 309=some [.int .i64 0, .int .i64 0, .int .i64 0, .int .i64 0, .int .i64 0, .int .i64 0, .int .i64 0, .int .i64 0, .int .i64 0, .int .i64 0, .int .i64 0]:=aj
@[go_sem] theorem aji:Go.Ab.eP ae 309=some λi=>([(0,1),(1,10)]:List (Nat×Nat))[i]? :=aj
@[go_sem] theorem aix:Go.Ab.aJ ae 311=6:=aj
@[go_sem] theorem amz:Go.Ab.cM ae 311=some true:=aj
@[go_sem] theorem ahF:Go.Ab.bX ae 311=some [.int .i64 0, .int .i64 0, .int .i64 0, .int .i64 0, .int .i64 0, .int .i64 0]:=aj
@[go_sem] theorem akL:Go.Ab.bq ae 311 1=some (2,48):=aj
@[go_sem] theorem ajh:Go.Ab.eP ae 311=some λi=>([(0,2),(2,2),(4,2)]:List (Nat×Nat))[i]? :=aj
@[go_sem] theorem alL:Go.Ab.xb ae 319=true:=aj
@[go_sem] theorem ahE:Go.Ab.bX ae 319=some [.int .i64 0, .int .i64 0, .val (.slice none 0 0)]:=aj
@[go_sem] theorem ajg:Go.Ab.eP ae 319=some λi=>([(0,1),(1,1),(2,1)]:List (Nat×Nat))[i]? :=aj
@[go_sem] theorem amx:Go.Ab.cM ae 340=some false:=aj
@[go_sem] theorem aiv:Go.Ab.aJ ae 343=7:=aj
@[go_sem] theorem amw:Go.Ab.cM ae 343=some true:=aj
@[go_sem] theorem ahC:Go.Ab.bX ae 343=some [.int .i64 0, .int .i64 0, .int .i64 0, .int .i64 0, .int .i64 0, .int .i64 0, .int .i64 0]:=aj
@[go_sem] theorem akB:Go.Ab.bq ae 343 0=some (0,3):=aj
@[go_sem] theorem akA:Go.Ab.bq ae 343 1=some (1,3):=aj
@[go_sem] theorem akz:Go.Ab.bq ae 343 2=some (2,3):=aj
@[go_sem] theorem aky:Go.Ab.bq ae 343 3=some (3,3):=aj
@[go_sem] theorem akx:Go.Ab.bq ae 343 4=some (4,3):=aj
@[go_sem] theorem akw:Go.Ab.bq ae 343 5=some (5,3):=aj
@[go_sem] theorem akv:Go.Ab.bq ae 343 6=some (6,3):=aj
@[go_sem] theorem aje:Go.Ab.eP ae 343=some λi=>([(0,1),(1,1),(2,1),(3,1),(4,1),(5,1),(6,1)]:List (Nat×Nat))[i]? :=aj
@[go_sem] theorem aiu:Go.Ab.aJ ae 345=3:=aj
@[go_sem] theorem amv:Go.Ab.cM ae 345=some true:=aj
@[go_sem] theorem ahB:Go.Ab.bX ae 345=some [.int .i64 0, .int .i64 0, .int .i64 0]:=aj
@[go_sem] theorem aku:Go.Ab.bq ae 345 0=some (0,3):=aj
@[go_sem] theorem akt:Go.Ab.bq ae 345 1=some (1,3):=aj
@[go_sem] theorem aks:Go.Ab.bq ae 345 2=some (2,3):=aj
@[go_sem] theorem ajd:Go.Ab.eP ae 345=some λi=>([(0,1),(1,1),(2,1)]:List (Nat×Nat))[i]? :=aj
@[go_sem] theorem ais:Go.Ab.aJ ae 352=2:=aj
@[go_sem] theorem amt:Go.Ab.cM ae 352=some true:=aj
@[go_sem] theorem ahz:Go.Ab.bX ae 352=some [.int .i64 0, .int .i64 0]:=aj
@[go_sem] theorem akr:Go.Ab.bq ae 352 0=some (0,3):=aj
@[go_sem] theorem ajb:Go.Ab.eP ae 352=some λi=>([(0,1),(1,1)]:List (Nat×Nat))[i]? :=aj
@[go_sem] theorem aiq:Go.Ab.aJ ae 354=6:=aj
@[go_sem] theorem ams:Go.Ab.cM ae 354=some true:=aj
@[go_sem] theorem ahy:Go.Ab.bX ae 354=some [.int .i64 0, .int .i64 0, .int .i64 0, .val (.slice none 0 0), .int .i64 0, .int .i64 0]:=aj
@[go_sem] theorem akq:Go.Ab.bq ae 354 0=some (0,58):=aj
@[go_sem] theorem akp:Go.Ab.bq ae 354 1=some (4,352):=aj
@[go_sem] theorem aja:Go.Ab.eP ae 354=some λi=>([(0,4),(4,2)]:List (Nat×Nat))[i]? :=aj
@[go_sem] theorem aip:Go.Ab.aJ ae 358=2:=aj
@[go_sem] theorem amr:Go.Ab.cM ae 358=some true:=aj
@[go_sem] theorem aly:Go.Ab.elemOf ae 358=none:=aj
@[go_sem] theorem al1:Go.Ab.pf ae 358=some (2,24):=aj
@[go_sem] theorem ahx:Go.Ab.bX ae 358=some [.val (.slice none 0 0), .val (.slice none 0 0)]:=aj
@[go_sem] theorem ain:Go.Ab.aJ ae 383=8:=aj
@[go_sem] theorem amp:Go.Ab.cM ae 383=some true:=aj
@[go_sem] theorem ahv:Go.Ab.bX ae 383=some [.int .i64 0, .int .i64 0, .int .i64 0, .int .i64 0, .int .i64 0, .int .i64 0, .int .i64 0, .int .i64 0]:=aj
@[go_sem] theorem aka:Go.Ab.bq ae 383 0=some (0,343):=aj
@[go_sem] theorem aj':Go.Ab.bq ae 383 1=some (7,3):=aj
@[go_sem] theorem ai_:Go.Ab.eP ae 383=some λi=>([(0,7),(7,1)]:List (Nat×Nat))[i]? :=aj
@[go_sem] theorem al0:Go.Ab.pf ae 388=some (2,83):=aj
@[go_sem] theorem ahu:Go.Ab.bX ae 388=some [.val .nilFunc, .val .nilFunc]:=aj
@[go_sem] theorem ai9:Go.Ab.eP ae 388=some λi=>some (i * 1,1):=aj
@[go_sem] theorem alZ:Go.Ab.pf ae 404=some (3,83):=aj
@[go_sem] theorem ahs:Go.Ab.bX ae 404=some [.val .nilFunc, .val .nilFunc, .val .nilFunc]:=aj
@[go_sem] theorem ai8:Go.Ab.eP ae 404=some λi=>some (i * 1,1):=aj
@[go_sem] theorem ail:Go.Ab.aJ ae 411=17:=aj
@[go_sem] theorem amm:Go.Ab.cM ae 411=some true:=aj
@[go_sem] theorem alx:Go.Ab.elemOf ae 411=none:=aj
@[go_sem] theorem alY:Go.Ab.pf ae 411=some (17,3):=aj
@[go_sem] theorem ahr:Go.Ab.bX ae 411=some [.int .i64 0, .int .i64 0, .int .i64 0, .int .i64 0, .int .i64 0, .int .i64 0, .int .i64 0, .int .i64 0, .int .i64 0, .int .i64 0, .int .i64 0, .int .i64 0, .int .i64 0, .int .i64 0, .int .i64 0, .int .i64 0, .int .i64 0]:=aj
@[go_sem] theorem ai7:Go.Ab.eP ae 411=some λi=>some (i * 1,1):=aj
theorem Tryz.ty.mixed:ae.follows .mixedOrders=true:=aj
end Go.Proofs.YtopobgihpdaggaaGreatDoor
