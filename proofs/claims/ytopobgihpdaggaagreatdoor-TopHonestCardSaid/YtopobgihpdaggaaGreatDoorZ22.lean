import Derived.Test.YtopobgihpdaggaaGreatDoorZ21
set_option linter.unusedVariables false
set_option linter.unusedSimpArgs false
open And renaming intro->ai
open Array renaming replicate->kq
open Bool renaming eq_false_or_eq_true->bO,false_eq_true->cJ
open Go.Fence renaming wide->eO
open List renaming append_nil->bN,cons_append->bR,foldr->bU,forall_mem_cons->jf,getElem?_cons_succ->xI,getElem?_cons_zero->vu,headD_cons->iy,length_cons->mH,map_cons->jI,map_nil->pq,mem_map->iH,mem_map_of_mem->gP,nil_append->bQ,nodup_nil->vt,not_mem_nil->fu,take_of_length_le->xC
open Nat renaming le_refl->cx,zero_add->jd,zero_le->cv
open Option renaming getD_some->fV,map_some->eW
open Go.Proofs.Tryz renaming f109->IN,f81->nC,prog->ae
open Go.Proofs.Tryz
namespace Go.Proofs.YtopobgihpdaggaaGreatDoor
set_option maxRecDepth 100000
set_option maxHeartbeats 4000000
open Go.Ab Go.mD Go.RowKit Go
theorem agy {l1 l2:List Deferred}{c:Ctx}{code:Code}{Q:Exit->St->Prop}{s:St}{a:Act}{w:World}{Q':Exit->Act->World->Prop}(hr:RX l1 l2 c s a w)(h:fN l1 l2 c code Q s)(hp:∀e a' w' s',RX l1 l2 c s' a' w'->Q e s'->Q' e a' w'):code.wpIn c.F 0 c.P Q' a w:=
 wpIn_mono (h a w hr) λe a' w' ⟨s',r,q⟩=>hp e a' w' s' r q
theorem agD {c:Ctx}{code:Code}{Q:Exit->St->Prop}{s:St}{a:Act}{w:World}{Q':Exit->Act->World->Prop}(hr:R c s a w)(h:az c code Q s)(hp:∀e a' w' s',R c s' a' w'->Q e s'->Q' e a' w'):code.wpIn c.F 0 c.P Q' a w:=
 wpIn_mono (h a w hr) λe a' w' ⟨s',r,q⟩=>hp e a' w' s' r q
attribute[local irreducible] az dI dR ax aT IA fP aZ gZ fN
theorem VW {c:Ctx}{s:St}{a a':Act}{w:World}{g:Gh}{n:Nat}{sl:Nat->D}(h:RG c s a w g)(hs:a'.tmps.size=n)(fY:∀m,Rel w g (a'.tmps.getD m undef) (sl m))(hd:a'.defers=a.defers):RG c ⟨n,sl,s.bx,s.rw⟩ a' w g:=
 ⟨⟨hd▸h.df.cW,h.df.cb,h.df.m0,h.df.fX,h.df.eV,h.df.iA,h.df.fj⟩,hs,h.below,h.cY,h.bt,h.eD,h.S0,h.fU,h.lβ,h.lρ,fY,h.bx,h.fz,h.rw,h.ap,h.mp⟩
theorem agO {P:Program}{S:Addr->Prop}{M:MM}{w:World}{args:List Value}{ds:List D}{n:Nat}(hT:jG w)(hS:Go.Ab.Good w S)(hM:iN w M)(hl:args.length=ds.length)(hn:ds.length<=n)(b9:∀q x,ds[q]? =some x->Rel w ⟨S,[],[],M⟩ (args.getD q Go.undef) x):
  R ⟨P,w,S,M,none,λb=>w.heap.size<=b,[]⟩ ⟨n,oK 0 ds,[],[]⟩ {tmps:=args.toArray++kq (n - args.toArray.size) undef,defers:=[]} w:=by
 refine⟨⟨S,[],[],M⟩,⟨⟨vt,λd hd=>by cases hd⟩,hM,λ_ _ h=>h,λ_ _ h=> .inl h,λi b h=>by simp at h,λ_ _=>rfl,hT.fresh hM⟩,by simp;omega, .of (Below.refl _ _),λ_ h=>h,hS,λ_ h=> .inl h,λ_ h=>h,hS,rfl,rfl, ?_, ?_, ?_, ?_, ?_, ?_⟩
 ·intro m;simp only;rw[yu];simp only[Nat.not_lt_zero,if_false,Nat.sub_zero];cases hd:ds[m]? with
  |none=>exact .undef _ _
  |some x=>
   have hm:=(List.getElem?_eq_some_iff.1 hd).1;have:=b9 m x hd;have e:(args.toArray++kq (n - args.toArray.size) undef).getD m undef=args.getD m undef:=by
    have:m < args.length:=ag;simp[Array.getElem?_append,this]
   rw[e];exact this
 ·intro i cs hi;simp at hi
 ·intro i cs hi;simp at hi
 ·intro i cs hi;simp at hi
 ·exact⟨λ_=> .inl 0,λi x b hi=>by simp at hi,λr row v gb hr=>by simp at hr⟩
 ·intro i es hi;simp at hi
theorem Gg {P:Program}{ops:Array Oper}{Q:Exit->Act->World->Prop}{o:Oper}{rest:List Oper}{a:Act}{w:World}(hg:o.guard=none)(h:o.wpIn eO 0 P a w (wpListIn eO 0 P ops Q rest) Q):
  wpListIn eO 0 P ops Q (o::rest) a w:=by
 unfold wpListIn;rw[if_pos (by simp[Region.wanted,hg])];exact h
theorem aa':ae.underlying 20=some (.interface (ae.methodsAt 20)):=aj
theorem X2 {F:Fence}{n:Nat}{P:Program}{Q:Exit->Act->List Frame->World->Prop}{a:Act}{cs:List Frame}{w:World}{dst:Option Tmp}{ty:TypeId}{pos:String}{aft:Array Edge}(hF:∀f,F.fn f)
  (h:match recoverD cs with|some (v,dp)=>Q .normal (a.put dst v) dp w|none=>Q .normal (a.put dst .nilIface) cs w):
  wpOpsSIn F n P #[⟨dst, .call ⟨.builtin .recover,#[],#[]⟩,ty,pos,aft,none⟩] Q (List.range #[(⟨dst, .call ⟨.builtin .recover,#[],#[]⟩,ty,pos,aft,none⟩:Oper)].size) a cs w:=by
 show wpOpsSIn F n P _ Q [0] a cs w;have bg:(execOp a.eval ⟨dst, .call ⟨.builtin .recover,#[],#[]⟩,ty,pos,aft,none⟩).run P w= .ok .recover w:=by
  simp[execOp,resolve,invoke,builtin]
 simp only[wpOpsSIn,List.getElem?_toArray,vu];refine⟨λf _=>hF f, ?_⟩
 ·rw[if_pos (by simp[Region.wanted]),bg];simp only;cases hr:recoverD cs with
  |none=>rw[hr]at h;exact h
  |some p=>obtain⟨v,dp⟩:=p;rw[hr]at h;exact h
theorem XU (tmps:Array Value)(w:World):(results IN tmps).run ae w= .ok (.tuple #[]) w:=by
 rw[FF,show IN.results=#[]from rfl];simp
theorem eq_nil {a:Act}{w:World}{x:Operand}{dst:Option Tmp}{ty:TypeId}{pos:String}{aft:Array Edge}(ha:a.eval x= .nilIface):(execOp a.eval ⟨dst, .binOp .eql 20 x (.const .nilIface) 20,ty,pos,aft,none⟩).run ae w= .ok (.value (.bool true)) w:=by
 have h1:a.eval (.const Value.nilIface)= .nilIface:=rfl;simp[execOp,ha,h1,eqGuard,run_eql_nil_nil (P:=ae) w 20 aa']
theorem X3 (args:Array Value)(w:World)(hn:args.size<=2):CallsDIn eO 0 ae 109 args .returning w (λe u' w'=>(∃v,e= .returned v)/\u'= .returning/\w'=w):=by
 refine callsDIn_of_wpSIn func109 rfl trivial λc0 cs hu=> ?_;refine wpSIn_seq (wpSIn_region (X2 (λ_=>trivial) ?_));have j9:recoverD (c0::cs)=none:=by simp[recoverD,hu]
 rw[j9];show Code.wpSIn _ _ _ _ _ _ _ _;refine wpSIn_of_wpIn rfl ?_;have DA:IN.ntmps=12:=rfl;generalize ha:(Act.put {tmps:=args++kq (IN.ntmps - args.size) undef,defers:=[]} (some 5) .nilIface:Act)=a;have bo:a.tmps.size=12:=by rw[<-ha];simp[Act.put,DA];omega
 have h7:a.eval (.tmp 5)= .nilIface:=by rw[<-ha];simp[Act.put,Act.eval,DA];omega
 have hd:a.defers=[]:=by rw[<-ha];rfl
 refine wpIn_block (wpIn_seq (wpIn_region_lit (Gg rfl ⟨λ_ _=>trivial, ?_⟩)));rw[Oper.semAt_eq _ _ _ (by intro cl h;cases h),eq_nil h7,Oper.uponIn_value];show Code.wpIn _ _ _ _ _ _ _;have h9:(a.put (some 7) (.bool true)).eval (.tmp 7)= .bool true:=by simp[Act.put,Act.eval,bo]
 refine wpIn_cond_split h9 (λ_=> ?_) (λh=>by cases h);refine wpIn_region_lit (Gg rfl ⟨λ_ _=>trivial, ?_⟩);have h4:(execOp (a.put (some 7) (.bool true)).eval ⟨some 2, .assign (.tmp 5),20, "line.go:229",#[],none⟩).run ae w= .ok (.value ((a.put (some 7) (.bool true)).eval (.tmp 5))) w:=by simp[execOp]
 rw[Oper.semAt_eq _ _ _ (by intro cl h;cases h),h4,Oper.uponIn_value];unfold wpListIn;simp only[Exit.inBlock,bodyPostS];refine⟨hd,c0.mode,rfl, .tuple #[],XU _ _,⟨_,rfl⟩,hu,trivial⟩
def Z7:List D:=[.val .nilFunc,i64 0, .bool false, .bool false, .bool false, .val (.slice none 0 0), .val (.slice none 0 0)]
def rS (t:ByteArray):St:=dD 106 [(0, .str t),(2, .box 0 0),(3, .box 1 0)] [.mu Z7, .mu [.bool false]] []
theorem N2 (t:ByteArray):(rS t).named:=gT rfl rfl
noncomputable def F6:Code:=match nC.body with|some (.seq _ (.seq _ r))=>r|_=> .skip
theorem rv {nb:Nat}{F V:Nat->Bool}{b:Nat->D}(hb:∀m,dA nb 0 (b m)=true):∀{T:dX},(∀e∈T,F e.1=true->dA nb 0 (e.2.2 V)=true)->∀m,dA nb 0 (aI F V T b m)=true
 |[],_,m=>hb m
 |e::T,h,m=>by
  have h1:=h e (List.mem_cons_self ..);have h2:=rv (F:=F) hb (λx hx=>h x (List.mem_cons_of_mem _ hx)) m;simp only[aI];cases hF:F e.1 with
  |false=>exact h2
  |true=>
   simp only[cond_true,put];split
   ·exact h1 hF
   ·exact h2
theorem OG:aT ae 111 [] [.mu Z7, .mu [.bool false]] [] (λd aF aL=>d= .bz 2/\aF=[.mu Z7, .mu [.bool false], .mp sU]/\aL=[]):=by
 refine(aT.frame Zc [] (cu:=[]) (B:=[.mu Z7, .mu [.bool false]]) vt ay rfl rfl).mono ?_;rintro d aF aL ⟨d0,pd,⟨rfl,rfl,rfl⟩,_,rfl,rfl⟩;exact⟨rfl,by simp[pR,nq,qY,pos,gH,sU,D.cP,fW,n_,iZ,dA,db,Z7],rfl⟩
theorem OB (t:ByteArray)(d1 d2:D)(hB:∀(l1 l2:List Deferred) (w0:World) (S0:Addr->Prop) (M0:MM) (own:Nat->Prop) (β:List Nat),β.length=2->
  fN l1 l2 ⟨ae,w0,S0,M0,none,own,β⟩ (F6) (λe s8=>e= .ret/\oH ae s8 nC.results.toList λds=>ds=[d1,d2]) (rS t)):ax ae 81 [.str t] (.aQ [d1,d2]):=by
 have aca:=call81;unfold ax;refine⟨aca,λS M w args hT hS hM hl b9=> ?_⟩;refine(callsIn_wide (n:=0)).1 (callsIn_of_wp_marks func81 rfl trivial ?_);have hr:=agO (P:=ae) (n:=106) hT hS hM hl ay b9;have DA:nC.ntmps=106:=rfl;rw[DA];generalize({tmps:=args.toArray++kq (106 - args.toArray.size) undef,defers:=[]}:Act)=a0 at hr⊢;refine wpIn_seq (agD (c:=⟨ae,w,S,M,none,λb=>w.heap.size<=b,[]⟩) (Q:=λe s=>e= .normal/\Le s (rS t)) hr (mA λK hK=> ?_) ?_)
 ·(refine av ?_;try exact trivial)
  exact hK _ ⟨rfl,aV (l:=[(0, .str t),(2, .box 0 0),(3, .box 1 0)]) rfl (by try(refine av ?_;try exact trivial);try simp) ⟨_,rfl⟩ ⟨_,rfl⟩⟩
 rintro e a2 w2 s1 hH ⟨rfl,P_⟩
 replace eR:=hH.le P_ (N2 t) (cv _)
 clear P_ s1 hr hH;show Code.wpIn _ _ _ _ _ _ _;obtain⟨l,fH⟩:∃l,a2.defers=l:=⟨_,rfl⟩;have Dr:RX l l ⟨ae,w,S,M,none,λb=>w.heap.size<=b,[]⟩ (rS t) a2 w2:=⟨fH,by
  have:({a2 with defers:=l}:Act)=a2:=by rw[<-fH]
  rw[this];exact eR⟩
 clear eR;refine wpIn_seq (wpIn_region_lit ?_);refine ND (rest:=[_]) (K:=λs'=>s'=_) (λs3 a3 w3 hx3 e3=> ?_) [_] _ a2 w2 rfl Dr (by
  simp only[rS,dD,bU]
  (refine av ?_;try exact trivial)
  exact rfl)
 subst e3;refine Gg rfl ⟨λ_ _=>trivial, ?_⟩;obtain⟨yS,g3,dW⟩:=hx3;have h9:=dW.ev (.tmp 8);change Rel w3 g3 (a3.eval (.tmp 8)) (.aD 109 [.box 0 0, .box 1 0])at h9
 generalize hv9:a3.eval (.tmp 8)=v9 at h9;cases h9 with
 |aD _ _ vs _ kX A3=>
 obtain⟨vs⟩:=vs;obtain⟨p1,p2,rfl⟩:∃p1 p2,vs=[p1,p2]:=by
  match vs,kX with
  |[a,b],_=>exact⟨a,b,rfl⟩
 clear A3 kX;obtain⟨dd,Bs⟩:∃dd:Deferred,dd={target:= .fn (.func 109) #[p1,p2],args:=#[]}:=⟨_,rfl⟩;have hsd:(Oper.semAt eO.round a3.eval ⟨none, .defer ⟨.value (.tmp 8),#[],#[]⟩,0, "line.go:228",#[{on:=0,ground:=Go.Ground.data}],none⟩).run ae w3= .ok (.defer dd) w3:=by
  rw[show eO.round=none from rfl,Oper.semAt_none,Bs];simp[execOp,resolve,hv9,Deferred.ofValue]
 rw[hsd,Oper.uponIn_defer];unfold wpListIn;show Code.wpIn _ _ _ _ _ _ _;have rQ:g3.β.length=2:=dW.lβ;have tw:=dW.D9 (a':={a3 with defers:=[]}) rfl dW.sz dW.sl;have PH:RX (dd::l) [] ⟨ae,w3,g3.S,g3.M,none,λb=>w3.heap.size<=b\/(w.heap.size<=b/\eb w3 b),g3.β⟩ _ {a3 with defers:=dd::a3.defers} w3:=⟨by rw[yS],g3,tw⟩;generalize({a3 with defers:=dd::a3.defers}:Act)=a4 at PH;have hinv:∀w:World,(invoke dd.target dd.args).run ae w= .ok (.enter 109 #[p1,p2]) w:=λw=>by
  rw[Bs];simp[invoke,call109]
 have abJ:∀m,Names 2 0 (put (put (put (put eC 3 (D.box 1 0)) 2 (D.box 0 0)) 0 (D.str t)) 8 (D.aD 109 [D.box 0 0,D.box 1 0]) m):=
  CQ (l:=[(8,D.aD 109 [D.box 0 0,D.box 1 0]),(0,D.str t),(2,D.box 0 0),(3,D.box 1 0)]) rfl
 have fin:∀(s8:St) (a8:Act) (w8:World) (g8:Gh),RG ⟨ae,w3,g3.S,g3.M,none,λb=>w3.heap.size<=b\/(w.heap.size<=b/\eb w3 b),g3.β⟩ s8 {a8 with defers:=[]} w8 g8->
   (oH ae s8 nC.results.toList λds=>ds=[d1,d2])->
   LeavesInM eO 0 ae nC a8.tmps (λe' w'=>∃v S' M',e'= .returned v/\Grow w S M w' S' M'/\Go.Ab.Good w' S'/\Rel w' ⟨S',[],[],M'⟩ v (.aQ [d1,d2])) l .returning w8:=λs8 a8 w8 g8 h8 mX=>by
  have hb:=VW (a':={a8 with defers:=l}) (dW.O5 h8 abJ) h8.sz h8.sl rfl;exact Dd (c:=⟨ae,w,S,M,none,λb=>w.heap.size<=b,[]⟩) (fn:=nC) (ds:=[d1,d2]) l {a8 with defers:=l} w8 hb rfl mX (λv w9 h9 hv=>⟨v,g8.S,g8.M,rfl,
   ⟨⟨h9.below.os,h9.below.tape,h9.below.output,h9.below.size,λk hk hn=>h9.below.block k hk (λh=>h.elim (λh=>absurd (show w.heap.size<=k from h) (Nat.not_le_of_lt hk)) hn)⟩,h9.S0,h9.eD,h9.df.m0,h9.df.fX,h9.df.cb⟩,h9.bt,hv⟩)
 have hx5:=PH.le (s':=rS t) (aV (l:=[(0, .str t),(2, .box 0 0),(3, .box 1 0)]) rfl (by simp[put]) ⟨_,rfl⟩ ⟨_,rfl⟩) (N2 t) (by show g3.β.length<=2;omega);refine agy hx5 (hB _ _ _ _ _ _ _ rQ) ?_;rintro e a8 w8 s8 ⟨hd8,g8,hg8⟩ ⟨rfl,mX⟩;show LeavesInM _ _ _ _ _ _ _ _ _;rw[hd8];refine⟨by simp, .inr ⟨λh=>(by cases h), .func 109,#[p1,p2],109,#[p1,p2],by rw[Bs],hinv _,λ_ _=>trivial, ?_⟩⟩;refine(X3 #[p1,p2] w8 ay).mono ?_;rintro e u' w9 ⟨⟨v,rfl⟩,rfl,rfl⟩;exact fin s8 a8 _ g8 hg8 mX
theorem OA {ops:Array Oper}(cj:ops=dK nC 3)(l1 l2:List Deferred)(kP:World)(S0:Addr->Prop)(M0:MM)(own:Nat->Prop)(β:List Nat)(t w0:ByteArray)(ws:List ByteArray)(f:FuncId)(many:Int)(jM cp act:Bool)(hf:lU (.str w0) sU=some (jh f many jM cp act))
  {Q:Exit->St->Prop}{T:dX}(hQ:Q .normal ⟨106,((T.foldr (λe f=>put f e.2.1 (e.2.2 λ_=>true)) (bj [(0, .str t),(2, .box 0 0),(3, .box 1 0),(4, .list ((w0::ws).map D.str))]))),(λ(L:Nat->Bool)=>[.mu (bif L 9 then[.aD f [],i64 many, .bool jM, .bool cp, .bool act, .val (.slice none 0 0), .val (.slice none 0 0)]else Z7), .mu [.bool (L 10)]]++bif L 0 then[.mp sU]else[]) (λ_=>true),(λ(L:Nat->Bool)=>([]:List Row)) (λ_=>true)⟩)(hT:T=[(0,12,λL=> .bz 2),(1,13,λL=> .list ((w0::ws).map D.str)),(2,14,λL=> .ro [.str w0]),(3,15,λL=> .str w0),(4,16,λL=> .aQ [jh f many jM cp act, .bool true]),(5,11,λL=> .aQ [jh f many jM cp act, .bool true]),(6,17,λL=>jh f many jM cp act),(7,18,λL=> .bool true),(8,19,λL=> .box 0 0)]:=by rfl):
  fN l1 l2 ⟨ae,kP,S0,M0,none,own,β⟩ (.region 3 ops true) Q ⟨106,bj [(0, .str t),(2, .box 0 0),(3, .box 1 0),(4, .list ((w0::ws).map D.str))],(λ(L:Nat->Bool)=>[.mu (bif L 9 then[.aD f [],i64 many, .bool jM, .bool cp, .bool act, .val (.slice none 0 0), .val (.slice none 0 0)]else Z7), .mu [.bool (L 10)]]++bif L 0 then[.mp sU]else[]) (λ_=>false),(λ(L:Nat->Bool)=>([]:List Row)) (λ_=>false)⟩:=by
 simp only[dK,eW,fV,nC,fB,Nat.reduceBEq,cJ,if_false,if_true,bQ,bN,bR,iy,reduceIte,eq_self]at cj;subst cj;have ba:T.map (·.1)=[0,1,2,3,4,5,6,7,8]:=by rw[hT];rfl
 have cQ:T.map (·.2.1)=[12,13,14,15,16,11,17,18,19]:=by rw[hT];rfl
 have cD:(T.map (·.1)).Nodup:=by rw[ba];decide
 have aS:(T.map (·.2.1)).Nodup:=by rw[cQ];decide
 obtain⟨b,hb⟩:∃b:Nat->D,b=bj [(0, .str t),(2, .box 0 0),(3, .box 1 0),(4, .list ((w0::ws).map D.str))]:=⟨_,rfl⟩;rw[<-hb];have h0:aI (λ_=>false) (λ_=>false) T b=b:=gR (λ_ _=>rfl);rw[<-h0];refine Ev (c:=⟨ae,kP,S0,M0,none,own,β⟩) Tryz.ty.mixed rfl aj 106 T b (λL=>[.mu (bif L 9 then[.aD f [],i64 many, .bool jM, .bool cp, .bool act, .val (.slice none 0 0), .val (.slice none 0 0)]else Z7), .mu [.bool (L 10)]]++bif L 0 then[.mp sU]else[]) (λL=>([]:List Row)) (λL k op hC af hL aa=> ?_) (λL hL=> ?_);rotate_left
 ·have bu:∀x∈T.map (·.1),x < 11:=by rw[ba];decide
  rw[gS (λe he=>hL _ (bu _ (gP (f:=(·.1)) he)))];rw[hT,hb];have e0:L 0=true:=hL 0 ak;have e9:L 9=true:=hL 9 ak;have a7:L 10=true:=hL 10 ak;simp only[bU,e0,e9,a7];simp only[hT,bU,cond_true]at hQ;exact hQ
 match k,af,hL,aa with
 |0,af,hL,aa=>
  cases af;have e0:L 0=false:=hL;have e9:=au hC hL 9 [] rfl;have a7:=au hC hL 10 [] rfl
  (
   have g0:more L 0 0=true:=rfl;have g9:more L 0 9=L 9:=rfl;have g10:more L 0 10=L 10:=rfl;have ek:aI (more L 0) (more L 0) T b=put (aI L L T b) 12 (.bz 2):=(dM hL cD aS (show(0,12,λL=> .bz 2)∈T by rw[hT];simp)).trans (by rw[<-eL (V:=L) (V':=more L 0) (by rw[hT];simp[more])];try rfl);rw[ek];try simp only[e0,e9,a7,g0,g9,g10,cond_true,cond_false,bR,bQ,bN]
   skip
   refine jt.C' OG.it ?_;refine ee.j4 rfl ?_;refine aZ.sW (cC OG (by show(12:Nat) < 106;decide) rfl rfl rfl rfl ?_);rintro d aF aL ⟨rfl,rfl,rfl⟩;rw[tH (rv (by rw[hb];exact sM rfl) (by rw[hT];simp only[jf,fu,false_implies,implies_true,and_true];refine⟨λh=>absurd (e0.symm.trans h) ak,λ_=>rfl,λ_=>rfl,λ_=>rfl,λ_=>rfl,λ_=>rfl,λ_=>rfl,λ_=>rfl,λ_=>rfl⟩))];exact aO.of_eq rfl)
 |1,af,hL,aa=>
  cases af;have e9:=au hC hL 9 [] rfl;have a7:=au hC hL 10 [] rfl;clear hC aa;rcases bO (L 0)with e0|e0;all_goals(have hX:=an e9 (an a7 (an e0 hL));exact aA)
 |2,af,hL,aa=>
  cases af;have d1:=aq aa 1 rfl;have e9:=au hC hL 9 [] rfl;have a7:=au hC hL 10 [] rfl;clear hC aa;rcases bO (L 0)with e0|e0;all_goals(
   have f13:=br (V:=L) (b:=b) d1 aS (show(1,13,λL=> .list ((w0::ws).map D.str))∈T by rw[hT];simp);have g0:more L 2 0=L 0:=rfl;have g9:more L 2 9=L 9:=rfl;have g10:more L 2 10=L 10:=rfl;have ek:aI (more L 2) (more L 2) T b=put (aI L L T b) 14 (.ro [.str w0]):=(dM hL cD aS (show(2,14,λL=> .ro [.str w0])∈T by rw[hT];simp)).trans (by rw[<-eL (V:=L) (V':=more L 2) (by rw[hT];simp[more])];try rfl);rw[ek];try simp only[e0,e9,a7,g0,g9,g10,cond_true,cond_false,bR,bQ,bN]
   try simp only[e0,e9,a7,g0,g9,g10,cond_true,cond_false,cG,cN,dN,put,Nat.reduceEqDiff,if_true,if_false,reduceIte]at f13
   refine jt.sV rfl ?_;refine ee.j4 rfl ?_;refine aZ.of ?_;simp -implicitDefEqProofs only[go_sem,kM,bF,Nat.reduceAdd,Nat.reduceSub,Nat.reduceMul,Nat.reduceLT,Nat.reduceLeDiff,Nat.reduceEqDiff,Nat.reduceBEq,Int.reduceLT,Int.reduceLE,Int.reduceToNat,Int.reduceAdd,Int.reduceSub,Int.reduceMul,Int.reduceNeg,Int.reduceEq,reduceCtorEq,eq_self,ne_eq,not_false_eq_true,if_true,reduceIte,f13,sF,vu,bn];first|exact aO.of_eq rfl|exact⟨by assumption,aO.of_eq rfl⟩|exact⟨ag,ag,aO.of_eq rfl⟩|exact⟨ak,aO.of_eq rfl⟩|exact⟨_,rfl,rfl,aO.of_eq rfl⟩|(refine⟨?_, ?_⟩<;>first|exact aO.of_eq rfl|omega|rfl)|skip)
 |3,af,hL,aa=>
  cases af;have d2:=aq aa 2 rfl;have e9:=au hC hL 9 [] rfl;have a7:=au hC hL 10 [] rfl;clear hC aa;rcases bO (L 0)with e0|e0;all_goals(have hX:=an d2 (an e9 (an a7 (an e0 hL)));exact aA)
 |4,af,hL,aa=>
  cases af;have d0:=aq aa 0 rfl;have d3:=aq aa 3 rfl;have e0:=aq aa 0 rfl;have e9:=au hC hL 9 [] rfl;have a7:=au hC hL 10 [] rfl
  (
   have f12:=br (V:=L) (b:=b) d0 aS (show(0,12,λL=> .bz 2)∈T by rw[hT];simp);have f15:=br (V:=L) (b:=b) d3 aS (show(3,15,λL=> .str w0)∈T by rw[hT];simp);have g0:more L 4 0=L 0:=rfl;have g9:more L 4 9=L 9:=rfl;have g10:more L 4 10=L 10:=rfl;have ek:aI (more L 4) (more L 4) T b=put (aI L L T b) 16 (.aQ [jh f many jM cp act, .bool true]):=(dM hL cD aS (show(4,16,λL=> .aQ [jh f many jM cp act, .bool true])∈T by rw[hT];simp)).trans (by rw[<-eL (V:=L) (V':=more L 4) (by rw[hT];simp[more])];try rfl);rw[ek];try simp only[e0,e9,a7,g0,g9,g10,cond_true,cond_false,bR,bQ,bN]
   try simp only[e0,e9,a7,g0,g9,g10,cond_true,cond_false,cG,cN,dN,put,Nat.reduceEqDiff,if_true,if_false,reduceIte]at f12 f15
   refine jt.sV rfl ?_;refine ee.j4 rfl ?_;refine aZ.of ?_
   (refine sX (ai @f12 (ai @f15 @hf)) ?_;try exact trivial)
   first|exact aO.of_eq rfl|exact⟨by assumption,aO.of_eq rfl⟩|exact⟨ag,ag,aO.of_eq rfl⟩|exact⟨ak,aO.of_eq rfl⟩|exact⟨_,rfl,rfl,aO.of_eq rfl⟩|(refine⟨?_, ?_⟩<;>first|exact aO.of_eq rfl|omega|rfl)|skip)
 |5,af,hL,aa=>
  cases af;have d4:=aq aa 4 rfl;have e0:=ca hC (aq aa 4 rfl) 0 [] rfl;have e9:=au hC hL 9 [] rfl;have a7:=au hC hL 10 [] rfl;have hX:=an d4 (an e0 (an e9 (an a7 hL)));exact aA
 |6,af,hL,aa=>
  cases af;have d5:=aq aa 5 rfl;have e0:=ca hC (aq aa 5 rfl) 0 [4] rfl;have e9:=au hC hL 9 [] rfl;have a7:=au hC hL 10 [] rfl;have hX:=an d5 (an e0 (an e9 (an a7 hL)));exact aA
 |7,af,hL,aa=>
  cases af;have d5:=aq aa 5 rfl;have e0:=ca hC (aq aa 5 rfl) 0 [4] rfl;have a7:=au hC hL 10 [] rfl;clear hC aa;rcases bO (L 9)with e9|e9;all_goals(have hX:=an d5 (an e0 (an a7 (an e9 hL)));exact aA)
 |8,af,hL,aa=>
  cases af;have e0:=aq aa 0 rfl;have e9:=au hC hL 9 [] rfl;have a7:=au hC hL 10 [] rfl;have hX:=an e0 (an e9 (an a7 hL));exact aA
 |9,af,hL,aa=>
  cases af;have d6:=aq aa 6 rfl;have d8:=aq aa 8 rfl;have e0:=ca hC (aq aa 8 rfl) 0 [] rfl;have e9:L 9=false:=hL;have a7:=au hC hL 10 [] rfl;have hX:=an d6 (an d8 (an e0 (an e9 (an a7 hL))));exact aA
 |10,af,hL,aa=>
  cases af;have d7:=aq aa 7 rfl;have e0:=ca hC (aq aa 7 rfl) 0 [5,4] rfl;have e9:=aq aa 9 rfl;have a7:L 10=false:=hL;have hX:=an d7 (an e0 (an e9 (an a7 hL)));exact aA
 |k + 11,af,hL,aa=>simp at af
theorem Y9 {ops:Array Oper}(cj:ops=dK nC 11)(l1 l2:List Deferred)(kP:World)(S0:Addr->Prop)(M0:MM)(own:Nat->Prop)(β:List Nat)(t w:ByteArray)(f:FuncId)(m v j wl:Int)(jM cp act:Bool)(xs:List D)(X Y:List D)(hX:X.length<=100)(c1:ax ae 112 [.str w] (i64 v))
  {Q:Exit->St->Prop}{T:dX}(hQ:Q .normal ⟨106,((T.foldr (λe f=>put f e.2.1 (e.2.2 λ_=>true)) (bj [(0, .str t),(2, .box 0 0),(3, .box 1 0),(5,i64 m),(6,i64 j),(7, .str w),(67, .list xs),(68,i64 wl),(69,i64 j)]))),(λ(L:Nat->Bool)=>[.mu [.aD f [],i64 m, .bool jM, .bool cp, .bool act,bif L 7 then .own 0 else bif L 5 then .undef else .own 0, .own 1], .mu [.bool true]]) (λ_=>true),(λ(L:Nat->Bool)=>[⟨true,3,1,bif L 5 then X++[i64 v]else X⟩,⟨true,73,1,Y⟩]) (λ_=>true)⟩)(hT:T=[(0,85,λL=> .box 0 5),(1,86,λL=>bif L 5 then .undef else .own 0),(2,87,λL=> .str w),(3,88,λL=>i64 v),(4,89,λL=> .list [i64 v]),(5,90,λL=> .own 0),(6,91,λL=> .box 0 5)]:=by rfl):
  fN l1 l2 ⟨ae,kP,S0,M0,none,own,β⟩ (.region 11 ops true) Q ⟨106,bj [(0, .str t),(2, .box 0 0),(3, .box 1 0),(5,i64 m),(6,i64 j),(7, .str w),(67, .list xs),(68,i64 wl),(69,i64 j)],(λ(L:Nat->Bool)=>[.mu [.aD f [],i64 m, .bool jM, .bool cp, .bool act,bif L 7 then .own 0 else bif L 5 then .undef else .own 0, .own 1], .mu [.bool true]]) (λ_=>false),(λ(L:Nat->Bool)=>[⟨true,3,1,bif L 5 then X++[i64 v]else X⟩,⟨true,73,1,Y⟩]) (λ_=>false)⟩:=by
 simp only[dK,eW,fV,nC,fB,Nat.reduceBEq,cJ,if_false,if_true,bQ,bN,bR,iy,reduceIte,eq_self]at cj;subst cj;have ba:T.map (·.1)=[0,1,2,3,4,5,6]:=by rw[hT];rfl
 have cQ:T.map (·.2.1)=[85,86,87,88,89,90,91]:=by rw[hT];rfl
 have cD:(T.map (·.1)).Nodup:=by rw[ba];decide
 have aS:(T.map (·.2.1)).Nodup:=by rw[cQ];decide
 obtain⟨b,hb⟩:∃b:Nat->D,b=bj [(0, .str t),(2, .box 0 0),(3, .box 1 0),(5,i64 m),(6,i64 j),(7, .str w),(67, .list xs),(68,i64 wl),(69,i64 j)]:=⟨_,rfl⟩;rw[<-hb];have h0:aI (λ_=>false) (λ_=>false) T b=b:=gR (λ_ _=>rfl);rw[<-h0];refine Ev (c:=⟨ae,kP,S0,M0,none,own,β⟩) Tryz.ty.mixed rfl aj 106 T b (λL=>[.mu [.aD f [],i64 m, .bool jM, .bool cp, .bool act,bif L 7 then .own 0 else bif L 5 then .undef else .own 0, .own 1], .mu [.bool true]]) (λL=>[⟨true,3,1,bif L 5 then X++[i64 v]else X⟩,⟨true,73,1,Y⟩]) (λL k op hC af hL aa=> ?_) (λL hL=> ?_);rotate_left
 ·have bu:∀x∈T.map (·.1),x < 8:=by rw[ba];decide
  rw[gS (λe he=>hL _ (bu _ (gP (f:=(·.1)) he)))];rw[hT,hb];have e5:L 5=true:=hL 5 ak;have e7:L 7=true:=hL 7 ak;simp only[bU,e5,e7];simp only[hT,bU,cond_true]at hQ;exact hQ
 match k,af,hL,aa with
 |0,af,hL,aa=>
  cases af;have e5:=au hC hL 5 [1] rfl;have e7:=au hC hL 7 [] rfl;have hX:=an e5 (an e7 hL);exact aA
 |1,af,hL,aa=>
  cases af;have d0:=aq aa 0 rfl;have e5:=au hC hL 5 [] rfl;have e7:=au hC hL 7 [] rfl;have hX:=an d0 (an e5 (an e7 hL));exact aA
 |2,af,hL,aa=>
  cases af;have e5:=au hC hL 5 [3] rfl;have e7:=au hC hL 7 [] rfl;have hX:=an e5 (an e7 hL);exact aA
 |3,af,hL,aa=>
  cases af;have d2:=aq aa 2 rfl;have e5:=au hC hL 5 [] rfl;have e7:=au hC hL 7 [] rfl
  (
   have f87:=br (V:=L) (b:=b) d2 aS (show(2,87,λL=> .str w)∈T by rw[hT];simp);have g5:more L 3 5=L 5:=rfl;have g7:more L 3 7=L 7:=rfl;have ek:aI (more L 3) (more L 3) T b=put (aI L L T b) 88 (i64 v):=(dM hL cD aS (show(3,88,λL=>i64 v)∈T by rw[hT];simp)).trans (by rw[<-eL (V:=L) (V':=more L 3) (by rw[hT];simp[more])];try rfl);rw[ek];try simp only[e5,e7,g5,g7,cond_true,cond_false,bR,bQ,bN]
   try simp only[e5,e7,g5,g7,cond_true,cond_false,cG,cN,dN,put,Nat.reduceEqDiff,if_true,if_false,reduceIte]at f87
   refine jt.C' c1.it ?_;refine ee.j4 rfl ?_;refine aZ.rE rfl ?_
   (refine sX @f87 ?_;try exact trivial)
   refine bl c1 ?_
   (refine av ?_;try exact trivial)
   exact aO.of_eq rfl)
 |4,af,hL,aa=>
  cases af;have d3:=aq aa 3 rfl;have e5:=au hC hL 5 [] rfl;have e7:=au hC hL 7 [] rfl;have hX:=an d3 (an e5 (an e7 hL));exact aA
 |5,af,hL,aa=>
  cases af;have d1:=aq aa 1 rfl;have d4:=aq aa 4 rfl;have e5:L 5=false:=hL;have e7:=au hC hL 7 [] rfl
  (
   have f86:=br (V:=L) (b:=b) d1 aS (show(1,86,λL=>bif L 5 then .undef else .own 0)∈T by rw[hT];simp);have f89:=br (V:=L) (b:=b) d4 aS (show(4,89,λL=> .list [i64 v])∈T by rw[hT];simp);have g5:more L 5 5=true:=rfl;have g7:more L 5 7=L 7:=rfl;have ek:aI (more L 5) (more L 5) T b=put (jz 0 (aI L L T b)) 90 (.own 0):=by
    refine(dM hL cD aS (show(5,90,λL=> .own 0)∈T by rw[hT];simp)).trans ?_;rw[mP (V:=L) (V':=more L 5) (by rw[hb];simp only[cG,cN,nM,nN];rfl) (by rw[hT];simp only[jf,fu,false_implies,implies_true,and_true];and_intros<;>(intro h;first|rfl|exact absurd (hL.symm.trans h) ak|(simp only[e5,e7,g5,g7,cond_true,cond_false];rfl)))]
   rw[ek];try simp only[e5,e7,g5,g7,cond_true,cond_false,bR,bQ,bN]
   try simp only[e5,e7,g5,g7,cond_true,cond_false,cG,cN,dN,put,Nat.reduceEqDiff,if_true,if_false,reduceIte]at f86 f89
   refine jt.sV rfl ?_;refine ee.j4 rfl ?_;refine aZ.of ?_
   (refine sX (ai @f86 @f89) ?_;try exact trivial)
   first|exact aO.of_eq rfl|exact⟨by assumption,aO.of_eq rfl⟩|exact⟨ag,ag,aO.of_eq rfl⟩|exact⟨ak,aO.of_eq rfl⟩|exact⟨_,rfl,rfl,aO.of_eq rfl⟩|(refine⟨?_, ?_⟩<;>first|exact aO.of_eq rfl|omega|rfl)|skip)
 |6,af,hL,aa=>
  cases af;have e5:=aq aa 5 rfl;have e7:=au hC hL 7 [] rfl;have hX:=an e5 (an e7 hL);exact aA
 |7,af,hL,aa=>
  cases af;have d5:=aq aa 5 rfl;have d6:=aq aa 6 rfl;have e5:=ca hC (aq aa 6 rfl) 5 [] rfl;have e7:L 7=false:=hL;have hX:=an d5 (an d6 (an e5 (an e7 hL)));exact aA
 |k + 8,af,hL,aa=>simp at af
abbrev yw:D:= .val (.slice none 0 0)
theorem CL {ws:List ByteArray}{d:D}(h:d∈ws.map D.str):d.cells.length=1:=by
 obtain⟨y,_,rfl⟩:=iH.1 h;rfl
theorem F5 (t w0:ByteArray)(ws:List ByteArray)(ns:List Int)(f:FuncId)(m:Nat)(act:Bool)(hs:ax ae 110 [.str t, .str ⟨#[32]⟩] (.list ((w0::ws).map D.str)))(hf:lU (.str w0) sU=some (jh f (m:Int) false false act))(hw:ws.length=m)(hn:ns.length=m)(hm:m<=20)
  (hc:∀j,j < m->ax ae 112 [.str (nth ws j)] (i64 (nth ns j))):ax ae 81 [.str t] (.aQ [.agg [.aD f [],i64 (m:Nat), .bool false, .bool false, .bool act,ints ns, .list []], .bool true]):=by
 refine OB t _ _ λl1 l2 kP S0 M0 own β hβ=> ?_;simp only[F6,nC,rS,dD,bU];repeat'(first
  |(show fN _ _ _ (.region 3 _ true) _ _;refine b_ ?_)
  |refine pV ?_
  |refine p_ ?_
  |refine pU ?_
  |refine pZ ?_
  |refine pW ?_
  |((first|refine pX aj λK hK=> ?_|refine pY ?_|refine bl (hs) ?_);(refine av ?_;try exact trivial))
  |((first|(refine hK _ ?_;clear hK K)|show cF _ _ _ _|show dn _ _ _ _);simp only[cF,dn,if_true,Nat.reduceEqDiff,reduceIte])
  |(intro hg;first|(exfalso;omega)|(exfalso;contradiction)|skip)
  |apply ai
  |(with_reducible rfl)
  |(clear hK;omega)
  |omega)
 refine cI ?_;refine B6 (dD 106 [(0, .str t),(2, .box 0 0),(3, .box 1 0),(4, .list ((w0::ws).map D.str))] [.mu Z7, .mu [.bool false]] []) (aV rfl (by simp[put]) ⟨[],rfl⟩ ⟨[],rfl⟩) (gT rfl rfl) (by rw[hβ];exact cx _) ?_;refine OA (by rfl) l1 l2 kP S0 M0 own β t w0 ws f m false false act hf ?_;simp only[bU,cond_true,dn,cF];repeat'(first
  |(show fN _ _ _ (.loop _) _ _;refine b_ ?_)
  |(exact CL hg)
  |refine pV ?_
  |refine p_ ?_
  |refine pU ?_
  |refine pZ ?_
  |refine pW ?_
  |((first|refine pX aj λK hK=> ?_|refine pY ?_);(refine av ?_;try exact trivial))
  |((first|(refine hK _ ?_;clear hK K)|show cF _ _ _ _|show dn _ _ _ _);simp only[cF,dn,if_true,Nat.reduceEqDiff,reduceIte])
  |(intro hg;first|(exfalso;omega)|(exfalso;contradiction)|skip)
  |apply ai
  |(with_reducible rfl)
  |(clear hK;omega)
  |omega)
 refine cI ?_;refine Eu (CU 0 5 3 1 [.aD f [],i64 (m:Nat), .bool false, .bool false, .bool act,yw,yw] rfl rfl) ?_;refine Eu (CU 0 6 73 1 [.aD f [],i64 (m:Nat), .bool false, .bool false, .bool act, .own 0,yw] rfl rfl) ?_;refine SC (ι:=Nat) (λj=>[(0, .str t),(2, .box 0 0),(3, .box 1 0),(5,i64 (m:Nat)),(67, .list (ws.map D.str)),(68,i64 (m:Nat)),(69,i64 (j:Nat))]) (λ_=>[.mu [.aD f [],i64 (m:Nat), .bool false, .bool false, .bool act, .own 0, .own 1], .mu [.bool true]]) (λj=>[⟨true,3,1,(ns.take j).map λ(x:Int)=>i64 x⟩,⟨true,73,1,[]⟩])
  (λj=>j<=m) (λj=>m - j) (λ_ _=>⟨rfl,rfl⟩) 0 (cv _) (aV rfl (by try(refine av ?_;try exact trivial);try simp[hw,xC]) ⟨_,rfl⟩ ⟨[],rfl⟩) (λj hj=> ?_) (λ_ _=>by rw[hβ];exact cx _)
 by_cases aU:j < m
 ·have c1:=hc j aU;have lY:(ns.take j).length=j:=by rw[List.length_take];omega
  have oS:(ns.take (j + 1)).map (λ(x:Int)=>i64 x)=(ns.take j).map (λ(x:Int)=>i64 x)++[i64 (nth ns j)]:=by
   rw[List.take_succ_eq_append_getElem ag,show ns[j]=nth ns j by simp[nth,show j < ns.length by omega]];simp
  (refine av ?_;try exact trivial)
  repeat'(first
   |(show fN _ _ _ (.region 11 _ true) _ _;refine b_ ?_)
   |refine pV ?_
   |refine p_ ?_
   |refine pU ?_
   |refine pZ ?_
   |refine pW ?_
   |((first|refine pX aj λK hK=> ?_|refine pY ?_);(refine av ?_;try exact trivial))
   |((first|(refine hK _ ?_;clear hK K)|show cF _ _ _ _|show dn _ _ _ _);simp only[cF,dn,if_true,Nat.reduceEqDiff,reduceIte])
   |(intro hg;first|(exfalso;omega)|(exfalso;contradiction)|skip)
   |apply ai
   |(with_reducible rfl)
   |(clear hK;omega)
   |omega)
  refine cI ?_;refine B6 (dD 106 [(0, .str t),(2, .box 0 0),(3, .box 1 0),(5,i64 (m:Nat)),(6,i64 (j:Nat)),(7, .str (nth ws j)),(67, .list (ws.map D.str)),(68,i64 (m:Nat)),(69,i64 (j:Nat))] [.mu [.aD f [],i64 (m:Nat), .bool false, .bool false, .bool act, .own 0, .own 1], .mu [.bool true]] [⟨true,3,1,(ns.take j).map λ(x:Int)=>i64 x⟩,⟨true,73,1,[]⟩]) (aV rfl (by simp[put]) ⟨[],rfl⟩ ⟨[],rfl⟩) (gT rfl rfl) (by rw[hβ];exact cx _) ?_;refine Y9 (by rfl) l1 l2 kP S0 M0 own β t (nth ws j) f m (nth ns j) j m false false act (ws.map D.str) ((ns.take j).map λ(x:Int)=>i64 x) [] (by simp;omega) c1 ?_;simp only[bU,cond_true,dn,cF,<-oS];repeat'(first
   |(fail)
   |refine pV ?_
   |refine p_ ?_
   |refine pU ?_
   |refine pZ ?_
   |refine pW ?_
   |((first|refine pX aj λK hK=> ?_|refine pY ?_);(refine av ?_;try exact trivial))
   |((first|(refine hK _ ?_;clear hK K)|show cF _ _ _ _|show dn _ _ _ _);simp only[cF,dn,if_true,Nat.reduceEqDiff,reduceIte])
   |(intro hg;first|(exfalso;omega)|(exfalso;contradiction)|skip)
   |apply ai
   |(with_reducible rfl)
   |(clear hK;omega)
   |omega)
  all_goals first|(exact⟨j + 1,ag,ag,aV rfl (by try(refine av ?_;try exact trivial);try simp) ⟨[],rfl⟩ ⟨[],rfl⟩⟩)|trace_state
 ·obtain rfl:j=m:=ag
  (refine av ?_;try exact trivial)
  have lY:ns.take j=ns:=xC ag;rw[lY];repeat'(first
   |(exact CL hg)
   |refine pV ?_
   |refine p_ ?_
   |refine pU ?_
   |refine pZ ?_
   |refine pW ?_
   |((first|refine pX aj λK hK=> ?_|refine pY ?_);(refine av ?_;try exact trivial))
   |((first|(refine hK _ ?_;clear hK K)|show cF _ _ _ _|show dn _ _ _ _);simp only[cF,dn,if_true,Nat.reduceEqDiff,reduceIte])
   |(intro hg;first|(exfalso;omega)|(exfalso;contradiction)|skip)
   |apply ai
   |(with_reducible rfl)
   |(clear hK;omega)
   |omega)
  all_goals first
  |(rw[show aJ ae 159=7 from by kernel_rfl];exact cx _)
  |(show bn _ _;(refine av ?_;try exact trivial))
end Go.Proofs.YtopobgihpdaggaaGreatDoor
namespace Go.Proofs.YtopobgihpdaggaaGreatDoor
set_option maxRecDepth 100000
set_option maxHeartbeats 4000000
open Go.Ab
attribute[local irreducible] az dI dR ax aT IA fP aZ gZ
theorem acI (rw:List Row)(x:Row):(rw++[x])[rw.length]? =some x:=by simp
theorem W8 (rw:List Row)(x y:Row):(rw++[x]).set rw.length y=rw++[y]:=by simp
theorem lSa {p q:Prop}(k:q)(h:p=q:=by simp -implicitDefEqProofs only[go_sem,kM,bF,Nat.reduceAdd,Nat.reduceSub,Nat.reduceMul,Nat.reduceLT,Nat.reduceLeDiff,Nat.reduceEqDiff,Nat.reduceBEq,Int.reduceLT,Int.reduceLE,Int.reduceToNat,Int.reduceAdd,Int.reduceSub,Int.reduceMul,Int.reduceNeg,Int.reduceEq,reduceCtorEq,eq_self,ne_eq,not_false_eq_true,if_true,reduceIte,acI,W8,beq_self_eq_true,hb,bn,List.length_nil,List.nil_append,List.append_nil,Nat.zero_add]<;>rfl):p:=h.symm▸k
theorem aed (l:List dJ)(hl:l.length<=1000000)(bx:List Bx)(rw:List Row)(hb:bx.map (iT rw.length)=bx):aT ae 313 [.list (l.map ft)] bx rw (λd aF aL=>d= .own rw.length/\aF=bx/\aL=rw++[⟨true,90,3,l.map ft⟩]):=by
 refine cV func313 ntmps313 results313 call313 rfl ay λW0 S0 M0 own β hβ=> ?_;repeat'(first|(show az _ (.region 1 _ _) _ _;refine pg 1 (sk _ 56 (.tmp 3) (some 4)) (λ_ _ h=>aZ.vd h) rfl rfl (λK1 aK=> ?_);(refine lSa ?_;try exact trivial))|(refine aK _ (vm 90 3 24 (l.map (ft)) (by show(4:Nat) < 5;decide) aj aj aj aj rfl ak ak (λx hx=>by obtain⟨y,_,rfl⟩:=iH.1 hx;rfl) (by rw[List.length_map];omega) ?_);clear aK K1;simp only[bF,Nat.reduceAdd];(refine lSa ?_;try exact trivial))|(show cT _ _ _ _ _;(refine lSa ?_;try exact trivial))|refine bK ?_|((first|refine bL λK hK=> ?_|refine bI ?_|show bC _ _ _ _ _);(refine lSa ?_;try exact trivial))|(refine kA ?_;clear hK K)|(intro hg;try exact aw)|exact fin|apply ai)
theorem T6 {ops:Array Oper}(cj:ops=dK Tryz.f296 2)(w0:World)(S0:Addr->Prop)(eG:MM)(own:Nat->Prop)(β:List Nat)(s:bh)(n cap ns na:Nat)(cost day pt lo hi W R sl:Int)(cs Z4:List D)(S:List dJ)(aE:cs.map (gI 2)=cs)(hZ:Z4.map (gI 2)=Z4)(hS:S.length<=100)(hc:aT ae 313 [.list (S.map ft)] [.mu (aP s n cap cost), .mp [], .mu cs, .mu [i64 lo,i64 hi], .mu Z4, .mu [i64 W,i64 R,i64 sl, .list (S.map ft)]] [aG ns,aH na] (λd aF aL=>d= .own 2/\aF=[.mu (aP s n cap cost), .mp [], .mu cs, .mu [i64 lo,i64 hi], .mu Z4, .mu [i64 W,i64 R,i64 sl, .list (S.map ft)]]/\aL=[aG ns,aH na,⟨true,90,3,S.map ft⟩]))
  {Q:Exit->St->Prop}{T:dX}(hQ:Q .normal ⟨27,((T.foldr (λe f=>put f e.2.1 (e.2.2 λ_=>true)) (bj [(0, .box 0 0),(1,i64 day),(2,i64 pt),(7, .box 3 0),(8, .box 4 0),(9, .box 5 0)]))),(λ(L:Nat->Bool)=>[.mu (aP s n cap cost), .mp [], .mu cs, .mu [i64 lo,i64 hi], .mu Z4, .mu [i64 W,i64 R,i64 sl,bif L 9 then .own 2 else .list (S.map ft)]]) (λ_=>true),(λ(L:Nat->Bool)=>[aG ns,aH na]++bif L 2 then[⟨true,90,3,bif L 7 then S.map ft++[.agg [i64 pt,i64 lo,i64 hi]]else S.map ft⟩]else[]) (λ_=>true)⟩)(hT:T=[(0,17,λL=> .box 5 3),(1,18,λL=> .list (S.map ft)),(2,19,λL=>bif L 7 then .undef else .own 2),(3,20,λL=>i64 pt),(4,21,λL=> .agg [i64 lo,i64 hi]),(5,22,λL=> .agg [i64 pt,i64 lo,i64 hi]),(6,23,λL=> .list [.agg [i64 pt,i64 lo,i64 hi]]),(7,24,λL=> .own 2),(8,25,λL=> .box 5 3)]:=by rfl):
  az ⟨ae,w0,S0,eG,none,own,β⟩ (.region 2 ops true) Q ⟨27,bj [(0, .box 0 0),(1,i64 day),(2,i64 pt),(7, .box 3 0),(8, .box 4 0),(9, .box 5 0)],(λ(L:Nat->Bool)=>[.mu (aP s n cap cost), .mp [], .mu cs, .mu [i64 lo,i64 hi], .mu Z4, .mu [i64 W,i64 R,i64 sl,bif L 9 then .own 2 else .list (S.map ft)]]) (λ_=>false),(λ(L:Nat->Bool)=>[aG ns,aH na]++bif L 2 then[⟨true,90,3,bif L 7 then S.map ft++[.agg [i64 pt,i64 lo,i64 hi]]else S.map ft⟩]else[]) (λ_=>false)⟩:=by
 simp only[dK,eW,fV,Tryz.f296,fB,Nat.reduceBEq,cJ,if_false,if_true,bQ,bN,bR,iy,reduceIte,eq_self]at cj;subst cj;have ba:T.map (·.1)=[0,1,2,3,4,5,6,7,8]:=by rw[hT];rfl
 have cQ:T.map (·.2.1)=[17,18,19,20,21,22,23,24,25]:=by rw[hT];rfl
 have cD:(T.map (·.1)).Nodup:=by rw[ba];decide
 have aS:(T.map (·.2.1)).Nodup:=by rw[cQ];decide
 obtain⟨b,hb⟩:∃b:Nat->D,b=bj [(0, .box 0 0),(1,i64 day),(2,i64 pt),(7, .box 3 0),(8, .box 4 0),(9, .box 5 0)]:=⟨_,rfl⟩;rw[<-hb];have h0:aI (λ_=>false) (λ_=>false) T b=b:=gR (λ_ _=>rfl);rw[<-h0];refine la (c:=⟨ae,w0,S0,eG,none,own,β⟩) Tryz.ty.mixed rfl aj 27 T b (λL=>[.mu (aP s n cap cost), .mp [], .mu cs, .mu [i64 lo,i64 hi], .mu Z4, .mu [i64 W,i64 R,i64 sl,bif L 9 then .own 2 else .list (S.map ft)]]) (λL=>[aG ns,aH na]++bif L 2 then[⟨true,90,3,bif L 7 then S.map ft++[.agg [i64 pt,i64 lo,i64 hi]]else S.map ft⟩]else[]) (λL k op hC af hL aa=> ?_) (λL hL=> ?_);rotate_left
 ·have bu:∀x∈T.map (·.1),x < 10:=by rw[ba];decide
  rw[gS (λe he=>hL _ (bu _ (gP (f:=(·.1)) he)))];rw[hT,hb];have e2:L 2=true:=hL 2 ak;have e7:L 7=true:=hL 7 ak;have e9:L 9=true:=hL 9 ak;simp only[bU,e2,e7,e9];simp only[hT,bU,cond_true]at hQ;exact hQ
 match k,af,hL,aa with
 |0,af,hL,aa=>
  cases af;have e2:=au hC hL 2 [1] rfl;have e7:=au hC hL 7 [2,1] rfl;have e9:=au hC hL 9 [] rfl;have hX:=an e2 (an e7 (an e9 hL));exact aA
 |1,af,hL,aa=>
  cases af;have d0:=aq aa 0 rfl;have e2:=au hC hL 2 [] rfl;have e7:=au hC hL 7 [2] rfl;have e9:=au hC hL 9 [] rfl;have hX:=an d0 (an e2 (an e7 (an e9 hL)));exact aA
 |2,af,hL,aa=>
  cases af;have d1:=aq aa 1 rfl;have e2:L 2=false:=hL;have e7:=au hC hL 7 [] rfl;have e9:=au hC hL 9 [] rfl
  (
   have f18:=br (V:=L) (b:=b) d1 aS (show(1,18,λL=> .list (S.map ft))∈T by rw[hT];simp);have g2:more L 2 2=true:=rfl;have g7:more L 2 7=L 7:=rfl;have g9:more L 2 9=L 9:=rfl;have ek:aI (more L 2) (more L 2) T b=put (aI L L T b) 19 (bif L 7 then .undef else .own 2):=(dM hL cD aS (show(2,19,λL=>bif L 7 then .undef else .own 2)∈T by rw[hT];simp)).trans (by rw[<-eL (V:=L) (V':=more L 2) (by rw[hT];simp[more])];try rfl);rw[ek];try simp only[e2,e7,e9,g2,g7,g9,cond_true,cond_false,bR,bQ,bN]
   try simp only[e2,e7,e9,g2,g7,g9,cond_true,cond_false,cG,cN,dN,put,Nat.reduceEqDiff,if_true,if_false,reduceIte]at f18
   refine aZ.sW (cC hc (by show(19:Nat) < 27;decide) rfl (by show[aI L L T b 18]=_;rw[f18]) rfl rfl ?_);rintro d aF aL ⟨rfl,rfl,rfl⟩;rw[tH (rv (by rw[hb];exact sM rfl) (by rw[hT];simp only[jf,fu,false_implies,implies_true,and_true];(repeat' apply ai)<;>first|exact λ_=>rfl|exact λh=>absurd (e2.symm.trans h) ak|exact λh=>absurd (e7.symm.trans h) ak))];exact aO.of_eq rfl)
 |3,af,hL,aa=>
  cases af;have e7:=au hC hL 7 [6,5] rfl;have e9:=au hC hL 9 [] rfl;clear hC aa;rcases bO (L 2)with e2|e2;all_goals(have hX:=an e7 (an e9 (an e2 hL));exact aA)
 |4,af,hL,aa=>
  cases af;have e7:=au hC hL 7 [6,5] rfl;have e9:=au hC hL 9 [] rfl;clear hC aa;rcases bO (L 2)with e2|e2;all_goals(have hX:=an e7 (an e9 (an e2 hL));exact aA)
 |5,af,hL,aa=>
  cases af;have d3:=aq aa 3 rfl;have d4:=aq aa 4 rfl;have e7:=au hC hL 7 [6] rfl;have e9:=au hC hL 9 [] rfl;clear hC aa;rcases bO (L 2)with e2|e2;all_goals(have hX:=an d3 (an d4 (an e7 (an e9 (an e2 hL))));exact aA)
 |6,af,hL,aa=>
  cases af;have d5:=aq aa 5 rfl;have e7:=au hC hL 7 [] rfl;have e9:=au hC hL 9 [] rfl;clear hC aa;rcases bO (L 2)with e2|e2;all_goals(have hX:=an d5 (an e7 (an e9 (an e2 hL)));exact aA)
 |7,af,hL,aa=>
  cases af;have d2:=aq aa 2 rfl;have d6:=aq aa 6 rfl;have e2:=aq aa 2 rfl;have e7:L 7=false:=hL;have e9:=au hC hL 9 [] rfl
  (
   have f19:=br (V:=L) (b:=b) d2 aS (show(2,19,λL=>bif L 7 then .undef else .own 2)∈T by rw[hT];simp);have f23:=br (V:=L) (b:=b) d6 aS (show(6,23,λL=> .list [.agg [i64 pt,i64 lo,i64 hi]])∈T by rw[hT];simp);have g2:more L 7 2=L 2:=rfl;have g7:more L 7 7=true:=rfl;have g9:more L 7 9=L 9:=rfl;have ek:aI (more L 7) (more L 7) T b=put (jz 2 (aI L L T b)) 24 (.own 2):=by
    refine(dM hL cD aS (show(7,24,λL=> .own 2)∈T by rw[hT];simp)).trans ?_;rw[mP (V:=L) (V':=more L 7) (by rw[hb];simp only[cG,cN,nM,nN];rfl) (by rw[hT];simp only[jf,fu,false_implies,implies_true,and_true];and_intros<;>(intro h;first|rfl|exact absurd (hL.symm.trans h) ak|(simp only[e2,e7,e9,g2,g7,g9,cond_true,cond_false];rfl)))]
   rw[ek];try simp only[e2,e7,e9,g2,g7,g9,cond_true,cond_false,bR,bQ,bN]
   try simp only[e2,e7,e9,g2,g7,g9,cond_true,cond_false,cG,cN,dN,put,Nat.reduceEqDiff,if_true,if_false,reduceIte]at f19 f23
   refine aZ.of ?_
   (refine sX (ai @f19 (ai @f23 (ai @aE @hZ))) ?_;try exact trivial)
   first|exact aO.of_eq rfl|exact⟨by assumption,aO.of_eq rfl⟩|exact⟨ag,ag,aO.of_eq rfl⟩|exact⟨ak,aO.of_eq rfl⟩|exact⟨_,rfl,rfl,aO.of_eq rfl⟩|exact⟨wk ag ag,aO.of_eq rfl⟩|(refine⟨?_, ?_⟩<;>first|exact aO.of_eq rfl|omega|rfl)|skip)
 |8,af,hL,aa=>
  cases af;have e2:=aq aa 2 rfl;have e7:=aq aa 7 rfl;have e9:=au hC hL 9 [] rfl;have hX:=an e2 (an e7 (an e9 hL));exact aA
 |9,af,hL,aa=>
  cases af;have d7:=aq aa 7 rfl;have d8:=aq aa 8 rfl;have e2:=ca hC (aq aa 8 rfl) 2 [] rfl;have e7:=ca hC (aq aa 8 rfl) 7 [] rfl;have e9:L 9=false:=hL;have hX:=an d7 (an d8 (an e2 (an e7 (an e9 hL))));exact aA
 |k + 10,af,hL,aa=>simp at af
theorem afX {P:Program}{f:FuncId}{ds:List D}{bx:List Bx}{rw:List Row}{K K':D->List Bx->List Row->Prop}(h:aT P f ds bx rw K)
  (hk:∀d aF aL,K d aF aL->∃pd tl vT tr,aF=pd++tl/\aL=vT++tr/\Names pd.length vT.length d/\bZ pd.length vT.length pd=true/\bx.length<=pd.length/\K' d pd vT):aT P f ds bx rw K':=by
 unfold aT at h⊢;refine⟨h.1,λc st a W g args hP hg hb hr hl b9=>(h.2 c st a W g args hP hg hb hr hl b9).mono ?_⟩;rintro e w' ⟨v,d,s2,a2,g2,h1,h2,h3,h4⟩;obtain⟨pd,tl,vT,tr,e1,e2,hn,kB,hle,hK⟩:=hk _ _ _ h4;have h5:=h2.le (s':=⟨s2.n,eC,pd,vT⟩) ⟨rfl,λm=> .inl rfl,⟨tl,e1⟩,⟨tr,e2⟩⟩ ⟨λm=> .undef,qo _ kB⟩ (by show g.β.length<=pd.length;rw[hg.lβ,hb];exact hle);exact⟨v,d,⟨s2.n,eC,pd,vT⟩,a2,_,h1,h5,h3.cut hn,hK⟩
def ud (x:Bx):Prop:=∀σ:Nat->Option Nat,σ 0=some 0->σ 1=some 1->σ 2=some 2->gH σ x=x
def QV (d:D):Prop:=∀σ:Nat->Option Nat,σ 0=some 0->σ 1=some 1->σ 2=some 2->d.cP σ=d
theorem ze:ud (.mp []):=λ_ _ _ _=>rfl
theorem zf {cs:List D}(h:∀d∈cs,Names 0 0 d):ud (.mu cs):=λσ _ _ _=>by simp only[gH,As h]
theorem zg (s:bh)(n cap:Nat)(cost:Int):ud (.mu (aP s n cap cost)):=λσ _ h1 h2=>by
 simp only[aP,cR,bR,bQ,gH,fW,D.cP,h1,h2]
theorem Rc (n:Nat)(aF:List Bx):∀(tl:List Bx) (i:Nat),3<=i->nq [0,1,2] n aF i tl=tl.map (n_ n)
 |[],_,_=>rfl
 |x::tl,i,hi=>by
  have hp:pos [0,1,2] 0 i=none:=by
   have h0:(0 == i)=false:=by simp;omega
   have h1:(1 == i)=false:=by simp;omega
   have h2:(2 == i)=false:=by simp;omega
   simp only[pos,h0,h1,h2,cond_false]
  simp only[nq,jI,Rc n aF tl (i + 1) ag,qY,hp]
theorem HJ {P:Program}{f:FuncId}{ds:List D}{b0 b1 b2 c0 c1 c2:Bx}{rw nK:List Row}{d0:D}{tl:List Bx}(h:aT P f ds [b0,b1,b2] rw (bw d0 [c0,c1,c2] nK))
  (e0:ud b0)(e1:ud b1)(e2:ud b2)(f0:ud c0)(f1:ud c1)(f2:ud c2)(hd:QV d0)(tx:∀d∈ds,QV d)(lY:tl.map (n_ (3 + tl.length))=tl):
  aT P f ds (b0::b1::b2::tl) rw (bw d0 (c0::c1::c2::tl) nK):=by
 refine(aT.frame h [0,1,2] (cu:=ds) (B:=b0::b1::b2::tl) ak (λi hi=>by simp at hi⊢;omega) ?_ ?_).mono ?_
 ·simp only[jY,jI,pq,vu,xI];rw[e0 (pos [0,1,2] 0) rfl rfl rfl,e1 (pos [0,1,2] 0) rfl rfl rfl,e2 (pos [0,1,2] 0) rfl rfl rfl]
 ·exact(List.map_congr_left (g:=id) λd hd=>tx d hd (pos [0,1,2] 0) rfl rfl rfl).trans (List.map_id _)
 ·rintro d B' aL ⟨d',aF,⟨rfl,rfl,rfl⟩,_,rfl,rfl⟩;refine⟨hd (up [0,1,2] (b0::b1::b2::tl).length) rfl rfl rfl, ?_,rfl⟩;have hlen:(b0::b1::b2::tl).length=3 + tl.length:=by simp;omega
  have hc:=Rc (3 + tl.length) [c0,c1,c2] tl 3 (cx _);rw[lY]at hc;unfold pR;rw[hlen];simp only[nq,qY,pos,cond_true,cond_false,beq_self_eq_true,Nat.reduceBEq,Nat.reduceAdd,vu,xI,mH,List.length_nil,List.drop_succ_cons,List.drop_zero,List.drop_nil,pq,bN,jd];rw[f0 (up [0,1,2] (3 + tl.length)) rfl rfl rfl,f1 (up [0,1,2] (3 + tl.length)) rfl rfl rfl,f2 (up [0,1,2] (3 + tl.length)) rfl rfl rfl,hc]
def VO (d0:D)(bx:List Bx)(rw:List Row):D->List Bx->List Row->Prop:=λd aF aL=>d=d0/\(∃tl,aF=bx++tl)/\∃tr,aL=rw++tr
theorem og {P:Program}{f:FuncId}{ds:List D}{bx eH:List Bx}{rw nK:List Row}{d0:D}(h:aT P f ds bx rw (VO d0 eH nK))(hn:dA eH.length nK.length d0=true)(hb:bZ eH.length nK.length eH=true)(hl:bx.length<=eH.length):aT P f ds bx rw (bw d0 eH nK):=by
 refine afX h ?_;rintro d aF aL ⟨rfl,⟨tl,rfl⟩,⟨tr,rfl⟩⟩;exact⟨eH,tl,nK,tr,rfl,rfl,sZ _ hn,hb,hl,rfl,rfl,rfl⟩
theorem Ji (s:bh)(n cap ns na:Nat)(cost day pt lo hi:Int)(cs U:List D)(W R:Nat)(sl:Int)(S:List dJ)(aE:∀d∈cs,Names 0 0 d)(hd:cs.drop (day.toNat * 4)=eQ W R sl S++U)(bE:cs.length=cap * 4)(hn:n<=cap)(eh:n<=100)(wN:0<=day/\day < n)(hS:S.length<=12):
  aT ae 296 [.box 0 0,i64 day,i64 pt, .agg [i64 lo,i64 hi]] [.mu (aP s n cap cost), .mp [], .mu cs] [aG ns,aH na] (bw (.agg (eQ W R sl (S++[⟨pt,lo,hi⟩]))) [.mu (aP s n cap cost), .mp [], .mu cs] [aG ns,aH na]):=by
 have yJ:cs.map (gI 2)=cs:=Aw aE;have dC:∀nb nr,db nb nr cs=true:=λnb nr=>iz λd hd=>jA (aE d hd);refine og ?_ rfl (by simp only[bZ,dC];rfl) (cx _);refine cV func296 ntmps296 results296 call296 rfl ay λW0 S0 M0 own β hβ=> ?_;have uN:β.length=3:=by rw[hβ];rfl
 have ed:cs.drop (0 + day.toNat * 4)=i64 (W:Nat)::i64 (R:Nat)::i64 sl:: .list (S.map ft)::U:=by rw[jd];exact hd
 repeat'(first|(show az _ (.region 2 _ true) _ _;refine b_ ?_)|refine bK ?_|((first|refine bL λK hK=> ?_|refine bI ?_|show bC _ _ _ _ _);(refine sX (@ed) ?_;try exact trivial))|(refine kA ?_;clear hK K)|(intro hg;try exact aw)|exact fin|apply ai)
 refine cI ?_;refine k_ (dD 27 [(0, .box 0 0),(1,i64 day),(2,i64 pt),(7, .box 3 0),(8, .box 4 0),(9, .box 5 0)] [.mu (aP s n cap cost), .mp [], .mu cs, .mu [i64 lo,i64 hi], .mu [i64 0,i64 0,i64 0, .val (.slice none 0 0)], .mu (eQ W R sl S)] [aG ns,aH na]) (aV rfl (by simp[put]) ⟨[],rfl⟩ ⟨[],rfl⟩) (gT rfl (by simp only[bZ,dC];rfl)) (by show β.length<=6;omega) ?_;refine T6 (by rfl) W0 S0 M0 own β s n cap ns na cost day pt lo hi W R sl cs [i64 0,i64 0,i64 0, .val (.slice none 0 0)] S yJ rfl ag ((aed S ag _ _ (by simp only[jI,pq,iT,mH,List.length_nil,jd,Nat.reduceAdd,yJ];rfl)).mono (λd aF aL h=>h)) ?_;simp only[bU,cond_true,dn,cF,bR,bQ];have hm:(S++[(⟨pt,lo,hi⟩:dJ)]).map ft=S.map ft++[.agg [i64 pt,i64 lo,i64 hi]]:=by rw[List.map_append];rfl
 rw[<-hm];refine eI (aO.freeze 5 (cs:=[i64 (W:Nat),i64 (R:Nat),i64 sl, .own 2]) (dp:=eQ W R sl (S++[⟨pt,lo,hi⟩])) rfl rfl) ?_;simp only[List.set];repeat'(first|(show az _ .ret _ _;refine b_ ?_)|refine aB ?_|refine aC λK hK=> ?_|(refine kA ?_;clear hK K)|(intro hg;try exact aw)|exact fin|apply ai)
 refine cI ?_;refine oo ?_;show cT _ _ _ _ _
 (refine av ?_;try exact trivial)
 exact⟨rfl,⟨_,rfl⟩,⟨_,rfl⟩⟩
theorem Oj (s:bh)(n cap ns na:Nat)(cost day pt lo hi:Int)(cs U:List D)(W R:Nat)(sl:Int)(S:List dJ)(aE:∀d∈cs,Names 0 0 d)(hd:cs.drop (day.toNat * 4)=eQ W R sl S++U)(bE:cs.length=cap * 4)(hn:n<=cap)(eh:n<=100)(wN:0<=day/\day < n)(hS:S.length<=12)
  (hM:jH W R sl (S++[⟨pt,lo,hi⟩]))(hC:rb W sl (S++[⟨pt,lo,hi⟩])):
  aT ae 256 [.box 0 0,i64 day,i64 pt, .agg [i64 lo,i64 hi]] [.mu (aP s n cap cost), .mp [], .mu cs] [aG ns,aH na] (bw (.bool true) [.mu (aP s n cap cost), .mp [], .mu cs] [aG ns,aH na]):=by
 have dC:∀nb nr,db nb nr cs=true:=λnb nr=>iz λd hd=>jA (aE d hd);have c1:=HJ (tl:=[.mu [i64 lo,i64 hi]]) (Ji s n cap ns na cost day pt lo hi cs U W R sl S aE hd bE hn eh wN hS) (zg _ _ _ _) ze (zf aE) (zg _ _ _ _) ze (zf aE) (λσ _ _ _=>rfl) (λd hd=>by simp only[List.mem_cons,fu,or_false]at hd;rcases hd with rfl|rfl|rfl|rfl<;>intro σ h0 _ _<;>first|rfl|simp only[D.cP,h0]) rfl;have c2:=Rm W R sl _ hM hC;refine og ?_ rfl (by simp only[bZ,dC];rfl) (cx _);refine cV func256 ntmps256 results256 call256 rfl ay λW0 S0 M0 own β hβ=> ?_;repeat'(first|(show az _ (.region 1 _ _) _ _;refine eo 4 rfl (λK1 aK=> ?_);refine av ?_)|(refine aK _ (cC c1 (by simp[bp]) rfl rfl rfl rfl ?_);clear aK K1;rintro d aF aL ⟨rfl,rfl,rfl⟩;simp only[bF,Nat.reduceAdd];refine av ?_)|(show cT _ _ _ _ _;refine av ?_)|(exact⟨_,rfl⟩)|refine aB ?_|refine aC λK hK=> ?_|refine cA (c2) ?_|(refine kA ?_;clear hK K)|(intro hg;try exact aw)|exact fin|apply ai)
 all_goals first|exact⟨[],rfl⟩|exact⟨_,rfl⟩
theorem NR (s:bh)(n cap:Nat)(cost day:Int)(cs U:List D)(W R sl:D)(S:List dJ)(rw:List Row)(hd:cs.drop (day.toNat * 4)=W::R::sl:: .list (S.map ft)::U)(bE:cs.length=cap * 4)(hn:n<=cap)(eh:n<=100)(wN:0<=day/\day < n)(B:List Bx):
  aT ae 254 [.box 0 0,i64 day] (.mu (aP s n cap cost):: .mp []:: .mu cs::B) rw (bw (.bool (decide ((S.length:Int) < 12))) (.mu (aP s n cap cost):: .mp []:: .mu cs::B) rw):=by
 have yS:cs.drop (0 + day.toNat * 4 + 3)= .list (S.map ft)::U:=by rw[jd,<-List.drop_drop,hd];rfl
 refine cV func254 ntmps254 results254 call254 rfl ay λW0 S0 M0 own β hβ=> ?_;repeat'(first|(show cT _ _ _ _ _;(refine sX (@yS) ?_;try exact trivial))|refine bK ?_|((first|refine bL λK hK=> ?_|refine bI ?_|show bC _ _ _ _ _);(refine sX (@yS) ?_;try exact trivial))|(refine kA ?_;clear hK K)|(intro hg;try exact aw)|exact fin|apply ai)
 all_goals first|rfl|trace_state
theorem Px (s:bh)(m sh mp:D)(cost:Int)(ac:D)(hs:s.bf.length<=100)(k:Int)(B:List Bx)(rw:List Row):aT ae 251 [.box 0 0,i64 k] (.mu (sj s m sh mp cost ac)::B) rw (bw (.bool (decide (0<=k/\k<=(s.bf.length:Int) - 1))) (.mu (sj s m sh mp cost ac)::B) rw):=by
 have c1:=yq k 0 ((s.bf.length:Int) - 1);refine cV func251 ntmps251 results251 call251 rfl ay λW0 S0 M0 own β hβ=> ?_;repeat'(first|(show cT _ _ _ _ _;refine av ?_)|refine aB ?_|refine aC λK hK=> ?_|refine cA (c1) ?_|(refine kA ?_;clear hK K)|(intro hg;try exact aw)|exact fin|apply ai)
 all_goals first|rfl|trace_state
theorem Gv (s:bh)(m sh mp:D)(cost:Int)(ac:D)(hs:0<=s.dy/\s.dy<=100)(k:Int)(B:List Bx)(rw:List Row):aT ae 105 [.box 0 0,i64 k] (.mu (sj s m sh mp cost ac)::B) rw (bw (.bool (decide (0<=k/\k<=s.dy - 1))) (.mu (sj s m sh mp cost ac)::B) rw):=by
 have c1:=yq k 0 (s.dy - 1);refine cV func105 ntmps105 results105 call105 rfl ay λW0 S0 M0 own β hβ=> ?_;repeat'(first|(show cT _ _ _ _ _;refine av ?_)|refine aB ?_|refine aC λK hK=> ?_|refine cA (c1) ?_|(refine kA ?_;clear hK K)|(intro hg;try exact aw)|exact fin|apply ai)
 all_goals first|rfl|trace_state
end Go.Proofs.YtopobgihpdaggaaGreatDoor
