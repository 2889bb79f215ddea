import Derived.Test.YtopobgihpdaggaaGreatDoorZ26
import Derived.Lib.ConvBytes
set_option linter.unusedVariables false
set_option linter.unusedSimpArgs false
open And renaming intro->ai
open Go.Lib renaming bytesCells->Cp
open List renaming append_nil->bN,cons_append->bR,foldr->bU,forall_mem_cons->jf,getElem?_eq_some_iff->bm,getElem?_map->dO,getElem?_set_ne->gz,getElem?_set_self->je,headD_cons->iy,mem_append->gY,mem_cons->eX,mem_map_of_mem->gP,nil_append->bQ,not_mem_nil->fu,replicate->bP,take_of_length_le->xC
open Nat renaming le_refl->cx
open Option renaming getD_some->fV,map_some->eW
open Go.Proofs.Tryz renaming f81->nC,prog->ae
open Go.Proofs.Tryz
namespace Go.Proofs.YtopobgihpdaggaaGreatDoor
set_option maxRecDepth 100000
set_option maxHeartbeats 4000000
open Go.Ab
attribute[local irreducible] az dI dR ax aT IA fP aZ gZ
theorem aey (s:bh)(n cap:Nat)(cost:Int)(ar:List Int)(cs U:List D)(W R:Nat)(sl:Int)(S:List dJ)(ns na:Nat)(yW:ar.length=1)(aE:∀d∈cs,Names 0 0 d)(iC:0<=s.dy/\s.dy<=100)(hr:0<=nth ar 0/\nth ar 0<=s.dy - 1)(hd:cs.drop ((nth ar 0).toNat * 4)=eQ W R sl S++U)(bE:cs.length=cap * 4)(hn:n<=cap)(eh:n<=100)(mf:nth ar 0 < n)(hM:jH W R sl S)(hC:rb W sl S):
  aT ae 144 [.box 0 0,ints ar, .list []] [.mu (aP s n cap cost), .mp [], .mu cs] [aG ns,aH na] (bw (.aQ [ints (pS W sl S (W * R)),i64 0]) [.mu (aP s n cap cost), .mp [], .mu cs] [aG ns,aH na]):=by
 have dC:∀nb nr,db nb nr cs=true:=λnb nr=>iz λd hd=>jA (aE d hd);have c1:=aeq s n cap cost (nth ar 0) cs U W R sl S ns na aE iC hr hd bE hn eh mf hM hC;refine og ?_ rfl (by simp only[bZ,dC];rfl) (cx _);refine cV func144 ntmps144 results144 call144 rfl ay λW0 S0 M0 own β hβ=> ?_;repeat'(first|(show az _ (.region 1 _ _) _ _;refine eo 4 rfl (λK1 aK=> ?_);refine av ?_)|(refine aK _ (cC c1 (by show(15:Nat) < 21;decide) rfl rfl rfl rfl ?_);clear aK K1;rintro d aF aL ⟨rfl,rfl,rfl⟩;simp only[bF,Nat.reduceAdd];refine av ?_)|(show cT _ _ _ _ _;refine av ?_)|refine aB ?_|refine aC λK hK=> ?_|(refine kA ?_;clear hK K)|(intro hg;try exact aw)|exact fin|apply ai)
 all_goals first
  |exact⟨[],rfl⟩
  |exact⟨_,rfl⟩
  |trace_state
theorem Ec (s:bh)(n cap:Nat)(cost:Int)(cs:List D)(ns na:Nat)(aE:∀d∈cs,Names 0 0 d)(kf:Int)(eE:List D)(OP:Nat)(nf:∀d∈eE,Names 0 0 d)(t out:ByteArray)(ht:t.size<=200)(f:FuncId)(m:Int)(cf a:Bool)(ar:List Int)(cp res:D)(r6:cp= .list []\/∃l,cp= .list l)
  (hp:ax ae 81 [.str t] (.aQ [.agg [.aD f [],i64 m, .bool false, .bool cf, .bool a,ints ar,cp], .bool true]))
  (hc:aT ae f [.box 0 0,ints ar,cp] [.mu (aP s n cap cost), .mp [], .mu cs] [aG ns,aH na] (bw (.aQ [res,i64 0]) [.mu (aP s n cap kf), .mp [], .mu eE] [aG ns,aH OP]))
  (mX:res= .val (.slice none 0 0)/\ax ae 82 [.list []] (.str out)\/∃l,res= .list l/\ax ae 82 [.list l] (.str out)):
  aT ae 46 [.box 0 0, .str t] [.mu (aP s n cap cost), .mp [], .mu cs] [aG ns,aH na] (bw (.aQ [.str out,i64 0]) [.mu (aP s n cap kf), .mp [], .mu eE] [aG ns,aH OP]):=by
 have dC:∀nb nr,db nb nr cs=true:=λnb nr=>iz λd hd=>jA (aE d hd);have rW:∀nb nr,db nb nr eE=true:=λnb nr=>iz λd hd=>jA (nf d hd);obtain⟨cl,rfl⟩:∃l,cp= .list l:=by rcases r6 with rfl|⟨l,rfl⟩<;>exact⟨_,rfl⟩
 have c0:=AJ s (.a_ 2 0 n cap) (.own 0) (.bz 1) cost (.own 1) [.mp [], .mu cs] [aG ns,aH na];have c1:=mr (nr:=2) [.mu [.aD f [],i64 m, .bool false, .bool cf, .bool a,ints ar, .list cl]] hc rfl (by simp only[bZ,dC];rfl) (by simp only[bZ,rW];rfl) (by rcases mX with⟨rfl,_⟩|⟨l,rfl,_⟩<;>rfl) rfl rfl;refine og ?_ rfl (by simp only[bZ,rW];rfl) (cx _);refine cV func46 ntmps46 results46 call46 rfl ay λW0 S0 M0 own β hβ=> ?_;rcases mX with⟨rfl,c2⟩|⟨l,rfl,c2⟩;all_goals
  skip
  repeat'(first|(show az _ (.region 1 _ _) _ _;refine eo 1 rfl (λK1 aK=> ?_);refine av ?_)|(refine aK _ (cC c0 (by show(11:Nat) < 39;decide) rfl rfl rfl rfl ?_);clear aK K1;rintro d aF aL ⟨rfl,rfl,rfl⟩;simp only[bF,Nat.reduceAdd];refine av ?_)|(show az _ (.region 8 _ _) _ _;refine eo 8 rfl (λK2 n5=> ?_);refine av ?_)|(refine n5 _ (cC c1 (by show(31:Nat) < 39;decide) rfl rfl rfl rfl ?_);clear n5 K2;rintro d aF aL ⟨rfl,rfl,rfl⟩;simp only[bF,Nat.reduceAdd];refine av ?_)|(show cT _ _ _ _ _;refine av ?_)|refine aB ?_|refine aC λK hK=> ?_|refine cA (hp) ?_|refine cA (c2) ?_|(refine kA ?_;clear hK K)|(intro hg;try exact aw)|exact fin|apply ai)
  all_goals first
   |rfl
   |exact⟨[],rfl⟩
   |exact⟨_,rfl⟩
   |trace_state
end Go.Proofs.YtopobgihpdaggaaGreatDoor
namespace Go.Ab
open Go.RowKit Go
theorem aO.Em {c:Ctx}{n:Nat}{sl:Nat->D}{bx:List Bx}{aL:List Row}(j q:Nat){cs:List D}{d d':D}(hj:bx[j]? =some (.mu cs))(hq:cs[q]? =some d)(hw:∀(w:World) (g:Gh) (v:Value),Rel w g v d->Rel w g v d'):
  aO c ⟨n,sl,bx,aL⟩ ⟨n,sl,bx.set j (.mu (cs.set q d')),aL⟩:=by
 rintro a w ⟨g,hg⟩;have eu:j < bx.length:=(bm.1 hj).1;have hold:∀(k:Nat) (x:Bx),(bx.set j (.mu (cs.set q d')))[k]? =some x->(k=j/\x= .mu (cs.set q d'))\/(k≠j/\bx[k]? =some x):=λk x hk=>by
  by_cases jE:k=j
  ·subst jE;rw[je eu]at hk;exact .inl ⟨rfl,(Option.some.inj hk).symm⟩
  ·rw[gz (Ne.symm jE)]at hk;exact .inr ⟨jE,hk⟩
 obtain⟨κ,k1,k2⟩:=hg.ap;obtain⟨b0,uq,t0,e1,e2,e3,e4,e5,_⟩:=(hg.bx j cs hj).ex;have e3:fF w g uq cs:=e3;have jm:q < cs.length:=(bm.1 hq).1;refine⟨g,hg.df,hg.sz,hg.below,hg.cY,hg.bt,hg.eD,hg.S0,hg.fU,by simpa using hg.lβ,hg.lρ,hg.sl,λk dp hk=> ?_,λk dp hk=> ?_,hg.rw,⟨κ,λk x b hk hx hb=> ?_,k2⟩,λk es hk=> ?_⟩
 ·rcases hold k _ hk with⟨rfl,e⟩|⟨_,hk⟩
  ·cases e;refine⟨b0,uq,t0,e1,e2,⟨by rw[List.length_set];exact e3.1,λp x hd=> ?_⟩,e4,e5,λhh=>by cases hh⟩;by_cases pJ:q=p
   ·subst pJ;rw[je jm]at hd;cases hd;have hx:=e3.2 q _ hq;exact⟨hw _ _ _ hx.1,hx.2⟩
   ·rw[gz pJ]at hd;exact e3.2 p x hd
  ·exact hg.bx k dp hk
 ·rcases hold k _ hk with⟨_,e⟩|⟨_,hk⟩
  ·cases e
  ·exact hg.fz k dp hk
 ·rcases hold k _ hk with⟨rfl,_⟩|⟨_,hk⟩
  ·exact k1 k _ b hj rfl hb
  ·exact k1 k x b hk hx hb
 ·rcases hold k _ hk with⟨_,e⟩|⟨_,hk⟩
  ·cases e
  ·exact hg.mp k es hk
theorem Dc (w:World)(g:Gh)(v:Value)(h:Rel w g v (.val (.slice none 0 0))):Rel w g v (.list []):=by
 cases h;exact .nil _ _
end Go.Ab
namespace Go.Proofs.YtopobgihpdaggaaGreatDoor
set_option maxRecDepth 100000
set_option maxHeartbeats 4000000
open Go.Ab
attribute[local irreducible] az dI dR ax aT IA fP aZ gZ
def cm:bh:=⟨[(⟨0,0,0,0,0,5,0,0,[⟨0,0,0⟩]⟩,0),(⟨0,0,0,0,0,0,0,0,[⟨0,0,0⟩]⟩,3)],[(73000,78000),(0,35999)],[0,128,0,256,0,0,0,2,8,0],1,100,2,31,2,2,100,⟨2,[],[],[⟨15,45,8000,3000⟩],300,360,600,360,1080⟩,3,[1,2],500,30,400,2⟩
theorem Fi (a b:Int):ax ae 50 [i64 a,i64 b] (ql a b):=by
 refine aR func50 ntmps50 results50 call50 rfl ay λw0 S0 M0=> ?_;repeat'(first|refine aB ?_|refine aC λK hK=> ?_|(refine kA ?_;clear hK K)|(intro hg;try exact aw)|exact fin|apply ai)
theorem TQ:ax ae 23 [] (fT cm):=by
 have c1:=Fi 73000 78000;have c2:=Fi 0 35999;have c3:=Fi 15 45;refine aR func23 ntmps23 results23 call23 rfl ay λw0 S0 M0=> ?_;repeat'(first|(show az _ .ret _ _;refine b_ ?_)|(exact rfl)|refine aB ?_|refine aC λK hK=> ?_|refine cA (c1) ?_|refine cA (c2) ?_|refine cA (c3) ?_|(refine kA ?_;clear hK K)|((show 0 + 25<=25;decide))|(intro hg;try exact aw)|exact fin|apply ai)
 refine cI ?_;refine eI (aO.Em 0 11 rfl rfl Dc) ?_;refine eI (aO.Em 0 12 rfl rfl Dc) ?_;refine oo ?_
 (refine av ?_;try exact trivial)
 all_goals rfl
theorem V1:nD cm:=ak
theorem V2:pj cm:=by
 refine⟨ak,ak,ak, ?_,ak,ak,ak, ?_,ak⟩
 ·intro i hi;have hi:i < 2:=hi;have:i=0\/i=1:=ag;rcases this with rfl|rfl
  ·exact⟨ak,ak,λa b h1 h2=>by have h2:b < 1:=h2;omega⟩
  ·exact⟨ak,ak,λa b h1 h2=>by have h2:b < 1:=h2;omega⟩
 ·decide
end Go.Proofs.YtopobgihpdaggaaGreatDoor
namespace Go.Proofs.YtopobgihpdaggaaGreatDoor
open Go.Ab
def kF:List (Int×Int):=[(73000,78000),(0,35999)]
def kT:List Int:=[0,128,0,256,0,0,0,2,8,0]
def kG:List ByteArray:=[⟨#[55,53,51,49,48]⟩,⟨#[50,55,48,51,48]⟩,⟨#[57,50,56,52,48]⟩]
theorem kTu:xh kT:=⟨rfl,λi hi=>by
 match i,hi with
 |0,_|1,_|2,_|3,_|4,_|5,_|6,_|7,_|8,_|9,_=>exact⟨ak,ak⟩⟩
theorem Pj:E8 kF.length [kG]:=⟨⟨ak,ak⟩,λi hi=>by
 have:i=0:=by simp at hi;exact hi
 subst this;refine⟨rfl,λq hq=> ?_⟩;have hq:q<=2:=hq
 match q,hq with
 |0,_=>exact⟨rfl,ak⟩
 |1,_=>exact⟨rfl,ak⟩
 |2,_=>exact⟨rfl,ak⟩⟩
theorem kSr:kr kF kT 1 [kG] (BI kF.length) 0 0 0 [0,0,0] (px kF.length)=[[75310,27030],[75810,27030]]:=aj
theorem Pk:qf kF kT 1:=ak
theorem kCp:vD kF.length [kG]:=⟨ak,λi hi=>by
 have:i=0:=by simp at hi;exact hi
 subst this;refine⟨rfl,λq hq=> ?_⟩;have hq:q<=2:=hq;have G0:∀p,p < 5->p=0\/p=1\/p=2\/p=3\/p=4:=λp hp=>by omega
 match q,hq with
 |0,_=>exact⟨rfl,λp hp=>by rcases G0 p hp with rfl|rfl|rfl|rfl|rfl<;>exact .inl ⟨ak,ak⟩⟩
 |1,_=>exact⟨rfl,λp hp=>by rcases G0 p hp with rfl|rfl|rfl|rfl|rfl<;>exact .inl ⟨ak,ak⟩⟩
 |2,_=>exact⟨rfl,λp hp=>by rcases G0 p hp with rfl|rfl|rfl|rfl|rfl<;>exact .inl ⟨ak,ak⟩⟩⟩
abbrev kL:List (List Int):=[[75310,27030],[75810,27030]]
theorem Pf:ax ae 86 [.agg (kU kF kT 1 [kG])] (.list (kL.map ints)):=
 ZJ kF kT 1 [kG] kTu kCp ⟨ak,ak⟩ ⟨ak,ak⟩ 75310 75810 [27030] [27030] ak kSr
theorem aaK:ax ae 261 [.agg (nG cm.fl cm.tu cm.mo), .list [bW kG]] (.aQ [.list (kL.map ints), .int .i64 0]):=
 ae9 kF kT 1 [kG] (kL.map ints) Pj Pk ⟨ak,ak⟩ Pf
def yB:dY:=⟨0,480,1,76000,0,0,0,0,0,0⟩
theorem kE:np (nth cm.bf 0).1 (iw yB)=0:=Ra ak (λa b h1 h2=>absurd (show b < 1 from h2) ag)
theorem aaC:ax ae 252 [iP (nth cm.bf 0).1,pC yB] (.aQ [.agg [i64 75995,i64 76005,i64 75995,i64 76005,i64 100,i64 100],i64 0]):=by
 have h:=acK (nth cm.bf 0).1 ak yB;have e:Pa (nth cm.bf 0).1 yB= .agg [i64 75995,i64 76005,i64 75995,i64 76005,i64 100,i64 100]:=aj;rw[if_pos kE,kE,e]at h;exact h
def lW:List dJ:=[⟨0,75995,76005⟩]
def ie:List dJ:=[⟨0,75995,76005⟩,⟨3,75310,75810⟩]
theorem kM1:jH 2 2 100 lW:=⟨ak,ak,ak,ak,ak⟩
theorem Pg:jH 2 2 100 ie:=⟨ak,ak,ak,ak,ak⟩
theorem kC1:rb 2 100 lW:=λi k h1 h2=>absurd (show k < 1 from h2) ag
theorem Pm:rb 2 100 ie:=λi k h1 h2=>by
 have h2:k < 2:=h2;obtain rfl:k=1:=ag;obtain rfl:i=0:=ag;decide
theorem aaE:pS 2 100 ie 4=[76000,75902,75902,75802]:=aj
theorem aaL:Eh cm.to cm.tf cm.tm 3 1=131:=ak
end Go.Proofs.YtopobgihpdaggaaGreatDoor
namespace Go.Proofs.YtopobgihpdaggaaGreatDoor
set_option maxRecDepth 100000
set_option maxHeartbeats 4000000
open Go.Ab Go.mD Go.RowKit Go
attribute[local irreducible] az dI dR ax aT IA fP aZ gZ fN
theorem Y8 {ops:Array Oper}(cj:ops=dK nC 11)(l1 l2:List Deferred)(kP:World)(S0:Addr->Prop)(M0:MM)(own:Nat->Prop)(β:List Nat)(t w:ByteArray)(f:FuncId)(m v j wl mm:Int)(jM cp act:Bool)(xs:List D)(X Y:List D)(hX:X.length<=100)(c1:ax ae 112 [.str w] (i64 v))
  {Q:Exit->St->Prop}{T:dX}(hQ:Q .normal ⟨106,((T.foldr (λe f=>put f e.2.1 (e.2.2 λ_=>true)) (bj [(0, .str t),(2, .box 0 0),(3, .box 1 0),(5,i64 mm),(6,i64 j),(7, .str w),(67, .list xs),(68,i64 wl),(69,i64 j)]))),(λ(L:Nat->Bool)=>[.mu [.aD f [],i64 m, .bool jM, .bool cp, .bool act,bif L 7 then .own 0 else bif L 5 then .undef else .own 0, .own 1], .mu [.bool true]]) (λ_=>true),(λ(L:Nat->Bool)=>[⟨true,3,1,bif L 5 then X++[i64 v]else X⟩,⟨true,73,1,Y⟩]) (λ_=>true)⟩)(hT:T=[(0,85,λL=> .box 0 5),(1,86,λL=>bif L 5 then .undef else .own 0),(2,87,λL=> .str w),(3,88,λL=>i64 v),(4,89,λL=> .list [i64 v]),(5,90,λL=> .own 0),(6,91,λL=> .box 0 5)]:=by rfl):
  fN l1 l2 ⟨ae,kP,S0,M0,none,own,β⟩ (.region 11 ops true) Q ⟨106,bj [(0, .str t),(2, .box 0 0),(3, .box 1 0),(5,i64 mm),(6,i64 j),(7, .str w),(67, .list xs),(68,i64 wl),(69,i64 j)],(λ(L:Nat->Bool)=>[.mu [.aD f [],i64 m, .bool jM, .bool cp, .bool act,bif L 7 then .own 0 else bif L 5 then .undef else .own 0, .own 1], .mu [.bool true]]) (λ_=>false),(λ(L:Nat->Bool)=>[⟨true,3,1,bif L 5 then X++[i64 v]else X⟩,⟨true,73,1,Y⟩]) (λ_=>false)⟩:=by
 simp only[dK,eW,fV,nC,fB,Nat.reduceBEq,Bool.false_eq_true,if_false,if_true,bQ,bN,bR,iy,reduceIte,eq_self]at cj;subst cj;have ba:T.map (·.1)=[0,1,2,3,4,5,6]:=by rw[hT];rfl
 have cQ:T.map (·.2.1)=[85,86,87,88,89,90,91]:=by rw[hT];rfl
 have cD:(T.map (·.1)).Nodup:=by rw[ba];decide
 have aS:(T.map (·.2.1)).Nodup:=by rw[cQ];decide
 obtain⟨b,hb⟩:∃b:Nat->D,b=bj [(0, .str t),(2, .box 0 0),(3, .box 1 0),(5,i64 mm),(6,i64 j),(7, .str w),(67, .list xs),(68,i64 wl),(69,i64 j)]:=⟨_,rfl⟩;rw[<-hb];have h0:aI (λ_=>false) (λ_=>false) T b=b:=gR (λ_ _=>rfl);rw[<-h0];refine Ev (c:=⟨ae,kP,S0,M0,none,own,β⟩) Tryz.ty.mixed rfl aj 106 T b (λL=>[.mu [.aD f [],i64 m, .bool jM, .bool cp, .bool act,bif L 7 then .own 0 else bif L 5 then .undef else .own 0, .own 1], .mu [.bool true]]) (λL=>[⟨true,3,1,bif L 5 then X++[i64 v]else X⟩,⟨true,73,1,Y⟩]) (λL k op hC af hL aa=> ?_) (λL hL=> ?_);rotate_left
 ·have bu:∀x∈T.map (·.1),x < 8:=by rw[ba];decide
  rw[gS (λe he=>hL _ (bu _ (gP (f:=(·.1)) he)))];rw[hT,hb];have e5:L 5=true:=hL 5 ak;have e7:L 7=true:=hL 7 ak;simp only[bU,e5,e7];simp only[hT,bU,cond_true]at hQ;exact hQ
 match k,af,hL,aa with
 |0,af,hL,aa=>
  cases af;have e5:=au hC hL 5 [1] rfl;have e7:=au hC hL 7 [] rfl;have hX:=an e5 (an e7 hL);exact aA
 |1,af,hL,aa=>
  cases af;have d0:=aq aa 0 rfl;have e5:=au hC hL 5 [] rfl;have e7:=au hC hL 7 [] rfl;have hX:=an d0 (an e5 (an e7 hL));exact aA
 |2,af,hL,aa=>
  cases af;have e5:=au hC hL 5 [3] rfl;have e7:=au hC hL 7 [] rfl;have hX:=an e5 (an e7 hL);exact aA
 |3,af,hL,aa=>
  cases af;have d2:=aq aa 2 rfl;have e5:=au hC hL 5 [] rfl;have e7:=au hC hL 7 [] rfl
  (
   have f87:=br (V:=L) (b:=b) d2 aS (show(2,87,λL=> .str w)∈T by rw[hT];simp);have g5:more L 3 5=L 5:=rfl;have g7:more L 3 7=L 7:=rfl;have ek:aI (more L 3) (more L 3) T b=put (aI L L T b) 88 (i64 v):=(dM hL cD aS (show(3,88,λL=>i64 v)∈T by rw[hT];simp)).trans (by rw[<-eL (V:=L) (V':=more L 3) (by rw[hT];simp[more])];try rfl);rw[ek];try simp only[e5,e7,g5,g7,cond_true,cond_false,bR,bQ,bN]
   try simp only[e5,e7,g5,g7,cond_true,cond_false,cG,cN,dN,put,Nat.reduceEqDiff,if_true,if_false,reduceIte]at f87
   refine jt.C' c1.it ?_;refine ee.j4 rfl ?_;refine aZ.rE rfl ?_
   (refine sX @f87 ?_;try exact trivial)
   refine bl c1 ?_
   (refine av ?_;try exact trivial)
   exact aO.of_eq rfl)
 |4,af,hL,aa=>
  cases af;have d3:=aq aa 3 rfl;have e5:=au hC hL 5 [] rfl;have e7:=au hC hL 7 [] rfl;have hX:=an d3 (an e5 (an e7 hL));exact aA
 |5,af,hL,aa=>
  cases af;have d1:=aq aa 1 rfl;have d4:=aq aa 4 rfl;have e5:L 5=false:=hL;have e7:=au hC hL 7 [] rfl
  (
   have f86:=br (V:=L) (b:=b) d1 aS (show(1,86,λL=>bif L 5 then .undef else .own 0)∈T by rw[hT];simp);have f89:=br (V:=L) (b:=b) d4 aS (show(4,89,λL=> .list [i64 v])∈T by rw[hT];simp);have g5:more L 5 5=true:=rfl;have g7:more L 5 7=L 7:=rfl;have ek:aI (more L 5) (more L 5) T b=put (jz 0 (aI L L T b)) 90 (.own 0):=by
    refine(dM hL cD aS (show(5,90,λL=> .own 0)∈T by rw[hT];simp)).trans ?_;rw[mP (V:=L) (V':=more L 5) (by rw[hb];simp only[cG,cN,nM,nN];rfl) (by rw[hT];simp only[jf,fu,false_implies,implies_true,and_true];and_intros<;>(intro h;first|rfl|exact absurd (hL.symm.trans h) ak|(simp only[e5,e7,g5,g7,cond_true,cond_false];rfl)))]
   rw[ek];try simp only[e5,e7,g5,g7,cond_true,cond_false,bR,bQ,bN]
   try simp only[e5,e7,g5,g7,cond_true,cond_false,cG,cN,dN,put,Nat.reduceEqDiff,if_true,if_false,reduceIte]at f86 f89
   refine jt.sV rfl ?_;refine ee.j4 rfl ?_;refine aZ.of ?_
   (refine sX (ai @f86 @f89) ?_;try exact trivial)
   first|exact aO.of_eq rfl|exact⟨by assumption,aO.of_eq rfl⟩|exact⟨ag,ag,aO.of_eq rfl⟩|exact⟨ak,aO.of_eq rfl⟩|exact⟨_,rfl,rfl,aO.of_eq rfl⟩|(refine⟨?_, ?_⟩<;>first|exact aO.of_eq rfl|omega|rfl)|skip)
 |6,af,hL,aa=>
  cases af;have e5:=aq aa 5 rfl;have e7:=au hC hL 7 [] rfl;have hX:=an e5 (an e7 hL);exact aA
 |7,af,hL,aa=>
  cases af;have d5:=aq aa 5 rfl;have d6:=aq aa 6 rfl;have e5:=ca hC (aq aa 6 rfl) 5 [] rfl;have e7:L 7=false:=hL;have hX:=an d5 (an d6 (an e5 (an e7 hL)));exact aA
 |k + 8,af,hL,aa=>simp at af
theorem Y7 {ops:Array Oper}(cj:ops=dK nC 14)(l1 l2:List Deferred)(kP:World)(S0:Addr->Prop)(M0:MM)(own:Nat->Prop)(β:List Nat)(t w:ByteArray)(f:FuncId)(m j wl mm:Int)(jM cp act:Bool)(xs ps:List D)(X Y:List D)(hY:Y.length<=100)(c1:ax ae 110 [.str w, .str ⟨#[46]⟩] (.list ps))
  {Q:Exit->St->Prop}{T:dX}(hQ:Q .normal ⟨106,((T.foldr (λe f=>put f e.2.1 (e.2.2 λ_=>true)) (bj [(0, .str t),(2, .box 0 0),(3, .box 1 0),(5,i64 mm),(6,i64 j),(7, .str w),(67, .list xs),(68,i64 wl),(69,i64 j)]))),(λ(L:Nat->Bool)=>[.mu [.aD f [],i64 m, .bool jM, .bool cp, .bool act, .own 0,bif L 7 then .own 1 else bif L 5 then .undef else .own 1], .mu [.bool true]]) (λ_=>true),(λ(L:Nat->Bool)=>[⟨true,3,1,X⟩,⟨true,73,1,bif L 5 then Y++[.list ps]else Y⟩]) (λ_=>true)⟩)(hT:T=[(0,97,λL=> .box 0 6),(1,98,λL=>bif L 5 then .undef else .own 1),(2,99,λL=> .str w),(3,100,λL=> .list ps),(4,101,λL=> .list [.list ps]),(5,102,λL=> .own 1),(6,103,λL=> .box 0 6)]:=by rfl):
  fN l1 l2 ⟨ae,kP,S0,M0,none,own,β⟩ (.region 14 ops true) Q ⟨106,bj [(0, .str t),(2, .box 0 0),(3, .box 1 0),(5,i64 mm),(6,i64 j),(7, .str w),(67, .list xs),(68,i64 wl),(69,i64 j)],(λ(L:Nat->Bool)=>[.mu [.aD f [],i64 m, .bool jM, .bool cp, .bool act, .own 0,bif L 7 then .own 1 else bif L 5 then .undef else .own 1], .mu [.bool true]]) (λ_=>false),(λ(L:Nat->Bool)=>[⟨true,3,1,X⟩,⟨true,73,1,bif L 5 then Y++[.list ps]else Y⟩]) (λ_=>false)⟩:=by
 simp only[dK,eW,fV,nC,fB,Nat.reduceBEq,Bool.false_eq_true,if_false,if_true,bQ,bN,bR,iy,reduceIte,eq_self]at cj;subst cj;have ba:T.map (·.1)=[0,1,2,3,4,5,6]:=by rw[hT];rfl
 have cQ:T.map (·.2.1)=[97,98,99,100,101,102,103]:=by rw[hT];rfl
 have cD:(T.map (·.1)).Nodup:=by rw[ba];decide
 have aS:(T.map (·.2.1)).Nodup:=by rw[cQ];decide
 obtain⟨b,hb⟩:∃b:Nat->D,b=bj [(0, .str t),(2, .box 0 0),(3, .box 1 0),(5,i64 mm),(6,i64 j),(7, .str w),(67, .list xs),(68,i64 wl),(69,i64 j)]:=⟨_,rfl⟩;rw[<-hb];have h0:aI (λ_=>false) (λ_=>false) T b=b:=gR (λ_ _=>rfl);rw[<-h0];refine Ev (c:=⟨ae,kP,S0,M0,none,own,β⟩) Tryz.ty.mixed rfl aj 106 T b (λL=>[.mu [.aD f [],i64 m, .bool jM, .bool cp, .bool act, .own 0,bif L 7 then .own 1 else bif L 5 then .undef else .own 1], .mu [.bool true]]) (λL=>[⟨true,3,1,X⟩,⟨true,73,1,bif L 5 then Y++[.list ps]else Y⟩]) (λL k op hC af hL aa=> ?_) (λL hL=> ?_);rotate_left
 ·have bu:∀x∈T.map (·.1),x < 8:=by rw[ba];decide
  rw[gS (λe he=>hL _ (bu _ (gP (f:=(·.1)) he)))];rw[hT,hb];have e5:L 5=true:=hL 5 ak;have e7:L 7=true:=hL 7 ak;simp only[bU,e5,e7];simp only[hT,bU,cond_true]at hQ;exact hQ
 match k,af,hL,aa with
 |0,af,hL,aa=>
  cases af;have e5:=au hC hL 5 [1] rfl;have e7:=au hC hL 7 [] rfl;have hX:=an e5 (an e7 hL);exact aA
 |1,af,hL,aa=>
  cases af;have d0:=aq aa 0 rfl;have e5:=au hC hL 5 [] rfl;have e7:=au hC hL 7 [] rfl;have hX:=an d0 (an e5 (an e7 hL));exact aA
 |2,af,hL,aa=>
  cases af;have e5:=au hC hL 5 [3] rfl;have e7:=au hC hL 7 [] rfl;have hX:=an e5 (an e7 hL);exact aA
 |3,af,hL,aa=>
  cases af;have d2:=aq aa 2 rfl;have e5:=au hC hL 5 [] rfl;have e7:=au hC hL 7 [] rfl
  (
   have f99:=br (V:=L) (b:=b) d2 aS (show(2,99,λL=> .str w)∈T by rw[hT];simp);have g5:more L 3 5=L 5:=rfl;have g7:more L 3 7=L 7:=rfl;have ek:aI (more L 3) (more L 3) T b=put (aI L L T b) 100 (.list ps):=(dM hL cD aS (show(3,100,λL=> .list ps)∈T by rw[hT];simp)).trans (by rw[<-eL (V:=L) (V':=more L 3) (by rw[hT];simp[more])];try rfl);rw[ek];try simp only[e5,e7,g5,g7,cond_true,cond_false,bR,bQ,bN]
   try simp only[e5,e7,g5,g7,cond_true,cond_false,cG,cN,dN,put,Nat.reduceEqDiff,if_true,if_false,reduceIte]at f99
   refine jt.C' c1.it ?_;refine ee.j4 rfl ?_;refine aZ.rE rfl ?_
   (refine sX @f99 ?_;try exact trivial)
   refine bl c1 ?_
   (refine av ?_;try exact trivial)
   exact aO.of_eq rfl)
 |4,af,hL,aa=>
  cases af;have d3:=aq aa 3 rfl;have e5:=au hC hL 5 [] rfl;have e7:=au hC hL 7 [] rfl;have hX:=an d3 (an e5 (an e7 hL));exact aA
 |5,af,hL,aa=>
  cases af;have d1:=aq aa 1 rfl;have d4:=aq aa 4 rfl;have e5:L 5=false:=hL;have e7:=au hC hL 7 [] rfl
  (
   have f98:=br (V:=L) (b:=b) d1 aS (show(1,98,λL=>bif L 5 then .undef else .own 1)∈T by rw[hT];simp);have f101:=br (V:=L) (b:=b) d4 aS (show(4,101,λL=> .list [.list ps])∈T by rw[hT];simp);have g5:more L 5 5=true:=rfl;have g7:more L 5 7=L 7:=rfl;have ek:aI (more L 5) (more L 5) T b=put (jz 1 (aI L L T b)) 102 (.own 1):=by
    refine(dM hL cD aS (show(5,102,λL=> .own 1)∈T by rw[hT];simp)).trans ?_;rw[mP (V:=L) (V':=more L 5) (by rw[hb];simp only[cG,cN,nM,nN];rfl) (by rw[hT];simp only[jf,fu,false_implies,implies_true,and_true];and_intros<;>(intro h;first|rfl|exact absurd (hL.symm.trans h) ak|(simp only[e5,e7,g5,g7,cond_true,cond_false];rfl)))]
   rw[ek];try simp only[e5,e7,g5,g7,cond_true,cond_false,bR,bQ,bN]
   try simp only[e5,e7,g5,g7,cond_true,cond_false,cG,cN,dN,put,Nat.reduceEqDiff,if_true,if_false,reduceIte]at f98 f101
   refine jt.sV rfl ?_;refine ee.j4 rfl ?_;refine aZ.of ?_
   (refine sX (ai @f98 @f101) ?_;try exact trivial)
   first|exact aO.of_eq rfl|exact⟨by assumption,aO.of_eq rfl⟩|exact⟨ag,ag,aO.of_eq rfl⟩|exact⟨ak,aO.of_eq rfl⟩|exact⟨_,rfl,rfl,aO.of_eq rfl⟩|(refine⟨?_, ?_⟩<;>first|exact aO.of_eq rfl|omega|rfl)|skip)
 |6,af,hL,aa=>
  cases af;have e5:=aq aa 5 rfl;have e7:=au hC hL 7 [] rfl;have hX:=an e5 (an e7 hL);exact aA
 |7,af,hL,aa=>
  cases af;have d5:=aq aa 5 rfl;have d6:=aq aa 6 rfl;have e5:=ca hC (aq aa 6 rfl) 5 [] rfl;have e7:L 7=false:=hL;have hX:=an d5 (an d6 (an e5 (an e7 hL)));exact aA
 |k + 8,af,hL,aa=>simp at af
theorem Y_ (t w0:ByteArray)(ws:List ByteArray)(ns:List Int)(l:List ByteArray)(f:FuncId)(m:Nat)(act:Bool)(hs:ax ae 110 [.str t, .str ⟨#[32]⟩] (.list ((w0::ws).map D.str)))(hf:lU (.str w0) sU=some (jh f (m:Int) false true act))(hw:ws.length=m + 1)(hn:ns.length=m)(hm:m<=20)
  (hc:∀j,j < m->ax ae 112 [.str (nth ws j)] (i64 (nth ns j)))(hl:ax ae 110 [.str (nth ws m), .str ⟨#[46]⟩] (.list (l.map D.str)))(bS:((nth ws m).toList == (ByteArray.mk #[]).toList)=false):ax ae 81 [.str t] (.aQ [.agg [.aD f [],i64 (m:Nat), .bool false, .bool true, .bool act,ints ns, .list [.list (l.map D.str)]], .bool true]):=by
 refine OB t _ _ λl1 l2 kP S0 M0 own β hβ=> ?_;simp only[F6,nC,rS,dD,bU];repeat'(first
  |(show fN _ _ _ (.region 3 _ true) _ _;refine b_ ?_)
  |refine pV ?_
  |refine p_ ?_
  |refine pU ?_
  |refine pZ ?_
  |refine pW ?_
  |((first|refine pX aj λK hK=> ?_|refine pY ?_|refine bl (hs) ?_);(refine av ?_;try exact trivial))
  |((first|(refine hK _ ?_;clear hK K)|show cF _ _ _ _|show dn _ _ _ _);simp only[cF,dn,if_true,Nat.reduceEqDiff,reduceIte])
  |(intro hg;first|(exfalso;omega)|(exfalso;contradiction)|skip)
  |apply ai
  |(with_reducible rfl)
  |(clear hK;omega)
  |omega)
 refine cI ?_;refine B6 (dD 106 [(0, .str t),(2, .box 0 0),(3, .box 1 0),(4, .list ((w0::ws).map D.str))] [.mu Z7, .mu [.bool false]] []) (aV rfl (by simp[put]) ⟨[],rfl⟩ ⟨[],rfl⟩) (gT rfl rfl) (by rw[hβ];exact cx _) ?_;refine OA (by rfl) l1 l2 kP S0 M0 own β t w0 ws f m false true act hf ?_;simp only[bU,cond_true,dn,cF];repeat'(first
  |(show fN _ _ _ (.loop _) _ _;refine b_ ?_)
  |(exact CL hg)
  |refine pV ?_
  |refine p_ ?_
  |refine pU ?_
  |refine pZ ?_
  |refine pW ?_
  |((first|refine pX aj λK hK=> ?_|refine pY ?_);(refine av ?_;try exact trivial))
  |((first|(refine hK _ ?_;clear hK K)|show cF _ _ _ _|show dn _ _ _ _);simp only[cF,dn,if_true,Nat.reduceEqDiff,reduceIte])
  |(intro hg;first|(exfalso;omega)|(exfalso;contradiction)|skip)
  |apply ai
  |(with_reducible rfl)
  |(clear hK;omega)
  |omega)
 refine cI ?_;refine Eu (CU 0 5 3 1 [.aD f [],i64 (m:Nat), .bool false, .bool true, .bool act,yw,yw] rfl rfl) ?_;refine Eu (CU 0 6 73 1 [.aD f [],i64 (m:Nat), .bool false, .bool true, .bool act, .own 0,yw] rfl rfl) ?_;refine SC (ι:=Nat) (λj=>[(0, .str t),(2, .box 0 0),(3, .box 1 0),(5,i64 ((m:Nat) + 1)),(67, .list (ws.map D.str)),(68,i64 ((m:Nat) + 1)),(69,i64 (j:Nat))]) (λ_=>[.mu [.aD f [],i64 (m:Nat), .bool false, .bool true, .bool act, .own 0, .own 1], .mu [.bool true]]) (λj=>[⟨true,3,1,(ns.take j).map λ(x:Int)=>i64 x⟩,⟨true,73,1,bif decide (j<=m)then[]else[.list (l.map D.str)]⟩])
  (λj=>j<=m + 1) (λj=>m + 1 - j) (λ_ _=>⟨rfl,rfl⟩) 0 (Nat.zero_le _) (aV rfl (by try(refine av ?_;try exact trivial);simp[hw,xC]) ⟨_,rfl⟩ ⟨[],by simp⟩) (λj hj=> ?_) (λ_ _=>by rw[hβ];exact cx _)
 by_cases aU:j < m
 ·have c1:=hc j aU;have lY:(ns.take j).length=j:=by rw[List.length_take];omega
  have oS:(ns.take (j + 1)).map (λ(x:Int)=>i64 x)=(ns.take j).map (λ(x:Int)=>i64 x)++[i64 (nth ns j)]:=by
   rw[List.take_succ_eq_append_getElem ag,show ns[j]=nth ns j by simp[nth,show j < ns.length by omega]];simp
  have e1:(bif decide (j<=m)then([]:List D)else[.list (l.map D.str)])=[]:=by rw[decide_eq_true ag];rfl
  have e2:(bif decide (j + 1<=m)then([]:List D)else[.list (l.map D.str)])=[]:=by rw[decide_eq_true ag];rfl
  rw[e1]
  (refine av ?_;try exact trivial)
  repeat'(first
   |(show fN _ _ _ (.region 11 _ true) _ _;refine b_ ?_)
   |refine pV ?_
   |refine p_ ?_
   |refine pU ?_
   |refine pZ ?_
   |refine pW ?_
   |((first|refine pX aj λK hK=> ?_|refine pY ?_);(refine av ?_;try exact trivial))
   |((first|(refine hK _ ?_;clear hK K)|show cF _ _ _ _|show dn _ _ _ _);simp only[cF,dn,if_true,Nat.reduceEqDiff,reduceIte])
   |(intro hg;first|(exfalso;omega)|(exfalso;contradiction)|skip)
   |apply ai
   |(with_reducible rfl)
   |(clear hK;omega)
   |omega)
  refine cI ?_;refine B6 (dD 106 [(0, .str t),(2, .box 0 0),(3, .box 1 0),(5,i64 ((m:Nat) + 1)),(6,i64 (j:Nat)),(7, .str (nth ws j)),(67, .list (ws.map D.str)),(68,i64 ((m:Nat) + 1)),(69,i64 (j:Nat))] [.mu [.aD f [],i64 (m:Nat), .bool false, .bool true, .bool act, .own 0, .own 1], .mu [.bool true]] [⟨true,3,1,(ns.take j).map λ(x:Int)=>i64 x⟩,⟨true,73,1,[]⟩]) (aV rfl (by simp[put]) ⟨[],rfl⟩ ⟨[],rfl⟩) (gT rfl rfl) (by rw[hβ];exact cx _) ?_;refine Y8 (by rfl) l1 l2 kP S0 M0 own β t (nth ws j) f m (nth ns j) j (m + 1) (m + 1) false true act (ws.map D.str) ((ns.take j).map λ(x:Int)=>i64 x) [] (by simp;omega) c1 ?_;simp only[bU,cond_true,dn,cF,<-oS];repeat'(first
   |(fail)
   |refine pV ?_
   |refine p_ ?_
   |refine pU ?_
   |refine pZ ?_
   |refine pW ?_
   |((first|refine pX aj λK hK=> ?_|refine pY ?_);(refine av ?_;try exact trivial))
   |((first|(refine hK _ ?_;clear hK K)|show cF _ _ _ _|show dn _ _ _ _);simp only[cF,dn,if_true,Nat.reduceEqDiff,reduceIte])
   |(intro hg;first|(exfalso;omega)|(exfalso;contradiction)|skip)
   |apply ai
   |(with_reducible rfl)
   |(clear hK;omega)
   |omega)
  all_goals first|(refine⟨j + 1,ag,ag, ?_⟩;rw[e2];exact aV rfl (by try(refine av ?_;try exact trivial);try simp) ⟨[],rfl⟩ ⟨[],rfl⟩)|trace_state
 by_cases hjm:j=m
 ·subst hjm;have lY:ns.take j=ns:=xC ag;have abo:ns.take (j + 1)=ns:=xC ag;have e1:(bif decide (j<=j)then([]:List D)else[.list (l.map D.str)])=[]:=by rw[decide_eq_true ag];rfl
  have e2:(bif decide (j + 1<=j)then([]:List D)else[.list (l.map D.str)])=[.list (l.map D.str)]:=by rw[decide_eq_false ag];rfl
  rw[e1,lY]
  (refine av ?_;try exact trivial)
  repeat'(first
   |(show fN _ _ _ (.region 14 _ true) _ _;refine b_ ?_)
   |refine pV ?_
   |refine p_ ?_
   |refine pU ?_
   |refine pZ ?_
   |refine pW ?_
   |((first|refine pX aj λK hK=> ?_|refine pY ?_);(refine sX @bS ?_;try exact trivial))
   |((first|(refine hK _ ?_;clear hK K)|show cF _ _ _ _|show dn _ _ _ _);simp only[cF,dn,if_true,Nat.reduceEqDiff,reduceIte])
   |(intro hg;first|(exfalso;omega)|(exfalso;contradiction)|skip)
   |apply ai
   |(with_reducible rfl)
   |(clear hK;omega)
   |omega)
  refine cI ?_;refine B6 (dD 106 [(0, .str t),(2, .box 0 0),(3, .box 1 0),(5,i64 ((j:Nat) + 1)),(6,i64 (j:Nat)),(7, .str (nth ws j)),(67, .list (ws.map D.str)),(68,i64 ((j:Nat) + 1)),(69,i64 (j:Nat))] [.mu [.aD f [],i64 (j:Nat), .bool false, .bool true, .bool act, .own 0, .own 1], .mu [.bool true]] [⟨true,3,1,ns.map λ(x:Int)=>i64 x⟩,⟨true,73,1,[]⟩]) (aV rfl (by simp[put]) ⟨[],rfl⟩ ⟨[],rfl⟩) (gT rfl rfl) (by rw[hβ];exact cx _) ?_;refine Y7 (by rfl) l1 l2 kP S0 M0 own β t (nth ws j) f j j (j + 1) (j + 1) false true act (ws.map D.str) (l.map D.str) (ns.map λ(x:Int)=>i64 x) [] ay hl ?_;simp only[bU,cond_true,dn,cF,bQ];repeat'(first
   |(fail)
   |refine pV ?_
   |refine p_ ?_
   |refine pU ?_
   |refine pZ ?_
   |refine pW ?_
   |((first|refine pX aj λK hK=> ?_|refine pY ?_);(refine av ?_;try exact trivial))
   |((first|(refine hK _ ?_;clear hK K)|show cF _ _ _ _|show dn _ _ _ _);simp only[cF,dn,if_true,Nat.reduceEqDiff,reduceIte])
   |(intro hg;first|(exfalso;omega)|(exfalso;contradiction)|skip)
   |apply ai
   |(with_reducible rfl)
   |(clear hK;omega)
   |omega)
  all_goals first|(refine⟨j + 1,ag,ag, ?_⟩;rw[e2,abo];exact aV rfl (by try(refine av ?_;try exact trivial);try simp) ⟨[],rfl⟩ ⟨[],rfl⟩)|trace_state
 ·obtain rfl:j=m + 1:=ag;have lY:ns.take (m + 1)=ns:=xC ag;have e1:(bif decide (m + 1<=m)then([]:List D)else[.list (l.map D.str)])=[.list (l.map D.str)]:=by rw[decide_eq_false ag];rfl
  rw[lY,e1]
  (refine av ?_;try exact trivial)
  repeat'(first
   |(exact CL hg)
   |refine pV ?_
   |refine p_ ?_
   |refine pU ?_
   |refine pZ ?_
   |refine pW ?_
   |((first|refine pX aj λK hK=> ?_|refine pY ?_);(refine av ?_;try exact trivial))
   |((first|(refine hK _ ?_;clear hK K)|show cF _ _ _ _|show dn _ _ _ _);simp only[cF,dn,if_true,Nat.reduceEqDiff,reduceIte])
   |(intro hg;first|(exfalso;omega)|(exfalso;contradiction)|skip)
   |apply ai
   |(with_reducible rfl)
   |(clear hK;omega)
   |omega)
  all_goals first
  |(rw[show aJ ae 159=7 from by kernel_rfl];exact cx _)
  |(show bn _ _;(refine av ?_;try exact trivial))
  |skip
end Go.Proofs.YtopobgihpdaggaaGreatDoor
namespace Go.Proofs.YtopobgihpdaggaaGreatDoor
open Go.Ab
theorem nV (w:ByteArray)(n:Int)(h:itoa n=w)(h1:n.natAbs<=99999)(h2:0<=n):ax ae 112 [.str w] (i64 n):=h▸af3 n h1 h2
def wg:ByteArray:=(⟨#[114,101,97,100,32,48,32,48,32,52,56,48,32,49,32,55,54,48,48,48,32,48,32,48,32,48,32,48,32,48,32,48]⟩:ByteArray)
theorem kP0:Go.mD.sR 32 wg=[(⟨#[114,101,97,100]⟩:ByteArray),(⟨#[48]⟩:ByteArray),(⟨#[48]⟩:ByteArray),(⟨#[52,56,48]⟩:ByteArray),(⟨#[49]⟩:ByteArray),(⟨#[55,54,48,48,48]⟩:ByteArray),(⟨#[48]⟩:ByteArray),(⟨#[48]⟩:ByteArray),(⟨#[48]⟩:ByteArray),(⟨#[48]⟩:ByteArray),(⟨#[48]⟩:ByteArray),(⟨#[48]⟩:ByteArray)]:=aj
theorem aat:ax ae 110 [.str wg, .str ⟨#[32]⟩] (.list (((⟨#[114,101,97,100]⟩:ByteArray)::[(⟨#[48]⟩:ByteArray),(⟨#[48]⟩:ByteArray),(⟨#[52,56,48]⟩:ByteArray),(⟨#[49]⟩:ByteArray),(⟨#[55,54,48,48,48]⟩:ByteArray),(⟨#[48]⟩:ByteArray),(⟨#[48]⟩:ByteArray),(⟨#[48]⟩:ByteArray),(⟨#[48]⟩:ByteArray),(⟨#[48]⟩:ByteArray),(⟨#[48]⟩:ByteArray)]).map D.str)):=by
 have h:=Ai wg 32 ak;rw[kP0]at h;exact h
theorem aaB:ax ae 81 [.str wg] (.aQ [.agg [.aD 138 [],i64 ((11:Nat):Int), .bool false, .bool false, .bool true,ints [0,0,480,1,76000,0,0,0,0,0,0], .list []], .bool true]):=
 F5 wg (⟨#[114,101,97,100]⟩:ByteArray) [(⟨#[48]⟩:ByteArray),(⟨#[48]⟩:ByteArray),(⟨#[52,56,48]⟩:ByteArray),(⟨#[49]⟩:ByteArray),(⟨#[55,54,48,48,48]⟩:ByteArray),(⟨#[48]⟩:ByteArray),(⟨#[48]⟩:ByteArray),(⟨#[48]⟩:ByteArray),(⟨#[48]⟩:ByteArray),(⟨#[48]⟩:ByteArray),(⟨#[48]⟩:ByteArray)] [0,0,480,1,76000,0,0,0,0,0,0] 138 11 true aat aj rfl rfl ak (λj hj=>by
  match j,hj with
  |0,_=>exact nV _ 0 aj ak ak
  |1,_=>exact nV _ 0 aj ak ak
  |2,_=>exact nV _ 480 aj ak ak
  |3,_=>exact nV _ 1 aj ak ak
  |4,_=>exact nV _ 76000 aj ak ak
  |5,_=>exact nV _ 0 aj ak ak
  |6,_=>exact nV _ 0 aj ak ak
  |7,_=>exact nV _ 0 aj ak ak
  |8,_=>exact nV _ 0 aj ak ak
  |9,_=>exact nV _ 0 aj ak ak
  |10,_=>exact nV _ 0 aj ak ak)
def wc:ByteArray:=(⟨#[119,105,114,101,32,49,32,48,32,55,53,51,49,48,46,50,55,48,51,48,46,57,50,56,52,48]⟩:ByteArray)
theorem kP1:Go.mD.sR 32 wc=[(⟨#[119,105,114,101]⟩:ByteArray),(⟨#[49]⟩:ByteArray),(⟨#[48]⟩:ByteArray),(⟨#[55,53,51,49,48,46,50,55,48,51,48,46,57,50,56,52,48]⟩:ByteArray)]:=aj
theorem aas:ax ae 110 [.str wc, .str ⟨#[32]⟩] (.list (((⟨#[119,105,114,101]⟩:ByteArray)::[(⟨#[49]⟩:ByteArray),(⟨#[48]⟩:ByteArray),(⟨#[55,53,51,49,48,46,50,55,48,51,48,46,57,50,56,52,48]⟩:ByteArray)]).map D.str)):=by
 have h:=Ai wc 32 ak;rw[kP1]at h;exact h
theorem aaJ:Go.mD.sR 46 (⟨#[55,53,51,49,48,46,50,55,48,51,48,46,57,50,56,52,48]⟩:ByteArray)=kG:=aj
theorem aaA:ax ae 81 [.str wc] (.aQ [.agg [.aD 139 [],i64 ((2:Nat):Int), .bool false, .bool true, .bool true,ints [1,0], .list [bW kG]], .bool true]):=
 Y_ wc (⟨#[119,105,114,101]⟩:ByteArray) [(⟨#[49]⟩:ByteArray),(⟨#[48]⟩:ByteArray),(⟨#[55,53,51,49,48,46,50,55,48,51,48,46,57,50,56,52,48]⟩:ByteArray)] [1,0] kG 139 2 true aas aj rfl rfl ak (λj hj=>by
  match j,hj with
  |0,_=>exact nV _ 1 aj ak ak
  |1,_=>exact nV _ 0 aj ak ak) (by
  have h:=Ai (⟨#[55,53,51,49,48,46,50,55,48,51,48,46,57,50,56,52,48]⟩:ByteArray) 46 ak;rw[aaJ]at h;exact h) aj
def wb:ByteArray:=(⟨#[100,114,97,119,32,48]⟩:ByteArray)
theorem kP2:Go.mD.sR 32 wb=[(⟨#[100,114,97,119]⟩:ByteArray),(⟨#[48]⟩:ByteArray)]:=aj
theorem aar:ax ae 110 [.str wb, .str ⟨#[32]⟩] (.list (((⟨#[100,114,97,119]⟩:ByteArray)::[(⟨#[48]⟩:ByteArray)]).map D.str)):=by
 have h:=Ai wb 32 ak;rw[kP2]at h;exact h
theorem aaz:ax ae 81 [.str wb] (.aQ [.agg [.aD 144 [],i64 ((1:Nat):Int), .bool false, .bool false, .bool false,ints [0], .list []], .bool true]):=
 F5 wb (⟨#[100,114,97,119]⟩:ByteArray) [(⟨#[48]⟩:ByteArray)] [0] 144 1 false aar aj rfl rfl ak (λj hj=>by
  match j,hj with
  |0,_=>exact nV _ 0 aj ak ak)
def wa:ByteArray:=(⟨#[99,111,115,116]⟩:ByteArray)
theorem kP3:Go.mD.sR 32 wa=[(⟨#[99,111,115,116]⟩:ByteArray)]:=aj
theorem aaq:ax ae 110 [.str wa, .str ⟨#[32]⟩] (.list (((⟨#[99,111,115,116]⟩:ByteArray)::[]).map D.str)):=by
 have h:=Ai wa 32 ak;rw[kP3]at h;exact h
theorem aay:ax ae 81 [.str wa] (.aQ [.agg [.aD 152 [],i64 ((0:Nat):Int), .bool false, .bool false, .bool false,ints [], .list []], .bool true]):=
 F5 wa (⟨#[99,111,115,116]⟩:ByteArray) [] [] 152 0 false aaq aj rfl rfl ak (λj hj=>absurd hj (Nat.not_lt_zero j))
end Go.Proofs.YtopobgihpdaggaaGreatDoor
namespace Go.Proofs.YtopobgihpdaggaaGreatDoor
open Go.Ab
attribute[local irreducible] az dI dR ax aT IA fP aZ gZ
abbrev dL (S:List dJ)(U:List D):List D:=eQ 2 2 100 S++(eQ 2 2 100 []++U)
theorem kW (S:List dJ){U:List D}(hU:∀d∈U,Names 0 0 d):∀d∈dL S U,Names 0 0 d:=λd h=>by
 simp only[dL,eQ,gY,eX,fu,or_false]at h;rcases h with(rfl|rfl|rfl|rfl)|(rfl|rfl|rfl|rfl)|h;any_goals constructor
 exact hU d h
section
variable (cap ns:Nat) (U:List D) (hU:∀d∈U,Names 0 0 d) (hl:8 + U.length=cap * 4)
include hU hl
theorem aax:aT ae 204 [.box 0 0,i64 (0:Nat),pC yB] [.mu (aP cm 2 cap 0), .mp [], .mu (dL [] U)] [aG ns,aH 0] (bw (i64 0) [.mu (aP cm 2 cap 0), .mp [], .mu (dL lW U)] [aG ns,aH 1]):=
 X6 cm 2 cap ns 0 0 0 (dL [] U) (eQ 2 2 100 []++U) 2 2 100 [] yB 75995 76005 75995 76005 76005 100 100 ak ak ak ak (kW _ hU) ak ak ak aaC rfl (by simp[dL,eQ];omega) ag ak ak ak ak kM1 kC1
theorem aao:aT ae 205 [.box 0 0,i64 (1:Nat),i64 0, .list [bW kG]] [.mu (aP cm 2 cap 0), .mp [], .mu (dL lW U)] [aG ns,aH 1] (bw (i64 0) [.mu (aP cm 2 cap 131), .mp [], .mu (dL ie U)] [aG ns,aH 2]):=
 T_ cm 2 cap ns 1 1 0 0 (dL lW U) (eQ 2 2 100 []++U) 2 2 100 lW kG 75310 75810 ak ak ak ak (kW _ hU) rfl (by simp[dL,eQ];omega) ag ak ak ak kL rfl ak ak rfl rfl ak ak ak 131 ak ak ak ak Pg Pm aaK
  (by have h:=MT cm.to cm.tf cm.tm ak 3 1 ak ak;rw[aaL]at h;exact h)
theorem aaI:aT ae 46 [.box 0 0, .str wg] [.mu (aP cm 2 cap 0), .mp [], .mu (dL [] U)] [aG ns,aH 0] (bw (.aQ [.str ⟨#[]⟩,i64 0]) [.mu (aP cm 2 cap 0), .mp [], .mu (dL lW U)] [aG ns,aH 1]):=
 Ec cm 2 cap 0 (dL [] U) ns 0 (kW _ hU) 0 (dL lW U) 1 (kW _ hU) wg ⟨#[]⟩ ak 138 ((11:Nat):Int) false true [0,0,480,1,76000,0,0,0,0,0,0] (.list []) (.val (.slice none 0 0)) (.inl rfl) aaB
  (aex cm 2 cap ns 0 0 0 (dL [] U) (dL lW U) (kW _ hU) (kW _ hU) [0,0,480,1,76000,0,0,0,0,0,0] [] rfl (aax cap ns U hU hl)) (.inl ⟨rfl,Ps⟩)
theorem aaH:aT ae 46 [.box 0 0, .str wc] [.mu (aP cm 2 cap 0), .mp [], .mu (dL lW U)] [aG ns,aH 1] (bw (.aQ [.str ⟨#[]⟩,i64 0]) [.mu (aP cm 2 cap 131), .mp [], .mu (dL ie U)] [aG ns,aH 2]):=
 Ec cm 2 cap 0 (dL lW U) ns 1 (kW _ hU) 131 (dL ie U) 2 (kW _ hU) wc ⟨#[]⟩ ak 139 ((2:Nat):Int) true true [1,0] (.list [bW kG]) (.val (.slice none 0 0)) (.inr ⟨_,rfl⟩) aaA
  (aev cm 2 cap ns 1 0 131 (dL lW U) (dL ie U) (kW _ hU) (kW _ hU) [1,0] kG rfl (aao cap ns U hU hl)) (.inl ⟨rfl,Ps⟩)
theorem aaG:aT ae 46 [.box 0 0, .str wb] [.mu (aP cm 2 cap 131), .mp [], .mu (dL ie U)] [aG ns,aH 2] (bw (.aQ [.str (⟨#[55,54,48,48,48,32,55,53,57,48,50,32,55,53,57,48,50,32,55,53,56,48,50]⟩:ByteArray),i64 0]) [.mu (aP cm 2 cap 131), .mp [], .mu (dL ie U)] [aG ns,aH 2]):=by
 have h:=aey cm 2 cap 131 [0] (dL ie U) (eQ 2 2 100 []++U) 2 2 100 ie ns 2 rfl (kW _ hU) ak ak rfl (by simp[dL,eQ];omega) ag ak ak Pg Pm;have e:pS ((2:Nat):Int) 100 ie (2 * 2)=[76000,75902,75902,75802]:=aaE;rw[e]at h;have j:=Pr [76000,75902,75902,75802] ak ak (λi hi=>by
  match i,hi with
  |0,_|1,_|2,_|3,_=>exact⟨ak,ak⟩) (of_decide_eq_true aj)
 have e2:Dl (([76000,75902,75902,75802]:List Int).map itoa) yh=(⟨#[55,54,48,48,48,32,55,53,57,48,50,32,55,53,57,48,50,32,55,53,56,48,50]⟩:ByteArray):=aj;rw[e2]at j;exact Ec cm 2 cap 131 (dL ie U) ns 2 (kW _ hU) 131 (dL ie U) 2 (kW _ hU) wb _ ak 144 ((1:Nat):Int) false false [0] (.list []) (ints [76000,75902,75902,75802]) (.inl rfl) aaz h (.inr ⟨_,rfl,j⟩)
theorem aaF:aT ae 46 [.box 0 0, .str wa] [.mu (aP cm 2 cap 131), .mp [], .mu (dL ie U)] [aG ns,aH 2] (bw (.aQ [.str (⟨#[49,51,49]⟩:ByteArray),i64 0]) [.mu (aP cm 2 cap 131), .mp [], .mu (dL ie U)] [aG ns,aH 2]):=by
 have:=hl;have h:=aet cm (.a_ 2 0 2 cap) (.own 0) (.bz 1) 131 (.own 1) (ints []) (.list []) [.mp [], .mu (dL ie U)] [aG ns,aH 2];have j:=Pr [131] ak ak (λi hi=>by
  match i,hi with
  |0,_=>exact⟨ak,ak⟩) (of_decide_eq_true aj)
 have e2:Dl (([131]:List Int).map itoa) yh=(⟨#[49,51,49]⟩:ByteArray):=aj;rw[e2]at j;exact Ec cm 2 cap 131 (dL ie U) ns 2 (kW _ hU) 131 (dL ie U) 2 (kW _ hU) wa _ ak 152 ((0:Nat):Int) false false [] (.list []) (ints [131]) (.inl rfl) aay h (.inr ⟨_,rfl,j⟩)
end
end Go.Proofs.YtopobgihpdaggaaGreatDoor
namespace Go.Proofs.YtopobgihpdaggaaGreatDoor
set_option maxRecDepth 100000
set_option maxHeartbeats 4000000
open Go.Ab
attribute[local irreducible] az dI dR ax aT IA fP aZ gZ
abbrev ac1 (n:Int):List Int:=[((((n.tdiv 10).tdiv 10).tdiv 10).tdiv 10).tmod 10,(((n.tdiv 10).tdiv 10).tdiv 10).tmod 10,((n.tdiv 10).tdiv 10).tmod 10,(n.tdiv 10).tmod 10,n.tmod 10]
theorem Ae {n:Int}(h:0<=n/\n<=99999):0<=n.tdiv 10/\n.tdiv 10<=99999:=⟨Int.tdiv_nonneg h.1 ak,by rw[Int.tdiv_eq_ediv_of_nonneg h.1];omega⟩
theorem HH (n:Int)(h:0<=n/\n<=99999):ax ae 52 [i64 n] (.agg ((ac1 n).map λ(x:Int)=>i64 x)):=by
 have h1:=Ae h;have h2:=Ae h1;have h3:=Ae h2;have h4:=Ae h3;have h5:=Ae h4;refine aR func52 ntmps52 results52 call52 rfl ay λw0 S0 M0=> ?_;repeat'(first|(show az _ (.loop _) _ _;refine lJ 6 ?_)|(refine lp ?_)|refine aB ?_|refine aC λK hK=> ?_|(refine kA ?_;clear hK K)|(intro hg;try exact aw)|exact fin|apply ai)
 all_goals first|omega|rfl|trace_state
abbrev ac2 (l:List Int):ByteArray:=⟨(l.map λn=>UInt8.ofNat (48 + n).toNat).toArray⟩
theorem QL (a b c d e:Int)(h1:0<=a/\a<=9)(h2:0<=b/\b<=9)(h3:0<=c/\c<=9)(h4:0<=d/\d<=9)(h5:0<=e/\e<=9):ax ae 53 [.agg [i64 a,i64 b,i64 c,i64 d,i64 e]] (.str (ac2 [a,b,c,d,e])):=by
 refine aR func53 ntmps53 results53 call53 rfl ay λw0 S0 M0=> ?_;repeat'(first|(show az _ (.loop _) _ _;refine Ez 3 5 1 rfl ?_;refine lJ 6 ?_)|(refine lp ?_)|(show az _ (.region 7 _ _) _ _;refine b_ ?_)|refine aB ?_|refine aC λK hK=> ?_|(refine kA ?_;clear hK K)|(intro hg;try exact aw)|exact fin|apply ai)
 all_goals first|omega|refine cI ?_
 refine eI (aO.read 3 rfl) ?_;repeat'(first|refine aB ?_|refine aC λK hK=> ?_|(refine kA ?_;clear hK K)|(intro hg;try exact aw)|exact fin|apply ai)
 all_goals first|omega|rfl|trace_state
end Go.Proofs.YtopobgihpdaggaaGreatDoor
namespace Go.Proofs.YtopobgihpdaggaaGreatDoor
set_option maxRecDepth 100000
set_option maxHeartbeats 4000000
open Go.Ab Go.RowKit Go
attribute[local irreducible] az dI dR ax aT IA fP aZ gZ
theorem acS (w:World)(vs:Array Value)(e:TypeId)(n:Nat):(w.alloc (.cells vs e)).freeze ⟨w.heap.size,n,none⟩ 1=w.alloc (.cells vs e (n,n + 1)):=by
 unfold World.freeze;rw[if_neg ak];have h:∀f:Obj->Obj,(w.alloc (.cells vs e)).heap.modify w.heap.size f=w.heap.push (f (.cells vs e)):=λf=>by
  apply Array.ext_getElem?;intro i;rw[Array.getElem?_modify];show(if w.heap.size=i then((w.heap.push (.cells vs e))[i]?).map f else(w.heap.push (.cells vs e))[i]?)=_;by_cases hi:w.heap.size=i
  ·subst hi;simp
  ·rw[if_neg hi,Array.getElem?_push,Array.getElem?_push,if_neg (λe=>hi e.symm),if_neg (λe=>hi e.symm)]
 simp only[h];rfl
def Ij (c:Ctx)(src dt:TypeId)(x:Operand)(dst:Option Tmp)(N:St->Prop)(s1:St):Prop:=
 bp s1 dst/\jX c.P src=true/\(∃e,Go.Ab.elemOf c.P dt=some e/\c.P.underlying e=some (.int .u8))/\∃t:ByteArray,s1.ev x= .str t/\
  ∀m:Nat,N (St.put {s1 with bx:=s1.bx++[.mu (t.data.toList.map (λb=>D.int .u8 b.toNat)++bP m (.int .u8 0))]} dst (.a_ s1.bx.length 0 t.size (t.size + m)))
theorem aZ.bytes {c:Ctx}{s:St}{K:St->Prop}{src dt ty:TypeId}{x:Operand}{dst:Option Tmp}{pos:String}{aft:Array Edge}{gd:Option (Nat×Bool)}(h:Ij c src dt x dst K s):
  aZ c ⟨dst, .convert src dt x,ty,pos,aft,gd⟩ s K:=by
 obtain⟨hd,hs,⟨e,he,hu⟩,t,hx,hK⟩:=h;unfold aZ;rintro a w N' Q' ⟨g,hg⟩ hN;refine gK (by intro cl h;cases h) ?_;have lx:a.eval x= .string t:=by
  have:=hg.ev x;rw[hx]at this;generalize a.eval x=vx at this;cases this;rfl
 have ly:c.P.underlying src=some .string:=by
  unfold jX at hs;split at hs
  ·assumption
  ·cases hs
 have bg:(execOp a.eval ⟨dst, .convert src dt x,ty,pos,aft,gd⟩).run c.P w= .ok (.value (.slice (some ⟨w.heap.size,0,none⟩) t.size (grownCap w t.size 0 e))) (Lib.bytesWorld w e t):=by
  have:=Lib.run_convert_string_bytes (P:=c.P) w src dt e t ly (k7 he) hu;simp[execOp,lx,this]
 unfold Oper.wp;rw[bg];show N' _ _;have cK:RG c s a w.drew g:=hg.world (w':=w.drew) (S':=g.S) ⟨rfl,rfl,rfl,cx _,λ_ _=>rfl⟩ (λ_ h=>h) (λ_ h=> .inl h) hg.bt;have il:=grownCap_ge w t.size 0 e;obtain⟨m,hm⟩:∃m,m=grownCap w t.size 0 e - t.size:=⟨_,rfl⟩;obtain⟨L,hL⟩:∃L:List Int,L=t.data.toList.map (λb=>(b.toNat:Int))++bP m 0:=⟨_,rfl⟩;have y9:(Cp w e t).toList=L.map (Value.int .u8):=by
  rw[hL];simp[Cp,<-hm]
 have ml:t.data.toList.map (λb=>D.int .u8 b.toNat)++bP m (.int .u8 0)=L.map (D.int .u8):=by
  rw[hL];simp
 have wO:fF w.drew g (Cp w e t) (t.data.toList.map (λb=>D.int .u8 b.toNat)++bP m (.int .u8 0)):=by
  rw[ml];refine⟨by rw[<-Array.length_toList,y9];simp,λq d hq=> ?_⟩;rw[dO,Option.map_eq_some_iff]at hq;obtain⟨n,hn,rfl⟩:=hq;have h2:(Cp w e t).getD q Go.undef= .int .u8 n:=by
   rw[Array.getD_eq_getD_getElem?,<-Array.getElem?_toList,y9,dO,hn];rfl
  rw[h2];exact⟨.int _ _ _,rfl⟩
 have hr:=cK.Sv (t:=e) true wO;have hW:Lib.bytesWorld w e t=w.drew.alloc (.cells (Cp w e t) e (nk (Cp w e t).size true)):=acS w.drew _ e _;rw[hW];have fA:grownCap w t.size 0 e=t.size + m:=ag;rw[fA];refine hN _ _ _ ⟨_,hr.put ?_ (.a_ _ _ _ _ _ w.heap.size ?_)⟩ (hK m)
 ·exact hd
 ·show(g.β++[w.drew.heap.size])[s.bx.length]? =_;rw[<-hg.lβ];simp
theorem Sb {c:Ctx}{src dt:TypeId}{x:Operand}{dst:Option Tmp}{N:St->Prop}{s1:St}(p1 p2 p3 p4 p5:UInt8)(q1 q2 q3 q4 q5:Int)(hd:bp s1 dst)(hs:jX c.P src=true)(e:TypeId)(he:Go.Ab.elemOf c.P dt=some e)(hu:c.P.underlying e=some (.int .u8))(hx:s1.ev x= .str ⟨#[p1,p2,p3,p4,p5]⟩)
  (h:(p1.toNat:Int)=q1/\(p2.toNat:Int)=q2/\(p3.toNat:Int)=q3/\(p4.toNat:Int)=q4/\(p5.toNat:Int)=q5)
  (hN:∀m:Nat,N (St.put {s1 with bx:=s1.bx++[.mu (.int .u8 q1:: .int .u8 q2:: .int .u8 q3:: .int .u8 q4:: .int .u8 q5::bP m (.int .u8 0))]} dst (.a_ s1.bx.length 0 5 (5 + m)))):Ij c src dt x dst N s1:=by
 obtain⟨rfl,rfl,rfl,rfl,rfl⟩:=h;exact⟨hd,hs,⟨e,he,hu⟩,_,hx,λm=>hN m⟩
theorem R8 (q1 q2 q3 q4 q5:Int)(m:Nat)(bx:List Bx)(rw:List Row):iU bx rw (.int .u8 q1:: .int .u8 q2:: .int .u8 q3:: .int .u8 q4:: .int .u8 q5::bP m (.int .u8 0))=some (.int .u8 q1:: .int .u8 q2:: .int .u8 q3:: .int .u8 q4:: .int .u8 q5::bP m (.int .u8 0)):=C2 λd hd=>by
 simp only[eX]at hd;rcases hd with rfl|rfl|rfl|rfl|rfl|hd
 ·rfl
 ·rfl
 ·rfl
 ·rfl
 ·rfl
 ·rw[List.eq_of_mem_replicate hd];rfl
theorem acM:ax ae 52 [i64 75310] (.agg [i64 7,i64 5,i64 3,i64 1,i64 0]):=HH 75310 ak
theorem acL:ax ae 52 [i64 75810] (.agg [i64 7,i64 5,i64 8,i64 1,i64 0]):=HH 75810 ak
theorem acN:ax ae 52 [i64 27030] (.agg [i64 2,i64 7,i64 0,i64 3,i64 0]):=HH 27030 ak
theorem VR:ax ae 53 [.agg [i64 7,i64 5,i64 3,i64 1,i64 0]] (.str ⟨#[55,53,51,49,48]⟩):=QL 7 5 3 1 0 ak ak ak ak ak
theorem VS:ax ae 53 [.agg [i64 2,i64 7,i64 0,i64 3,i64 0]] (.str ⟨#[50,55,48,51,48]⟩):=QL 2 7 0 3 0 ak ak ak ak ak
abbrev kC:List D:=[.list [ql 73000 78000,ql 0 35999],ints kT,i64 1]
theorem aaD:ax ae 51 [.agg kC, .list [bW kG]] (.aQ [.list [.list [i64 75310,i64 27030], .list [i64 75810,i64 27030]], .int .i64 0]):=
 QM kF kT 1 [kG] (kL.map ints) Pj Pk ⟨ak,ak⟩ Pf
theorem aai:ax ae 24 [.agg kC, .list [bW kG]] (.aQ [.list [.str ⟨#[55,53,63,49,48]⟩, .str ⟨#[50,55,48,51,48]⟩], .int .i64 0]):=by
 have c1:=aaD;generalize hX:[bW kG]=X at c1⊢;refine aR func24 ntmps24 results24 call24 rfl ay λw0 S0 M0=> ?_;repeat'(first|(show az _ (.loop (.seq (.region 6 _ _) _)) _ _;refine Ez 8 9 1 rfl ?_;refine lJ 3 ?_)|(show az _ (.loop _) _ _;refine lJ 6 ?_)|(refine lp ?_)|(show az _ (.region 8 _ _) _ _;refine pg 8 (Ij _ 9 105 (.tmp 37) (some 38)) (λ_ _ h=>aZ.bytes h) rfl rfl (λK1 aK=> ?_);(refine sX (ai @zZ (@zY)) ?_;try exact trivial))|(refine aK _ (Sb 55 53 51 49 48 55 53 51 49 48 (by show(38:Nat) < 75;decide) aj 5 aj aj rfl ak (λm=> ?_));clear aK K1;simp only[bF,Nat.reduceAdd];(refine sX (ai @zZ (@zY)) ?_;try exact trivial))|(refine aK _ (Sb 50 55 48 51 48 50 55 48 51 48 (by show(38:Nat) < 75;decide) aj 5 aj aj rfl ak (λm=> ?_));clear aK K1;simp only[bF,Nat.reduceAdd];(refine sX (ai @zZ (@zY)) ?_;try exact trivial))|(show az _ (.region 19 _ _) _ _;refine eI (aO.freeze 1 rfl (R8 _ _ _ _ _ _ _ _)) ?_;refine eI (aO.R4 10 1 (ys:=[.int .u8 55, .int .u8 53, .int .u8 63, .int .u8 49, .int .u8 48]) (U:=bP m (.int .u8 0)) (sz:=1) rfl rfl (λy hy=>by simp only[eX,fu,or_false]at hy;rcases hy with rfl|rfl|rfl|rfl|rfl<;>rfl) (Nat.le_add_right _ _)) ?_;simp only[bF])|(show az _ (.region 19 _ _) _ _;refine eI (aO.freeze 2 rfl (R8 _ _ _ _ _ _ _ _)) ?_;refine eI (aO.R4 10 2 (ys:=[.int .u8 50, .int .u8 55, .int .u8 48, .int .u8 51, .int .u8 48]) (U:=bP m (.int .u8 0)) (sz:=1) rfl rfl (λy hy=>by simp only[eX,fu,or_false]at hy;rcases hy with rfl|rfl|rfl|rfl|rfl<;>rfl) (Nat.le_add_right _ _)) ?_;simp only[bF])|refine bK ?_|((first|refine bL λK hK=> ?_|refine bI ?_|show bC _ _ _ _ _|refine bl (c1) ?_|refine bl (acM) ?_|refine bl (acL) ?_|refine bl (acN) ?_|refine bl (VR) ?_|refine bl (VS) ?_);(refine sX (ai @zZ (@zY)) ?_;try exact trivial))|(refine kA ?_;clear hK K)|(intro hg;try exact aw)|exact fin|apply ai)
 all_goals first|omega|rfl|trace_state
end Go.Proofs.YtopobgihpdaggaaGreatDoor
namespace Go.Proofs.YtopobgihpdaggaaGreatDoor
set_option maxRecDepth 100000
set_option maxHeartbeats 4000000
open Go.Ab Go.RowKit Go
attribute[local irreducible] az dI dR ax aT IA fP aZ gZ eK
theorem ZY (t:ByteArray):ax ae 45 [.str t] (.aD 79 [.ro [.str t]]):=by
 refine aR func45 ntmps45 results45 call45 rfl ay λw0 S0 M0=> ?_;repeat'(first|(refine ou 0 _ _ rfl rfl ?_;simp only[bF,Nat.reduceAdd])|refine aB ?_|refine aC λK hK=> ?_|(refine kA ?_;clear hK K)|(intro hg;try exact aw)|exact fin|apply ai)
 all_goals first|rfl|trace_state
abbrev Ic (s:bh)(n cap:Nat)(cost:Int):List D:=cR s++[.a_ 3 0 n cap, .own 0, .bz 2,i64 cost, .own 1, .bool true]
abbrev gB:List D:=[i64 (2:Nat),i64 (2:Nat),i64 100, .val (.slice none 0 0)]
theorem Zh:aT ae 26 [fT cm] [.mu (cR cm)] [] (λd aF aL=>∃(cap:Nat) (U:List D) (x0:Bx),(∀d∈U,Names 0 0 d)/\8 + U.length=cap * 4/\d= .aQ [.box 1 0,i64 0]/\aF=[x0, .mu (Ic cm 2 cap 0), .mp [], .mu (gB++(gB++U))]/\aL=[aG 2,aH 0]):=by
 have c:=(Zg cm V2 V1).frame [] (cu:=[fT cm]) (B:=[.mu (cR cm)]) ay ay rfl (by simp[D.cP,fW]);refine c.mono ?_;rintro d bx rw ⟨d0,pd,⟨cs,cap,hM,rfl,rfl,rfl⟩,_,rfl,rfl⟩;obtain⟨hl,_,⟨U,rfl⟩,hn⟩:=hM;have hU:∀d∈U,Names 0 0 d:=λd hd=>hn d (List.mem_append_right _ hd);have P5:oM cm (bh.dy cm).toNat=gB++gB:=rfl;refine⟨cap,U,qY [] 1 [.mu (aP cm (bh.dy cm).toNat cap 0), .mp [], .mu (oM cm (bh.dy cm).toNat++U)] 0 (.mu (cR cm)),hU, ?_, ?_, ?_,rfl⟩
 ·rw[P5]at hl;simp[gB]at hl;omega
 ·simp[D.cP,fW,up,oF]
 ·have hr:∀σ,fW σ (gB++(gB++U))=gB++(gB++U):=λσ=>As (λd hd=>by
   rcases gY.1 hd with h|h
   ·simp only[gB,eX,fu,or_false]at h;rcases h with rfl|rfl|rfl|rfl<;>constructor
   rcases gY.1 h with h|h
   ·simp only[gB,eX,fu,or_false]at h;rcases h with rfl|rfl|rfl|rfl<;>constructor
   ·exact hU d h)
  rw[P5,List.append_assoc];simp only[pR,nq,up,oF,gH,hr,List.length_cons,List.length_nil,List.drop_zero,List.map_cons,List.map_nil];rfl
abbrev AV:List UInt8:=[114,101,97,100,32,48,32,48,32,52,56,48,32,49,32,55,54,48,48,48,32,48,32,48,32,48,32,48,32,48,32,48]
abbrev AU:List UInt8:=[119,105,114,101,32,49,32,48,32,55,53,51,49,48,46,50,55,48,51,48,46,57,50,56,52,48]
abbrev AT:List UInt8:=[100,114,97,119,32,48]
abbrev AS:List UInt8:=[99,111,115,116]
abbrev uK:List (List UInt8):=[AV,AU,AT,AS]
abbrev wj:List UInt8:=[111,107,10]
abbrev Dj:List UInt8:=[55,54,48,48,48,32,55,53,57,48,50,32,55,53,57,48,50,32,55,53,56,48,50]
abbrev Gs:List UInt8:=[49,51,49]
def uJ:Nat->List UInt8
 |0=>[]
 |1=>wj
 |2=>wj++wj
 |3=>wj++wj++(Dj++[10])
 |_=>wj++wj++(Dj++[10])++(Gs++[10])
def AX (cap:Nat)(U:List D):Nat->List Bx
 |0=>[.mu (aP cm 2 cap 0), .mp [], .mu (dL [] U), .mu [.box 0 0]]
 |1=>[.mu (aP cm 2 cap 0), .mp [], .mu (dL lW U), .mu [.box 0 0]]
 |_=>[.mu (aP cm 2 cap 131), .mp [], .mu (dL ie U), .mu [.box 0 0]]
def Gr:Nat->List Row
 |0=>[aG 2,aH 0]
 |1=>[aG 2,aH 1]
 |_=>[aG 2,aH 2]
theorem OO {nb nr:Nat}:∀{l:List D},(∀d∈l,Names 0 0 d)->db nb nr l=true
 |[],_=>rfl
 |d::l,h=>by
  simp only[db,jA (h d (List.mem_cons_self ..)),OO (λx hx=>h x (List.mem_cons_of_mem _ hx)),Bool.and_self]
theorem aaN (cap:Nat)(U:List D)(k:Nat):(AX cap U k).length=4:=by
 match k with
 |0=>rfl
 |1=>rfl
 |k + 2=>rfl
theorem aaM (cap:Nat)(U:List D)(hU:∀d∈U,Names 0 0 d)(k:Nat):(⟨48,eC,AX cap U k,Gr k⟩:St).named:=by
 have h:∀(cost:Int) (S:List dJ) (r0 r1:Row),(⟨48,eC,[.mu (aP cm 2 cap cost), .mp [], .mu (dL S U), .mu [.box 0 0]],[r0,r1]⟩:St).named:=λcost S r0 r1=>by
  refine⟨λm=> .undef,qo _ ?_⟩;have h1:db 4 2 (dL S U)=true:=OO (kW S hU);show bZ 4 2 [.mu (aP cm 2 cap cost), .mp [], .mu (dL S U), .mu [.box 0 0]]=true;simp only[bZ,h1];rfl
 match k with
 |0=>exact h _ _ _ _
 |1=>exact h _ _ _ _
 |k + 2=>exact h _ _ _ _
theorem Zz {U:List D}(hU:∀d∈U,Names 0 0 d)(σ:Nat->Option Nat):fW σ (gB++(gB++U))=gB++(gB++U):=As (λd hd=>by
 rcases gY.1 hd with h|h
 ·simp only[gB,eX,fu,or_false]at h;rcases h with rfl|rfl|rfl|rfl<;>constructor
 rcases gY.1 h with h|h
 ·simp only[gB,eX,fu,or_false]at h;rcases h with rfl|rfl|rfl|rfl<;>constructor
 ·exact hU d h)
theorem aau {cap:Nat}{U:List D}(x0:Bx)(hU:∀d∈U,Names 0 0 d):jY [1,2,3,4] [x0, .mu (Ic cm 2 cap 0), .mp [], .mu (gB++(gB++U)), .mu [.box 1 0]]=[.mu (aP cm 2 cap 0), .mp [], .mu (gB++(gB++U)), .mu [.box 0 0]]:=by
 have h:=Zz hU (pos [1,2,3,4] 0);show[gH (pos [1,2,3,4] 0) (.mu (Ic cm 2 cap 0)), .mp [], .mu (fW (pos [1,2,3,4] 0) (gB++(gB++U))),gH (pos [1,2,3,4] 0) (.mu [.box 1 0])]=_;rw[h];rfl
theorem aap {cap:Nat}{U:List D}:([Bx.mu (aP cm 2 cap 0), .mp [], .mu (gB++(gB++U)), .mu [.box 0 0]].set 2 (.mu ((gB++(gB++U)).set 3 (D.list [])))).set 2 (.mu (((gB++(gB++U)).set 3 (D.list [])).set 7 (D.list [])))=AX cap U 0:=rfl
end Go.Proofs.YtopobgihpdaggaaGreatDoor
