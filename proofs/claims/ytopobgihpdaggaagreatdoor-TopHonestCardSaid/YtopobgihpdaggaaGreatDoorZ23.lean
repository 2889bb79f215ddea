import Derived.Test.YtopobgihpdaggaaGreatDoorZ22
set_option linter.unusedVariables false
set_option linter.unusedSimpArgs false
open And renaming intro->ai
open Bool renaming eq_false_or_eq_true->bO,false_eq_true->cJ
open List renaming all_eq_true->ic,append_nil->bN,cons_append->bR,drop_eq_getElem_cons->zO,ext_getElem?->Tb,foldr->bU,forall_mem_cons->jf,getElem?_append_left->cZ,getElem?_append_right->gk,getElem?_eq_getElem->cX,getElem?_eq_none->qd,getElem?_map->dO,getElem?_set_ne->gz,headD_cons->iy,length_append->ia,map_congr_left->re,map_id->zJ,map_nil->pq,mem_append->gY,mem_cons->eX,mem_map->iH,mem_map_of_mem->gP,mem_of_getElem?->fM,nil_append->bQ,not_mem_nil->fu,range->dB,replicate->bP
open Nat renaming le_refl->cx,mul_one->Cj,zero_add->jd
open Option renaming getD_some->fV,map_some->eW
open Go.Proofs.Tryz renaming call120->EP,f58->xr,func120->EO,ntmps120->EK,prog->ae,results120->EJ
open Go.Proofs.Tryz
namespace Go.Proofs.YtopobgihpdaggaaGreatDoor
set_option maxRecDepth 100000
set_option maxHeartbeats 4000000
open Go.Ab
attribute[local irreducible] az dI dR ax aT IA fP aZ gZ
theorem YC {ops:Array Oper}(cj:ops=dK Tryz.f257 1)(w0:World)(S0:Addr->Prop)(eG:MM)(own:Nat->Prop)(β:List Nat)(s:bh)(n cap ns na:Nat)(cost day pt lo hi:Int)(cs:List D)(m0 m1 m2:Int)(m3:List D)(wN:0<=day/\day < n)(hn:n<=cap)(eh:n<=100)(bE:cs.length=cap * 4)(hc:aT ae 296 [.box 0 0,i64 day,i64 pt, .agg [i64 lo,i64 hi]] [.mu (aP s n cap cost), .mp [], .mu cs, .mu [i64 lo,i64 hi]] [aG ns,aH na] (bw (.agg [i64 m0,i64 m1,i64 m2, .list m3]) [.mu (aP s n cap cost), .mp [], .mu cs, .mu [i64 lo,i64 hi]] [aG ns,aH na]))
  {Q:Exit->St->Prop}{T:dX}(hQ:Q .normal ⟨19,((T.foldr (λe f=>put f e.2.1 (e.2.2 λ_=>true)) (bj [(0, .box 0 0),(1,i64 day),(2,i64 pt),(7, .box 3 0)]))),(λ(L:Nat->Bool)=>[.mu (aP s n cap cost), .mp [], .mu (bif L 11 then cs.take (0 + day.toNat * 4)++[i64 m0,i64 m1,i64 m2, .list m3]++cs.drop (0 + day.toNat * 4 + 4)else cs), .mu [i64 lo,i64 hi]]) (λ_=>true),(λ(L:Nat->Bool)=>[aG ns,aH na]) (λ_=>true)⟩)(hT:T=[(0,8,λL=> .box 0 0),(1,9,λL=> .box 0 0),(2,10,λL=> .box 0 25),(3,11,λL=> .a_ 2 0 n cap),(4,12,λL=>i64 day),(5,13,λL=> .box 0 0),(6,14,λL=>i64 day),(7,15,λL=>i64 pt),(8,16,λL=> .agg [i64 lo,i64 hi]),(9,17,λL=> .agg [i64 m0,i64 m1,i64 m2, .list m3]),(10,18,λL=> .box 2 (0 + day.toNat * 4))]:=by rfl):
  az ⟨ae,w0,S0,eG,none,own,β⟩ (.region 1 ops true) Q ⟨19,bj [(0, .box 0 0),(1,i64 day),(2,i64 pt),(7, .box 3 0)],(λ(L:Nat->Bool)=>[.mu (aP s n cap cost), .mp [], .mu (bif L 11 then cs.take (0 + day.toNat * 4)++[i64 m0,i64 m1,i64 m2, .list m3]++cs.drop (0 + day.toNat * 4 + 4)else cs), .mu [i64 lo,i64 hi]]) (λ_=>false),(λ(L:Nat->Bool)=>[aG ns,aH na]) (λ_=>false)⟩:=by
 simp only[dK,eW,fV,Tryz.f257,fB,Nat.reduceBEq,cJ,if_false,if_true,bQ,bN,bR,iy,reduceIte,eq_self]at cj;subst cj;have ba:T.map (·.1)=[0,1,2,3,4,5,6,7,8,9,10]:=by rw[hT];rfl
 have cQ:T.map (·.2.1)=[8,9,10,11,12,13,14,15,16,17,18]:=by rw[hT];rfl
 have cD:(T.map (·.1)).Nodup:=by rw[ba];decide
 have aS:(T.map (·.2.1)).Nodup:=by rw[cQ];decide
 obtain⟨b,hb⟩:∃b:Nat->D,b=bj [(0, .box 0 0),(1,i64 day),(2,i64 pt),(7, .box 3 0)]:=⟨_,rfl⟩;rw[<-hb];have h0:aI (λ_=>false) (λ_=>false) T b=b:=gR (λ_ _=>rfl);rw[<-h0];refine la (c:=⟨ae,w0,S0,eG,none,own,β⟩) Tryz.ty.mixed rfl aj 19 T b (λL=>[.mu (aP s n cap cost), .mp [], .mu (bif L 11 then cs.take (0 + day.toNat * 4)++[i64 m0,i64 m1,i64 m2, .list m3]++cs.drop (0 + day.toNat * 4 + 4)else cs), .mu [i64 lo,i64 hi]]) (λL=>[aG ns,aH na]) (λL k op hC af hL aa=> ?_) (λL hL=> ?_);rotate_left
 ·have bu:∀x∈T.map (·.1),x < 12:=by rw[ba];decide
  rw[gS (λe he=>hL _ (bu _ (gP (f:=(·.1)) he)))];rw[hT,hb];have iE:L 11=true:=hL 11 ak;simp only[bU,iE];simp only[hT,bU,cond_true]at hQ;exact hQ
 match k,af,hL,aa with
 |0,af,hL,aa=>
  cases af;have iE:=au hC hL 11 [] rfl;have hX:=an iE hL;exact aA
 |1,af,hL,aa=>
  cases af;have d0:=aq aa 0 rfl;have iE:=au hC hL 11 [] rfl;have hX:=an d0 (an iE hL);exact aA
 |2,af,hL,aa=>
  cases af;have d1:=aq aa 1 rfl;have iE:=au hC hL 11 [] rfl;have hX:=an d1 (an iE hL);exact aA
 |3,af,hL,aa=>
  cases af;have d2:=aq aa 2 rfl;have iE:=au hC hL 11 [] rfl;have hX:=an d2 (an iE hL);exact aA
 |4,af,hL,aa=>
  cases af;have iE:=au hC hL 11 [] rfl;have hX:=an iE hL;exact aA
 |5,af,hL,aa=>
  cases af;have iE:=au hC hL 11 [] rfl;have hX:=an iE hL;exact aA
 |6,af,hL,aa=>
  cases af;have iE:=au hC hL 11 [] rfl;have hX:=an iE hL;exact aA
 |7,af,hL,aa=>
  cases af;have iE:=au hC hL 11 [] rfl;have hX:=an iE hL;exact aA
 |8,af,hL,aa=>
  cases af;have iE:=au hC hL 11 [] rfl;have hX:=an iE hL;exact aA
 |9,af,hL,aa=>
  cases af;have d5:=aq aa 5 rfl;have d6:=aq aa 6 rfl;have d7:=aq aa 7 rfl;have d8:=aq aa 8 rfl;have iE:=au hC hL 11 [] rfl
  (
   have f13:=br (V:=L) (b:=b) d5 aS (show(5,13,λL=> .box 0 0)∈T by rw[hT];simp);have f14:=br (V:=L) (b:=b) d6 aS (show(6,14,λL=>i64 day)∈T by rw[hT];simp);have f15:=br (V:=L) (b:=b) d7 aS (show(7,15,λL=>i64 pt)∈T by rw[hT];simp);have f16:=br (V:=L) (b:=b) d8 aS (show(8,16,λL=> .agg [i64 lo,i64 hi])∈T by rw[hT];simp);have g11:more L 9 11=L 11:=rfl;have ek:aI (more L 9) (more L 9) T b=put (aI L L T b) 17 (.agg [i64 m0,i64 m1,i64 m2, .list m3]):=(dM hL cD aS (show(9,17,λL=> .agg [i64 m0,i64 m1,i64 m2, .list m3])∈T by rw[hT];simp)).trans (by rw[<-eL (V:=L) (V':=more L 9) (by rw[hT];simp[more])];try rfl);rw[ek];try simp only[iE,g11,cond_true,cond_false,bR,bQ,bN]
   try simp only[iE,g11,cond_true,cond_false,cG,cN,dN,put,Nat.reduceEqDiff,if_true,if_false,reduceIte]at f13 f14 f15 f16
   refine aZ.sW (cC hc (by show(17:Nat) < 19;decide) rfl (by show[aI L L T b 13,aI L L T b 14,aI L L T b 15,aI L L T b 16]=_;rw[f13,f14,f15,f16]) rfl rfl ?_);rintro d aF aL ⟨rfl,rfl,rfl⟩;rw[tH (rv (by rw[hb];exact sM rfl) (by rw[hT];simp only[jf,fu,false_implies,implies_true,and_true];(repeat' apply ai)<;>first|exact λ_=>rfl|exact λh=>absurd (hL.symm.trans h) ak))];exact aO.of_eq rfl)
 |10,af,hL,aa=>
  cases af;have d3:=aq aa 3 rfl;have d4:=aq aa 4 rfl;have iE:=au hC hL 11 [] rfl;have hX:=an d3 (an d4 (an iE hL));exact aA
 |11,af,hL,aa=>
  cases af;have d9:=aq aa 9 rfl;have d10:=aq aa 10 rfl;have iE:L 11=false:=hL;have hX:=an d9 (an d10 (an iE hL));exact aA
 |k + 12,af,hL,aa=>simp at af
theorem N5 (s:bh)(n cap ns na:Nat)(cost day pt lo hi:Int)(cs U:List D)(W R:Nat)(sl:Int)(S:List dJ)(aE:∀d∈cs,Names 0 0 d)(hd:cs.drop (day.toNat * 4)=eQ W R sl S++U)(bE:cs.length=cap * 4)(hn:n<=cap)(eh:n<=100)(wN:0<=day/\day < n)(hS:S.length<=12):
  aT ae 257 [.box 0 0,i64 day,i64 pt, .agg [i64 lo,i64 hi]] [.mu (aP s n cap cost), .mp [], .mu cs] [aG ns,aH na] (bw (.aQ []) [.mu (aP s n cap cost), .mp [], .mu (cs.take (day.toNat * 4)++eQ W R sl (S++[⟨pt,lo,hi⟩])++U)] [aG ns,aH na]):=by
 have dC:∀nb nr,db nb nr cs=true:=λnb nr=>iz λd hd=>jA (aE d hd);have hU:cs.drop (0 + day.toNat * 4 + 4)=U:=by rw[jd,<-List.drop_drop,hd];rfl
 have nf:∀d∈cs.take (day.toNat * 4)++eQ W R sl (S++[⟨pt,lo,hi⟩])++U,Names 0 0 d:=λd h=>by
  rcases gY.1 h with h|h
  ·rcases gY.1 h with h|h
   ·exact aE d (List.mem_of_mem_take h)
   ·simp only[eQ,eX,fu,or_false]at h;rcases h with rfl|rfl|rfl|rfl<;>constructor
  ·rw[<-hU]at h;exact aE d (List.mem_of_mem_drop h)
 have c1:=HJ (tl:=[.mu [i64 lo,i64 hi]]) (Ji s n cap ns na cost day pt lo hi cs U W R sl S aE hd bE hn eh wN hS) (zg _ _ _ _) ze (zf aE) (zg _ _ _ _) ze (zf aE) (λσ _ _ _=>rfl) (λd hd=>by simp only[eX,fu,or_false]at hd;rcases hd with rfl|rfl|rfl|rfl<;>intro σ h0 _ _<;>first|rfl|simp only[D.cP,h0]) rfl;refine og ?_ rfl (by simp only[bZ,iz λd hd=>jA (nf d hd)];rfl) (cx _);refine cV func257 ntmps257 results257 call257 rfl ay λW0 S0 M0 own β hβ=> ?_;repeat'(first|(show az _ (.region 1 _ true) _ _;refine b_ ?_)|refine aB ?_|refine aC λK hK=> ?_|(refine kA ?_;clear hK K)|(intro hg;try exact aw)|exact fin|apply ai)
 refine cI ?_;refine k_ (dD 19 [(0, .box 0 0),(1,i64 day),(2,i64 pt),(7, .box 3 0)] [.mu (aP s n cap cost), .mp [], .mu cs, .mu [i64 lo,i64 hi]] [aG ns,aH na]) (aV rfl (by simp[put]) ⟨[],rfl⟩ ⟨[],rfl⟩) (gT rfl (by simp only[bZ,dC];rfl)) (by show β.length<=4;rw[hβ];exact Nat.le_succ 3) ?_;refine YC (by rfl) W0 S0 M0 own β s n cap ns na cost day pt lo hi cs _ _ _ _ wN hn eh bE c1 ?_;simp only[bU,cond_true,dn,cF];show cT _ _ _ _ _
 (refine av ?_;try exact trivial)
 rw[hU,jd];refine⟨rfl,⟨_,rfl⟩,⟨[],rfl⟩⟩
theorem UH {ops:Array Oper}(cj:ops=dK xr 8)(w0:World)(S0:Addr->Prop)(M0:MM)(own:Nat->Prop)(β:List Nat)(s:bh)(nm cap:Nat)(cost:Int)(y1 y2 y3 y4 y5 y6:Bx)(ns k:Nat)(hk:k < 60)(hp:[y1,y2,y3,y4,y5,y6].map (iT 1)=[y1,y2,y3,y4,y5,y6])
  {Q:Exit->St->Prop}{T:dX}(hQ:Q .normal ⟨38,((T.foldr (λe f=>put f e.2.1 (e.2.2 λ_=>true)) (bj [(1, .any),(5, .box 7 0)]))),(λ(L:Nat->Bool)=>[.mu (cR s++[.a_ 2 0 nm cap, .own 0, .bz 1,i64 cost,bif L 10 then .own 1 else bif L 7 then .undef else .own 1, .bool true]),y1,y2,y3,y4,y5,y6, .mu [.box 0 0]]) (λ_=>true),(λ(L:Nat->Bool)=>[aG ns,⟨true,186,1,bif L 7 then bP k .any++[.any]else bP k .any⟩]) (λ_=>true)⟩)(hT:T=[(0,28,λL=> .box 0 0),(1,29,λL=> .box 0 0),(2,30,λL=> .box 0 0),(3,31,λL=> .box 0 29),(4,32,λL=>bif L 7 then .undef else .own 1),(5,33,λL=> .any),(6,34,λL=> .list [.any]),(7,35,λL=> .own 1),(8,36,λL=> .box 0 0),(9,37,λL=> .box 0 29)]:=by rfl):
  az ⟨ae,w0,S0,M0,none,own,β⟩ (.region 8 ops true) Q ⟨38,bj [(1, .any),(5, .box 7 0)],(λ(L:Nat->Bool)=>[.mu (cR s++[.a_ 2 0 nm cap, .own 0, .bz 1,i64 cost,bif L 10 then .own 1 else bif L 7 then .undef else .own 1, .bool true]),y1,y2,y3,y4,y5,y6, .mu [.box 0 0]]) (λ_=>false),(λ(L:Nat->Bool)=>[aG ns,⟨true,186,1,bif L 7 then bP k .any++[.any]else bP k .any⟩]) (λ_=>false)⟩:=by
 simp only[List.map_cons,pq,List.cons.injEq,and_true]at hp;obtain⟨p1,p2,p3,p4,p5,p6⟩:=hp;unfold iT at p1 p2 p3 p4 p5 p6;simp only[dK,eW,fV,xr,fB,Nat.reduceBEq,cJ,if_false,if_true,bQ,bN,bR,iy,reduceIte,eq_self]at cj;subst cj;have ba:T.map (·.1)=[0,1,2,3,4,5,6,7,8,9]:=by rw[hT];rfl
 have cQ:T.map (·.2.1)=[28,29,30,31,32,33,34,35,36,37]:=by rw[hT];rfl
 have cD:(T.map (·.1)).Nodup:=by rw[ba];decide
 have aS:(T.map (·.2.1)).Nodup:=by rw[cQ];decide
 obtain⟨b,hb⟩:∃b:Nat->D,b=bj [(1, .any),(5, .box 7 0)]:=⟨_,rfl⟩;rw[<-hb];have h0:aI (λ_=>false) (λ_=>false) T b=b:=gR (λ_ _=>rfl);rw[<-h0];refine la (c:=⟨ae,w0,S0,M0,none,own,β⟩) Tryz.ty.mixed rfl aj 38 T b (λL=>[.mu (cR s++[.a_ 2 0 nm cap, .own 0, .bz 1,i64 cost,bif L 10 then .own 1 else bif L 7 then .undef else .own 1, .bool true]),y1,y2,y3,y4,y5,y6, .mu [.box 0 0]]) (λL=>[aG ns,⟨true,186,1,bif L 7 then bP k .any++[.any]else bP k .any⟩]) (λL k op hC af hL aa=> ?_) (λL hL=> ?_);rotate_left
 ·have bu:∀x∈T.map (·.1),x < 11:=by rw[ba];decide
  rw[gS (λe he=>hL _ (bu _ (gP (f:=(·.1)) he)))];rw[hT,hb];have e7:L 7=true:=hL 7 ak;have a7:L 10=true:=hL 10 ak;simp only[bU,e7,a7];simp only[hT,bU,cond_true]at hQ;exact hQ
 match k,af,hL,aa with
 |0,af,hL,aa=>
  cases af;have a7:=au hC hL 10 [] rfl;clear hC aa;rcases bO (L 7)with e7|e7;all_goals(have hX:=an a7 (an e7 hL);exact aA)
 |1,af,hL,aa=>
  cases af;have e7:=au hC hL 7 [4,3,2] rfl;have a7:=au hC hL 10 [] rfl;have hX:=an e7 (an a7 hL);exact aA
 |2,af,hL,aa=>
  cases af;have d1:=aq aa 1 rfl;have e7:=au hC hL 7 [4,3] rfl;have a7:=au hC hL 10 [] rfl;have hX:=an d1 (an e7 (an a7 hL));exact aA
 |3,af,hL,aa=>
  cases af;have d2:=aq aa 2 rfl;have e7:=au hC hL 7 [4] rfl;have a7:=au hC hL 10 [] rfl;have hX:=an d2 (an e7 (an a7 hL));exact aA
 |4,af,hL,aa=>
  cases af;have d3:=aq aa 3 rfl;have e7:=au hC hL 7 [] rfl;have a7:=au hC hL 10 [] rfl;have hX:=an d3 (an e7 (an a7 hL));exact aA
 |5,af,hL,aa=>
  cases af;have e7:=au hC hL 7 [6] rfl;have a7:=au hC hL 10 [] rfl;have hX:=an e7 (an a7 hL);exact aA
 |6,af,hL,aa=>
  cases af;have d5:=aq aa 5 rfl;have e7:=au hC hL 7 [] rfl;have a7:=au hC hL 10 [] rfl
  (
   have f33:=br (V:=L) (b:=b) d5 aS (show(5,33,λL=> .any)∈T by rw[hT];simp);have g7:more L 6 7=L 7:=rfl;have g10:more L 6 10=L 10:=rfl;have ek:aI (more L 6) (more L 6) T b=put (aI L L T b) 34 (.list [.any]):=(dM hL cD aS (show(6,34,λL=> .list [.any])∈T by rw[hT];simp)).trans (by rw[<-eL (V:=L) (V':=more L 6) (by rw[hT];simp[more])];try rfl);rw[ek];try simp only[e7,a7,g7,g10,cond_true,cond_false,bR,bQ,bN]
   try simp only[e7,a7,g7,g10,cond_true,cond_false,cG,cN,dN,put,Nat.reduceEqDiff,if_true,if_false,reduceIte]at f33
   refine aZ.of ?_
   (refine sX (ai @f33 (ai @hE @g_)) ?_;try exact trivial)
   exact aO.of_eq rfl)
 |7,af,hL,aa=>
  cases af;have d4:=aq aa 4 rfl;have d6:=aq aa 6 rfl;have e7:L 7=false:=hL;have a7:=au hC hL 10 [] rfl
  (
   have f32:=br (V:=L) (b:=b) d4 aS (show(4,32,λL=>bif L 7 then .undef else .own 1)∈T by rw[hT];simp);have f34:=br (V:=L) (b:=b) d6 aS (show(6,34,λL=> .list [.any])∈T by rw[hT];simp);have g7:more L 7 7=true:=rfl;have g10:more L 7 10=L 10:=rfl;have ek:aI (more L 7) (more L 7) T b=put (jz 1 (aI L L T b)) 35 (.own 1):=by
    refine(dM hL cD aS (show(7,35,λL=> .own 1)∈T by rw[hT];simp)).trans ?_;rw[mP (V:=L) (V':=more L 7) (by rw[hb];simp only[cG,cN,nM,nN];rfl) (by rw[hT];simp only[jf,fu,false_implies,implies_true,and_true];and_intros<;>(intro h;first|rfl|exact absurd (hL.symm.trans h) ak|(simp only[e7,a7,g7,g10,cond_true,cond_false];rfl)))]
   rw[ek];try simp only[e7,a7,g7,g10,cond_true,cond_false,bR,bQ,bN]
   try simp only[e7,a7,g7,g10,cond_true,cond_false,cG,cN,dN,put,Nat.reduceEqDiff,if_true,if_false,reduceIte]at f32 f34
   refine aZ.of ?_
   (refine sX (ai @f32 (ai @f34 (ai @hE (ai @iO (ai @g_ (ai @iR (ai @p1 (ai @p2 (ai @p3 (ai @p4 (ai @p5 @p6))))))))))) ?_;try exact trivial)
   first|exact⟨ag,ag,aO.of_eq rfl⟩|trace_state)
 |8,af,hL,aa=>
  cases af;have d0:=aq aa 0 rfl;have e7:=aq aa 7 rfl;have a7:=au hC hL 10 [9] rfl;have hX:=an d0 (an e7 (an a7 hL));exact aA
 |9,af,hL,aa=>
  cases af;have d8:=aq aa 8 rfl;have e7:=ca hC (aq aa 8 rfl) 7 [] rfl;have a7:=au hC hL 10 [] rfl;have hX:=an d8 (an e7 (an a7 hL));exact aA
 |10,af,hL,aa=>
  cases af;have d7:=aq aa 7 rfl;have d9:=aq aa 9 rfl;have e7:=ca hC (aq aa 9 rfl) 7 [] rfl;have a7:L 10=false:=hL;have hX:=an d7 (an d9 (an e7 (an a7 hL)));exact aA
 |k + 11,af,hL,aa=>simp at af
theorem UR (s:bh)(nm cap:Nat)(cost:Int)(x1 x2 x3 x4 x5 x6:Bx)(T:List Bx)(rw:List Row):aT ae 100 [.box 7 0] (.mu (aP s nm cap cost)::x1::x2::x3::x4::x5::x6:: .mu [.box 0 0]::T) rw (bw (i64 0) (.mu (aP s nm cap cost)::x1::x2::x3::x4::x5::x6:: .mu [.box 0 0]::T) rw):=by
 have c1:=AJ s (.a_ 2 0 nm cap) (.own 0) (.bz 1) cost (.own 1) (x1::x2::x3::x4::x5::x6:: .mu [.box 0 0]::T) rw;have c2:=lP true 1;refine cV func100 ntmps100 results100 call100 rfl ay λW0 S0 M0 own β hβ=> ?_;repeat'(first|(show az _ (.region 1 _ _) _ _;refine eo 1 rfl (λK1 aK=> ?_);refine av ?_)|(refine aK _ (cC c1 (by show(3:Nat) < 6;decide) rfl rfl rfl rfl ?_);clear aK K1;rintro d aF aL ⟨rfl,rfl,rfl⟩;simp only[bF,Nat.reduceAdd];refine av ?_)|(show cT _ _ _ _ _;refine av ?_)|refine aB ?_|refine aC λK hK=> ?_|refine cA (c2) ?_|(refine kA ?_;clear hK K)|(intro hg;try exact aw)|exact fin|apply ai)
theorem UP (s:bh)(nm cap:Nat)(cost:Int)(x1 x2 x3 x4 x5 x6 y1 y2 y3 y4 y5 y6:Bx)(T:List Bx)(rw:List Row)(fc:FuncId)(cs:List D)(hc:aT ae fc cs (.mu (aP s nm cap cost)::x1::x2::x3::x4::x5::x6:: .mu [.box 0 0]:: .mu [.aD fc cs]::T) rw (bw (.bool true) (.mu (aP s nm cap cost)::y1::y2::y3::y4::y5::y6:: .mu [.box 0 0]:: .mu [.aD fc cs]::T) rw)):aT ae 102 [.box 8 0] (.mu (aP s nm cap cost)::x1::x2::x3::x4::x5::x6:: .mu [.box 0 0]:: .mu [.aD fc cs]::T) rw (bw (i64 0) (.mu (aP s nm cap cost)::y1::y2::y3::y4::y5::y6:: .mu [.box 0 0]:: .mu [.aD fc cs]::T) rw):=by
 have c2:=lP true 2;refine cV func102 ntmps102 results102 call102 rfl ay λW0 S0 M0 own β hβ=> ?_;repeat'(first|(show az _ (.region 1 _ _) _ _;refine eo 1 rfl (λK1 aK=> ?_);refine av ?_)|(refine aK _ (cC hc (by show(3:Nat) < 5;decide) rfl rfl rfl rfl ?_);clear aK K1;rintro d aF aL ⟨rfl,rfl,rfl⟩;simp only[bF,Nat.reduceAdd];refine av ?_)|(show cT _ _ _ _ _;refine av ?_)|refine aB ?_|refine aC λK hK=> ?_|refine cA (c2) ?_|(refine kA ?_;clear hK K)|(intro hg;try exact aw)|exact fin|apply ai)
theorem UL (s:bh)(nm cap:Nat)(cost:Int)(x1 x2 x3 x4 x5 x6 y1 y2 y3 y4 y5 y6:Bx)(z8 z9:Bx)(T:List Bx)(rw:List Row)(fc:FuncId)(cs:List D)(hc:aT ae fc cs (.mu (aP s nm cap cost)::x1::x2::x3::x4::x5::x6:: .mu [.box 0 0]::z8::z9:: .mu [.aD fc cs]::T) rw (bw (.bool true) (.mu (aP s nm cap cost)::y1::y2::y3::y4::y5::y6:: .mu [.box 0 0]::z8::z9:: .mu [.aD fc cs]::T) rw)):aT ae 104 [.box 10 0] (.mu (aP s nm cap cost)::x1::x2::x3::x4::x5::x6:: .mu [.box 0 0]::z8::z9:: .mu [.aD fc cs]::T) rw (bw (i64 0) (.mu (aP s nm cap cost)::y1::y2::y3::y4::y5::y6:: .mu [.box 0 0]::z8::z9:: .mu [.aD fc cs]::T) rw):=by
 have c2:=lP true 7;refine cV func104 ntmps104 results104 call104 rfl ay λW0 S0 M0 own β hβ=> ?_;repeat'(first|(show az _ (.region 1 _ _) _ _;refine eo 1 rfl (λK1 aK=> ?_);refine av ?_)|(refine aK _ (cC hc (by show(3:Nat) < 5;decide) rfl rfl rfl rfl ?_);clear aK K1;rintro d aF aL ⟨rfl,rfl,rfl⟩;simp only[bF,Nat.reduceAdd];refine av ?_)|(show cT _ _ _ _ _;refine av ?_)|refine aB ?_|refine aC λK hK=> ?_|refine cA (c2) ?_|(refine kA ?_;clear hK K)|(intro hg;try exact aw)|exact fin|apply ai)
theorem UN (s:bh)(nm cap:Nat)(cost:Int)(x1 x2 x3 x4 x5 x6 z1:Bx)(T:List Bx)(ns k:Nat)(hk:k < 60)(fc:FuncId)(cs:List D)(hc:aT ae fc cs (.mu (aP s nm cap cost)::x1::x2::x3::x4::x5::x6:: .mu [.box 0 0]::z1:: .mu [.aD fc cs]::T) [aG ns,aH k] (bw (.bool true) (.mu (aP s nm cap cost)::x1::x2::x3::x4::x5::x6:: .mu [.box 0 0]::z1:: .mu [.aD fc cs]::T) [aG ns,aH k])):aT ae 103 [.box 7 0, .box 9 0] (.mu (aP s nm cap cost)::x1::x2::x3::x4::x5::x6:: .mu [.box 0 0]::z1:: .mu [.aD fc cs]::T) [aG ns,aH k] (bw (i64 0) (.mu (aP s nm cap cost)::x1::x2::x3::x4::x5::x6:: .mu [.box 0 0]::z1:: .mu [.aD fc cs]::T) [aG ns,aH k]):=by
 have c2:=lP true 6;have hl:(bP k D.any).length=k:=by simp
 refine cV func103 ntmps103 results103 call103 rfl ay λW0 S0 M0 own β hβ=> ?_;repeat'(first|(show az _ (.region 1 _ _) _ _;refine Ex 8 (λN s1=>mz _ N (.tmp 10) [] (some 11) s1) (λ_ _ h=>aZ.rF h) rfl (by intro cl h;cases h) (λK1 aK=> ?_);(refine sX (@hl) ?_;try exact trivial))|(refine aK _ (vk rfl rfl ?_);clear aK K1;refine cC hc (by show(11:Nat) < 14;decide) rfl rfl rfl rfl ?_;rintro d aF aL ⟨rfl,rfl,rfl⟩;simp only[bF,Nat.reduceAdd];(refine sX (@hl) ?_;try exact trivial))|(show cT _ _ _ _ _;(refine sX (@hl) ?_;try exact trivial))|refine bK ?_|((first|refine bL λK hK=> ?_|refine bI ?_|show bC _ _ _ _ _|refine bl (c2) ?_);(refine sX (@hl) ?_;try exact trivial))|(refine kA ?_;clear hK K)|(intro hg;try exact aw)|exact fin|apply ai)
theorem UJ (s:bh)(nm cap:Nat)(cost:Int)(x1 x2 x3 x4 x5 x6 y1 y2 y3 y4 y5 y6:Bx)(ns k:Nat)(hk:k < 60)(fr fn fh:FuncId)(fo fp fq:List D)(eT:bZ 7 2 [y1,y2,y3,y4,y5,y6]=true)(wC:bZ 8 2 [y1,y2,y3,y4,y5,y6, .mu [.box 0 0]]=true)(jO:[y1,y2,y3,y4,y5,y6].map (iT 1)=[y1,y2,y3,y4,y5,y6])
  (hr:aT ae fr fo (.mu (aP s nm cap cost)::x1::x2::x3::x4::x5::x6:: .mu [.box 0 0]:: .mu [.aD fr fo]:: .mu [.aD fn fp]:: .mu [.aD fh fq]::[]) [aG ns,aH k] (bw (.bool true) (.mu (aP s nm cap cost)::y1::y2::y3::y4::y5::y6:: .mu [.box 0 0]:: .mu [.aD fr fo]:: .mu [.aD fn fp]:: .mu [.aD fh fq]::[]) [aG ns,aH k]))
  (hn:aT ae fn fp (.mu (aP s nm cap cost)::y1::y2::y3::y4::y5::y6:: .mu [.box 0 0]:: .mu [.aD fr fo]:: .mu [.aD fn fp]:: .mu [.aD fh fq]::[]) [aG ns,aH k] (bw (.bool true) (.mu (aP s nm cap cost)::y1::y2::y3::y4::y5::y6:: .mu [.box 0 0]:: .mu [.aD fr fo]:: .mu [.aD fn fp]:: .mu [.aD fh fq]::[]) [aG ns,aH k]))
  (hh:aT ae fh fq (.mu (aP s nm cap cost)::y1::y2::y3::y4::y5::y6:: .mu [.box 0 0]:: .mu [.aD fr fo]:: .mu [.aD fn fp]:: .mu [.aD fh fq]::[]) [aG ns,aH k] (bw (.bool true) (.mu (aP s nm cap cost)::y1::y2::y3::y4::y5::y6:: .mu [.box 0 0]:: .mu [.aD fr fo]:: .mu [.aD fn fp]:: .mu [.aD fh fq]::[]) [aG ns,aH k])):
  aT ae 58 [.box 0 0, .any, .aD fr fo, .aD fn fp, .aD fh fq] [.mu (aP s nm cap cost),x1,x2,x3,x4,x5,x6] [aG ns,aH k] (bw (i64 0) [.mu (aP s nm cap cost),y1,y2,y3,y4,y5,y6] [aG ns,aH (k + 1)]):=by
 have rV:bZ 7 2 [.mu (aP s nm cap cost),y1,y2,y3,y4,y5,y6]=true:=eT;have d1:=UR s nm cap cost x1 x2 x3 x4 x5 x6 (.mu [.aD fr fo]:: .mu [.aD fn fp]:: .mu [.aD fh fq]::[]) [aG ns,aH k];have d2:=UP s nm cap cost x1 x2 x3 x4 x5 x6 y1 y2 y3 y4 y5 y6 (.mu [.aD fn fp]:: .mu [.aD fh fq]::[]) [aG ns,aH k] fr fo hr;have d3:=UN s nm cap cost y1 y2 y3 y4 y5 y6 (.mu [.aD fr fo]) (.mu [.aD fh fq]::[]) ns k hk fn fp hn;have d4:=UL s nm cap cost y1 y2 y3 y4 y5 y6 y1 y2 y3 y4 y5 y6 (.mu [.aD fr fo]) (.mu [.aD fn fp]) [] [aG ns,aH k] fh fq hh;refine cV func58 ntmps58 results58 call58 rfl ay λW0 S0 M0 own β hβ=> ?_;repeat'(first|(show az _ (.loop _) _ _;refine lJ 5 ?_)|refine bK ?_|((first|refine bL λK hK=> ?_|refine bI ?_|show bC _ _ _ _ _);(refine sX (ai @hE (ai @iO (ai @g_ (ai @iR (@iS))))) ?_;try exact trivial))|(refine kA ?_;clear hK K)|(intro hg;try exact aw)|exact fin|apply ai)
 repeat'(first|(show az _ (.region 8 _ true) _ _;refine b_ ?_)|(refine lp ?_)|(show az _ (.region 4 _ _) _ _;refine eo 1 rfl (λK1 aK=> ?_);(refine sX (ai @hE (ai @iO (ai @g_ (ai @iR (@iS))))) ?_;try exact trivial))|(refine aK _ ?_;clear aK K1;(first|(refine cC d1 (by show(23:Nat) < 38;decide) rfl rfl rfl rfl ?_)|(refine cC d2 (by show(23:Nat) < 38;decide) rfl rfl rfl rfl ?_)|(refine cC d3 (by show(23:Nat) < 38;decide) rfl rfl rfl rfl ?_)|(refine cC d4 (by show(23:Nat) < 38;decide) rfl rfl rfl rfl ?_));rintro d aF aL ⟨rfl,rfl,rfl⟩;simp only[bF,Nat.reduceAdd];(refine sX (ai @hE (ai @iO (ai @g_ (ai @iR (@iS))))) ?_;try exact trivial))|refine bK ?_|((first|refine bL λK hK=> ?_|refine bI ?_|show bC _ _ _ _ _);(refine sX (ai @hE (ai @iO (ai @g_ (ai @iR (@iS))))) ?_;try exact trivial))|(refine kA ?_;clear hK K)|(intro hg;try exact aw)|exact fin|apply ai)
 refine cI ?_;refine k_ (dD 38 [(1, .any),(5, .box 7 0)] [.mu (aP s nm cap cost),y1,y2,y3,y4,y5,y6, .mu [.box 0 0]] [aG ns,aH k]) (aV rfl (by simp[put]) ⟨[_,_,_],rfl⟩ ⟨[],rfl⟩) (gT rfl wC) (by rw[hβ];exact Nat.le_succ _) ?_;refine UH (by rfl) _ _ _ _ _ s nm cap cost y1 y2 y3 y4 y5 y6 ns k hk jO ?_;simp only[bU,cond_true,iS];repeat'(first|(show az _ .ret _ _;refine b_ ?_)|refine bK ?_|((first|refine bL λK hK=> ?_|refine bI ?_|show bC _ _ _ _ _);(refine sX (ai @hE (ai @iO (ai @g_ (ai @iR (@iS))))) ?_;try exact trivial))|(refine kA ?_;clear hK K)|(intro hg;try exact aw)|exact fin|apply ai)
 refine cI ?_;refine k_ (dD 38 [(10,i64 0)] [.mu (aP s nm cap cost),y1,y2,y3,y4,y5,y6] [aG ns,aH (k + 1)]) (aV rfl (by simp[put]) ⟨[_],rfl⟩ ⟨[],rfl⟩) (gT rfl rV) (by rw[hβ];exact cx _) ?_;refine oo ?_;exact⟨rfl,rfl,rfl⟩
end Go.Proofs.YtopobgihpdaggaaGreatDoor
namespace Go.Proofs.YtopobgihpdaggaaGreatDoor
open Go.Ab
attribute[local irreducible] az dI dR ax aT IA fP aZ gZ
theorem Ar {n nr:Nat}{σ:Nat->Option Nat}(hσ:∀i,i < n->σ i=some i){d:D}(h:Names n nr d):d.cP σ=d:=by
 have key:∀cs:List D,(∀d∈cs,d.cP σ=d)->fW σ cs=cs:=λcs=>by
  induction cs with
  |nil=>intro _;rfl
  |cons d cs ih=>intro h;simp only[fW];rw[h d (List.mem_cons_self ..),ih λx hx=>h x (List.mem_cons_of_mem _ hx)]
 induction h with
 |agg cs h ih=>simp only[D.cP];rw[key cs ih]
 |aQ cs h ih=>simp only[D.cP];rw[key cs ih]
 |aD f cs h ih=>simp only[D.cP];rw[key cs ih]
 |dq f cs h ih=>simp only[D.cP];rw[key cs ih]
 |box i off h=>simp only[D.cP,hσ i h]
 |a_ i off n c h=>simp only[D.cP,hσ i h]
 |bz i h=>simp only[D.cP,hσ i h]
 |_=>simp only[D.cP]
theorem XX {n nr:Nat}{σ:Nat->Option Nat}(hσ:∀i,i < n->σ i=some i){cs:List D}(h:∀d∈cs,Names n nr d):fW σ cs=cs:=by
 rw[Au];exact(re (g:=id) λd hd=>Ar hσ (h d hd)).trans (zJ _)
theorem NV {n nr:Nat}{σ:Nat->Option Nat}(hσ:∀i,i < n->σ i=some i){x:Bx}(h:x.Db n nr):gH σ x=x:=by
 cases x with
 |mu cs=>simp only[gH,XX hσ h]
 |mp es=>
  simp only[gH]
  congr 1
  refine(re (g:=id) λe he=> ?_).trans (zJ _);obtain⟨h1,h2⟩:=h e he;rw[Ar hσ h1,Ar hσ h2];rfl
 |_=>rfl
theorem Ol:∀(k m i:Nat),pos (List.range' m k) m i=if m<=i/\i < m + k then some i else none
 |0,m,i=>by
  have:¬(m<=i/\i < m + 0):=ag;rw[if_neg this];rfl
 |k + 1,m,i=>by
  rw[List.range'_succ];simp only[pos];by_cases h:m=i
  ·subst h;simp
  ·have:(m == i)=false:=by simp[h]
   rw[this,cond_false,Ol k (m + 1) i];by_cases h2:m + 1<=i/\i < m + 1 + k
   ·rw[if_pos h2,if_pos ag]
   ·rw[if_neg h2,if_neg ag]
theorem Om (n i:Nat):pos (dB n) 0 i=if i < n then some i else none:=by
 rw[List.range_eq_range',Ol];by_cases h:i < n
 ·rw[if_pos h,if_pos ag]
 ·rw[if_neg h,if_neg ag]
theorem mr {P:Program}{f:FuncId}{ds:List D}{bs es:List Bx}{rw nK:List Row}{d0:D}{nr:Nat}(tl:List Bx)(h:aT P f ds bs rw (bw d0 es nK))(hl:es.length=bs.length)
  (hb:bZ bs.length nr bs=true)(he:bZ bs.length nr es=true)(hd:dA bs.length nr d0=true)(tx:(ds.all λd=>dA bs.length nr d)=true)(lY:tl.map (n_ (bs.length + tl.length))=tl):
  aT P f ds (bs++tl) rw (bw d0 (es++tl) nK):=by
 have hp:∀i,i < bs.length->pos (dB bs.length) 0 i=some i:=λi hi=>by rw[Om,if_pos hi]
 have hu:∀N i,i < bs.length->up (dB bs.length) N i=some i:=λN i hi=>by simp[up,oF,hi]
 have nb:=qo bs hb;have ne:=qo es he;refine(aT.frame h (dB bs.length) (cu:=ds) (B:=bs++tl) List.nodup_range (λi hi=>by simp at hi⊢;omega) ?_ ?_).mono ?_
 ·refine Tb λj=> ?_;by_cases hj:j < bs.length
  ·simp only[jY,dO,List.getElem?_range hj,eW,cZ hj,cX hj];rw[NV hp (nb j _ (cX hj))]
  ·rw[qd (by simp[jY];omega),qd ag]
 ·refine(re (g:=id) λd ed=> ?_).trans (zJ _);exact Ar hp (sZ d (ic.1 tx d ed))
 ·rintro d B' aL ⟨d',aF,⟨rfl,rfl,rfl⟩,_,rfl,rfl⟩;refine⟨Ar (hu _) (sZ _ hd), ?_,rfl⟩;unfold pR;rw[List.length_range,List.drop_eq_nil_of_le ag,pq,bN,ia];refine Tb λj=> ?_;rw[HV];simp only[jd];by_cases hj:j < bs.length
  ·rw[cZ hj,cX hj,eW];have DL:j < aF.length:=ag;rw[cZ DL,cX DL];simp only[qY,hp j hj,cX DL];rw[NV (hu _) (ne j _ (cX DL))]
  ·rw[gk ag,gk ag,hl];have hn:pos (dB bs.length) 0 j=none:=by rw[Om,if_neg hj]
   cases hx:tl[j - bs.length]? with
   |none=>rfl
   |some x=>
    simp only[eW,qY,hn];have:=congrArg (λl:List Bx=>l[j - bs.length]?) lY;simp only[dO,hx,eW]at this;exact this
end Go.Proofs.YtopobgihpdaggaaGreatDoor
namespace Go.Proofs.YtopobgihpdaggaaGreatDoor
set_option maxRecDepth 100000
set_option maxHeartbeats 4000000
open Go.Ab
attribute[local irreducible] az dI dR ax aT IA fP aZ gZ
def zH (F:List (Int×Int))(now:List Int):Prop:=now.length=F.length/\∀i,i < now.length->(nth F i).1<=nth now i/\nth now i<=(nth F i).2
instance(F:List (Int×Int)) (now:List Int):Decidable (zH F now):=by unfold zH;infer_instance
theorem adw (x:Int)(p:Int×Int):ax ae 168 [i64 x,jy p] (.bool (decide (p.1<=x/\x<=p.2))):=by
 have c1:=Ot x p.1 p.2;refine aR func168 ntmps168 results168 call168 rfl ay λw0 S0 M0=> ?_;repeat'(first|refine aB ?_|refine aC λK hK=> ?_|refine cA (c1) ?_|(refine kA ?_;clear hK K)|(intro hg;try exact aw)|exact fin|apply ai)
 all_goals trace_state
abbrev gm (now:List Int):List D:=now.map λ(x:Int)=>i64 x
theorem AK (nb nr:Nat)(l:List Int):db nb nr (gm l)=true:=iz λd hd=>by obtain⟨y,_,rfl⟩:=iH.1 hd;rfl
theorem adv (F:List (Int×Int))(now:List Int)(hF:F.length<=3)(hl:now.length=F.length)(b0 b1 b2:Bx)(rw:List Row)(eT:bZ 4 rw.length [b0,b1,b2, .mu (gm now)]=true):
  aT ae 167 [.a_ 3 0 F.length F.length, .list (F.map jy), .aD 168 []] [b0,b1,b2, .mu (gm now)] rw (bw (.bool (decide (zH F now))) [b0,b1,b2, .mu (gm now)] rw):=by
 refine og ?_ rfl eT (cx _);refine cV func167 ntmps167 results167 call167 rfl ay λW0 S0 M0 own β hβ=> ?_;have uN:β.length=4:=by rw[hβ];rfl
 repeat'(first|(show az _ (.loop _) _ _;refine b_ ?_)|refine aB ?_|refine aC λK hK=> ?_|(refine kA ?_;clear hK K)|(intro hg;try exact aw)|exact fin|apply ai)
 refine cI ?_;refine dH (ι:=Nat) (λj=>[(1, .list (F.map jy)),(2, .aD 168 []),(15, .a_ 3 0 F.length F.length),(16,i64 F.length),(17,i64 (j:Nat))]) (λ_=>[b0,b1,b2, .mu (gm now)]) (λ_=>rw)
  (λj=>j<=F.length/\∀i,i < j->(nth F i).1<=nth now i/\nth now i<=(nth F i).2) (λj=>F.length - j) (λ_ _=>⟨by simp[dA,db],eT⟩) 0 ⟨Nat.zero_le _,λi h=>absurd h (Nat.not_lt_zero i)⟩ (aV rfl (by try(refine av ?_;try exact trivial);try simp) ⟨[],by simp⟩ ⟨[],by simp⟩) (λj hj=> ?_) (λ_ _=>by rw[uN];exact cx _)
 obtain⟨hj,hi⟩:=hj;by_cases aU:j < F.length
 ·have c1:=adw (nth now j) (nth F j);have jF:(gm now).drop (0 + j * 1)=i64 (nth now j)::(gm now).drop (j + 1):=by
   rw[jd,Cj,zO (by simp;omega)];simp[nth,show j < now.length by omega]
  have Hu:(gm now).drop (0 + j)=i64 (nth now j)::(gm now).drop (j + 1):=by rw[<-jF,Cj]
  (refine sX (ai @jF (@Hu)) ?_;try exact trivial)
  repeat'(first|(show cT _ _ _ _ _;(refine sX (ai @jF (@Hu)) ?_;try exact trivial))|refine bK ?_|((first|refine bL λK hK=> ?_|refine bI ?_|show bC _ _ _ _ _|refine bl (c1) ?_);(refine sX (ai @jF (@Hu)) ?_;try exact trivial))|(refine kA ?_;clear hK K)|(intro hg;try exact aw)|exact fin|apply ai)
  all_goals first
  |exact⟨[],(bN _).symm⟩
  |exact⟨_,rfl⟩
  |(congr 1;symm;rw[decide_eq_false_iff_not];intro h;have:=h.2 j ag;omega)
  |(refine⟨j + 1,⟨ag,λi h=> ?_⟩,ag,aV rfl (by try(refine av ?_;try exact trivial);try simp) ⟨_,rfl⟩ ⟨[],by simp⟩⟩
    by_cases h9:i=j
    ·rw[h9];omega
    ·exact hi i ag)
  |trace_state
 ·obtain rfl:j=F.length:=ag
  (refine av ?_;try exact trivial)
  repeat'(first|(show cT _ _ _ _ _;refine av ?_)|refine aB ?_|refine aC λK hK=> ?_|(refine kA ?_;clear hK K)|(intro hg;try exact aw)|exact fin|apply ai)
  all_goals first
  |exact⟨[],(bN _).symm⟩
  |(congr 1;symm;rw[decide_eq_true_eq];exact⟨hl,λi h=>hi i ag⟩)
  |trace_state
theorem ZF (F:List (Int×Int))(T:List Int)(mo:Int)(now:List Int)(hF:F.length<=3)(hl:now.length=F.length)(b0 b1 b2:Bx)(rw:List Row)(eT:bZ 4 rw.length [b0,b1,b2, .mu (gm now)]=true):
  aT ae 121 [.agg (nG F T mo), .a_ 3 0 F.length F.length] [b0,b1,b2, .mu (gm now)] rw (bw (.bool (decide (zH F now))) [b0,b1,b2, .mu (gm now)] rw):=by
 have c1:=mr (nr:=rw.length) [.mu (nG F T mo)] (adv F now hF hl b0 b1 b2 rw eT) rfl eT eT rfl rfl rfl;refine og ?_ rfl eT (cx _);refine cV func121 ntmps121 results121 call121 rfl ay λW0 S0 M0 own β hβ=> ?_;repeat'(first|(show az _ (.region 1 _ _) _ _;refine eo 3 rfl (λK1 aK=> ?_);refine av ?_)|(refine aK _ (cC c1 (by show(8:Nat) < 9;decide) rfl rfl rfl rfl ?_);clear aK K1;rintro d aF aL ⟨rfl,rfl,rfl⟩;simp only[bF,Nat.reduceAdd];refine av ?_)|(show cT _ _ _ _ _;refine av ?_)|refine aB ?_|refine aC λK hK=> ?_|(refine kA ?_;clear hK K)|(intro hg;try exact aw)|exact fin|apply ai)
 all_goals first|exact⟨[],(bN _).symm⟩|exact⟨_,rfl⟩|trace_state
end Go.Proofs.YtopobgihpdaggaaGreatDoor
namespace Go.Proofs.YtopobgihpdaggaaGreatDoor
set_option maxRecDepth 100000
set_option maxHeartbeats 4000000
open Go.Ab Go.RowKit Go
attribute[local irreducible] az dI dR ax aT IA fP aZ gZ
def kr (F:List (Int×Int))(T:List Int)(mo:Int)(C:List (List ByteArray)):Nat->Nat->Nat->Int->List Int->List Int->List (List Int)
 |0,_,_,_,_,_=>[]
 |f + 1,pl,at_,sum,n,now=>
  if pl=5 then(if zH F now then[now]else[])
  else if at_=F.length then(if(jL T mo C n at_ pl (sum.tmod 10)).2=true then kr F T mo C f (pl + 1) 0 0 (jL T mo C n at_ pl (sum.tmod 10)).1 now else[])
  else(mw T mo C n at_ pl 10).flatMap λx=>kr F T mo C f pl (at_ + 1) (sum + (x.1:Nat)) x.2 (now.set at_ (10 * nth now at_ + (x.1:Nat)))
abbrev BH:D:= .aD 120 [.box 0 0, .box 4 0, .box 1 0, .box 2 0, .box 5 0]
abbrev Ao (A:List (List Int)):Row:=⟨true,24,1,A.map ints⟩
theorem aa5 {l:List Int}{d:D}(h:d∈l.map (D.int .i64)):d.cells.length=1:=by
 obtain⟨y,_,rfl⟩:=iH.1 h;rfl
theorem lSb {p q:Prop}(k:q)(h:p=q:=by simp -implicitDefEqProofs only[go_sem,kM,bF,Nat.reduceAdd,Nat.reduceSub,Nat.reduceMul,Nat.reduceLT,Nat.reduceLeDiff,Nat.reduceEqDiff,Nat.reduceBEq,Int.reduceLT,Int.reduceLE,Int.reduceToNat,Int.reduceAdd,Int.reduceSub,Int.reduceMul,Int.reduceNeg,Int.reduceEq,reduceCtorEq,eq_self,ne_eq,not_false_eq_true,if_true,reduceIte,beq_self_eq_true,bn,List.length_nil,List.nil_append,List.append_nil,Nat.zero_add]<;>rfl):p:=h.symm▸k
theorem afl (now:List Int)(hn:now.length<=100)(h0:now≠[]):aT ae 122 [ints now] [] [] (λd _ aL=>d= .own 0/\aL=[⟨true,3,1,gm now⟩]):=by
 refine cV func122 ntmps122 results122 call122 rfl ay λW0 S0 M0 own β hβ=> ?_;have hc:∀x∈now.map (D.int .i64),x.cells≠[]:=λx hx=>by obtain⟨y,_,rfl⟩:=iH.1 hx;simp[D.cells]
 repeat'(first|(show az _ (.region 1 _ _) _ _;refine pg 1 (Ii _ 24 (.tmp 3) (some 4)) (λ_ _ h=>aZ.nil h) rfl rfl (λK1 aK=> ?_);(refine lSb ?_;try exact trivial))|(refine aK _ ⟨(by show(4:Nat) < 8;decide),aj,_,rfl,λnX=>absurd (List.map_eq_nil_iff.1 nX) h0,λ_=> ?_,hc⟩<;>clear aK K1<;>(refine lSb ?_;try exact trivial))|(refine agE (t:=24) (e:=3) aj (by rw[show aJ ae 3=1 from by kernel_rfl];decide) (by show(5:Nat) < 8;decide) λK hK=> ?_;rw[show aJ ae 3=1 from by kernel_rfl];(refine lSb ?_;try exact trivial))|(show cT _ _ _ _ _;(refine lSb ?_;try exact trivial))|(exact aa5 hg)|refine bK ?_|((first|refine bL λK hK=> ?_|refine bI ?_|show bC _ _ _ _ _);(refine lSb ?_;try exact trivial))|(refine kA ?_;clear hK K)|(intro hg;try exact aw)|exact fin|apply ai)
 all_goals trace_state
theorem acR {c:Ctx}{s:St}{y:Operand}{ys cs:List D}{i off n cap:Nat}(hy:s.ev y= .a_ i off n cap)(hb:s.bx[i]? =some (.mu cs))(hle:off + n<=cs.length)(j7:(cs.drop off).take n=ys)(hint:∀d∈ys,∃z:Int,d= .int .i64 z)(fA:n<=cap):
  ∀(a:Act) (w:World) (g:Gh),RG c s a w g->∀vs:List Value,vs.length=([]:List D).length->(∀(q:Nat) (d:D),([]:List D)[q]? =some d->Rel w g (vs.getD q Go.undef) d)->((#[y]:Array Operand).toList.map a.eval++vs).length=[D.list ys].length/\∀(q:Nat) (x:D),[D.list ys][q]? =some x->Rel w ⟨so w,[],[],g.M⟩ (((#[y]:Array Operand).toList.map a.eval++vs).getD q Go.undef) x:=by
 intro a w g h vs uO _;obtain rfl:vs=[]:=List.length_eq_zero_iff.1 uO;refine⟨rfl,λq x hq=> ?_⟩
 match q,hq with
 |0,hq=>
  simp only[List.getElem?_cons_zero,Option.some.injEq]at hq;subst hq;have GQ:vI s.bx (s.ev y) (λzs=>zs=ys):=by
   rw[hy,Rg];simp only[lO,hb,bn];exact⟨hle,j7⟩
  obtain⟨zs,A,cp,u,rfl,GL,hm,eR⟩:=MU h (h.ev y) GQ;have oX:zs.all D.one=true:=ic.2 λd hd=>by obtain⟨z,rfl⟩:=hint d hd;rfl
  have gV:=HM hint;have mV:=h.ev y;rw[hy]at mV;have r6:zs.length<=cp:=by
   generalize a.eval y=v at GL mV;subst GL;cases mV;exact fA
  show Rel w _ (a.eval y) _;rw[GL];refine .list _ A zs.length cp zs 1 u rfl (λx hx=>by obtain⟨z,rfl⟩:=hint x hx;rfl) r6 (λq hq=> ?_) (λq d hd=> ?_)
  ·rw[gV]at hq;obtain⟨ad,e1,e2,e3⟩:=hm oX q hq;exact⟨ad,e1,e2,⟨_,e2⟩,e3⟩
  ·rw[gV]at hd;have h5:=eR oX q d hd;obtain⟨z,rfl⟩:=hint d (fM hd);generalize u q=x at h5;cases h5;exact .int _ _ _
 |q + 1,hq=>simp at hq
theorem N9 (l:List Int)(r:Nat):(l.map λ(x:Int)=>i64 x).map (gI r)=l.map λ(x:Int)=>i64 x:=by
 rw[List.map_map];rfl
theorem Ny (l:List Int)(i:Nat)(v:Int)(h:i < l.length):(gm l).take (0 + i * 1)++[i64 v]++(gm l).drop (0 + i * 1 + 1)=gm (l.set i v):=by
 rw[jd,Cj];have:gm (l.set i v)=(gm l).set i (i64 v):=by simp[List.map_set]
 rw[this,List.set_eq_take_append_cons_drop,if_pos (by simpa using h)];simp
theorem XI (A:List (List Int))(x:List Int):(A++[x]).map ints=A.map ints++[ints x]:=by rw[List.map_append];rfl
theorem WQ {ops:Array Oper}(cj:ops=dK Tryz.f120 3)(w0:World)(S0:Addr->Prop)(eG:MM)(own:Nat->Prop)(β:List Nat)(F:List (Int×Int))(Tu:List Int)(mo:Int)(C:List (List ByteArray))(now n:List Int)(A:List (List Int))(x6 x7 x8:Int)(hA:A.length<=1000000)(hn:now.length<=100)(bS:now≠[])(hl:now.length=F.length)
  {Q:Exit->St->Prop}{T:dX}(hQ:Q .normal ⟨79,((T.foldr (λe f=>put f e.2.1 (e.2.2 λ_=>true)) (bj [(4, .box 0 0),(5, .box 4 0),(6, .box 1 0),(7, .box 2 0),(8, .box 5 0),(9, .box 6 0),(10, .box 7 0),(11, .box 8 0),(12, .box 9 0)]))),(λ(L:Nat->Bool)=>[.mu (kU F Tu mo C), .mu [bif L 5 then .own 0 else bif L 4 then .undef else .own 0], .mu [i64 F.length], .mu (gm now), .mu [.a_ 3 0 F.length F.length], .mu [BH], .mu [i64 x6], .mu [i64 x7], .mu [i64 x8], .mu (ja n)]) (λ_=>true),(λ(L:Nat->Bool)=>[⟨true,24,1,bif L 4 then A.map ints++[ints now]else A.map ints⟩]++bif L 2 then[⟨true,3,1,gm now⟩]else[]) (λ_=>true)⟩)(hT:T=[(0,24,λL=>bif L 4 then .undef else .own 0),(1,25,λL=> .a_ 3 0 F.length F.length),(2,26,λL=> .own 1),(3,27,λL=> .list [ints now]),(4,28,λL=> .own 0)]:=by rfl):
  az ⟨ae,w0,S0,eG,none,own,β⟩ (.region 3 ops true) Q ⟨79,bj [(4, .box 0 0),(5, .box 4 0),(6, .box 1 0),(7, .box 2 0),(8, .box 5 0),(9, .box 6 0),(10, .box 7 0),(11, .box 8 0),(12, .box 9 0)],(λ(L:Nat->Bool)=>[.mu (kU F Tu mo C), .mu [bif L 5 then .own 0 else bif L 4 then .undef else .own 0], .mu [i64 F.length], .mu (gm now), .mu [.a_ 3 0 F.length F.length], .mu [BH], .mu [i64 x6], .mu [i64 x7], .mu [i64 x8], .mu (ja n)]) (λ_=>false),(λ(L:Nat->Bool)=>[⟨true,24,1,bif L 4 then A.map ints++[ints now]else A.map ints⟩]++bif L 2 then[⟨true,3,1,gm now⟩]else[]) (λ_=>false)⟩:=by
 have Yw:(gm now).map (gI 0)=gm now:=N9 _ _;have Yv:(ja n).map (gI 0)=ja n:=N9 _ _;simp only[dK,eW,fV,Tryz.f120,fB,Nat.reduceBEq,cJ,if_false,if_true,bQ,bN,bR,iy,reduceIte,eq_self]at cj;subst cj;have ba:T.map (·.1)=[0,1,2,3,4]:=by rw[hT];rfl
 have cQ:T.map (·.2.1)=[24,25,26,27,28]:=by rw[hT];rfl
 have cD:(T.map (·.1)).Nodup:=by rw[ba];decide
 have aS:(T.map (·.2.1)).Nodup:=by rw[cQ];decide
 obtain⟨b,hb⟩:∃b:Nat->D,b=bj [(4, .box 0 0),(5, .box 4 0),(6, .box 1 0),(7, .box 2 0),(8, .box 5 0),(9, .box 6 0),(10, .box 7 0),(11, .box 8 0),(12, .box 9 0)]:=⟨_,rfl⟩;rw[<-hb];have h0:aI (λ_=>false) (λ_=>false) T b=b:=gR (λ_ _=>rfl);rw[<-h0];refine la (c:=⟨ae,w0,S0,eG,none,own,β⟩) Tryz.ty.mixed rfl aj 79 T b (λL=>[.mu (kU F Tu mo C), .mu [bif L 5 then .own 0 else bif L 4 then .undef else .own 0], .mu [i64 F.length], .mu (gm now), .mu [.a_ 3 0 F.length F.length], .mu [BH], .mu [i64 x6], .mu [i64 x7], .mu [i64 x8], .mu (ja n)]) (λL=>[⟨true,24,1,bif L 4 then A.map ints++[ints now]else A.map ints⟩]++bif L 2 then[⟨true,3,1,gm now⟩]else[]) (λL k op hC af hL aa=> ?_) (λL hL=> ?_);rotate_left
 ·have bu:∀x∈T.map (·.1),x < 6:=by rw[ba];decide
  rw[gS (λe he=>hL _ (bu _ (gP (f:=(·.1)) he)))];rw[hT,hb];have e2:L 2=true:=hL 2 ak;have e4:L 4=true:=hL 4 ak;have e5:L 5=true:=hL 5 ak;simp only[bU,e2,e4,e5];simp only[hT,bU,cond_true]at hQ;exact hQ
 match k,af,hL,aa with
 |0,af,hL,aa=>
  cases af;have e4:=au hC hL 4 [] rfl;have e5:=au hC hL 5 [] rfl;clear hC aa;rcases bO (L 2)with e2|e2;all_goals(have hX:=an e4 (an e5 (an e2 hL));exact aA)
 |1,af,hL,aa=>
  cases af;have e2:=au hC hL 2 [] rfl;have e4:=au hC hL 4 [2] rfl;have e5:=au hC hL 5 [] rfl;have hX:=an e2 (an e4 (an e5 hL));exact aA
 |2,af,hL,aa=>
  cases af;have d1:=aq aa 1 rfl;have e2:L 2=false:=hL;have e4:=au hC hL 4 [] rfl;have e5:=au hC hL 5 [] rfl
  (
   have f25:=br (V:=L) (b:=b) d1 aS (show(1,25,λL=> .a_ 3 0 F.length F.length)∈T by rw[hT];simp);have g2:more L 2 2=true:=rfl;have g4:more L 2 4=L 4:=rfl;have g5:more L 2 5=L 5:=rfl;have ek:aI (more L 2) (more L 2) T b=put (aI L L T b) 26 (.own 1):=(dM hL cD aS (show(2,26,λL=> .own 1)∈T by rw[hT];simp)).trans (by rw[<-eL (V:=L) (V':=more L 2) (by rw[hT];simp[more])];try rfl);rw[ek];try simp only[e2,e4,e5,g2,g4,g5,cond_true,cond_false,bR,bQ,bN]
   try simp only[e2,e4,e5,g2,g4,g5,cond_true,cond_false,cG,cN,dN,put,Nat.reduceEqDiff,if_true,if_false,reduceIte]at f25
   refine aZ.fresh (afl now hn bS) rfl (λd hd=>by obtain⟨y,_,rfl⟩:=iH.1 hd;exact⟨_,rfl⟩) (by show(26:Nat) < 79;decide) rfl (acR (ys:=now.map (D.int .i64)) (cs:=gm now) (i:=3) (off:=0) (n:=F.length) (cap:=F.length) f25 rfl (by simp;omega) (by rw[List.drop_zero];exact List.take_of_length_le (by simp;omega)) (λd hd=>by obtain⟨y,_,rfl⟩:=iH.1 hd;exact⟨_,rfl⟩) (cx _)) ?_;exact aO.of_eq rfl)
 |3,af,hL,aa=>
  cases af;have d2:=aq aa 2 rfl;have e2:=aq aa 2 rfl;have e4:=au hC hL 4 [] rfl;have e5:=au hC hL 5 [] rfl;have hX:=an d2 (an e2 (an e4 (an e5 hL)));exact aA
 |4,af,hL,aa=>
  cases af;have d0:=aq aa 0 rfl;have d3:=aq aa 3 rfl;have e2:=ca hC (aq aa 3 rfl) 2 [] rfl;have e4:L 4=false:=hL;have e5:=au hC hL 5 [] rfl
  (
   have f24:=br (V:=L) (b:=b) d0 aS (show(0,24,λL=>bif L 4 then .undef else .own 0)∈T by rw[hT];simp);have f27:=br (V:=L) (b:=b) d3 aS (show(3,27,λL=> .list [ints now])∈T by rw[hT];simp);have g2:more L 4 2=L 2:=rfl;have g4:more L 4 4=true:=rfl;have g5:more L 4 5=L 5:=rfl;have ek:aI (more L 4) (more L 4) T b=put (jz 0 (aI L L T b)) 28 (.own 0):=by
    refine(dM hL cD aS (show(4,28,λL=> .own 0)∈T by rw[hT];simp)).trans ?_;rw[mP (V:=L) (V':=more L 4) (by rw[hb];simp only[cG,cN,nM,nN];rfl) (by rw[hT];simp only[jf,fu,false_implies,implies_true,and_true];and_intros<;>(intro h;first|rfl|exact absurd (hL.symm.trans h) ak|(simp only[e2,e4,e5,g2,g4,g5,cond_true,cond_false];rfl)))]
   rw[ek];try simp only[e2,e4,e5,g2,g4,g5,cond_true,cond_false,bR,bQ,bN]
   try simp only[e2,e4,e5,g2,g4,g5,cond_true,cond_false,cG,cN,dN,put,Nat.reduceEqDiff,if_true,if_false,reduceIte]at f24 f27
   refine aZ.of ?_
   (refine sX (ai @f24 (ai @f27 (ai @Yw @Yv))) ?_;try exact trivial)
   first|exact aO.of_eq rfl|exact⟨by assumption,aO.of_eq rfl⟩|exact⟨ag,ag,aO.of_eq rfl⟩|exact⟨ak,aO.of_eq rfl⟩|exact⟨_,rfl,rfl,aO.of_eq rfl⟩|exact⟨wk ag ag,aO.of_eq rfl⟩|(refine⟨?_, ?_⟩<;>first|exact aO.of_eq rfl|omega|rfl)|skip)
 |5,af,hL,aa=>
  cases af;have d4:=aq aa 4 rfl;have e2:=ca hC (aq aa 4 rfl) 2 [] rfl;have e4:=aq aa 4 rfl;have e5:L 5=false:=hL;have hX:=an d4 (an e2 (an e4 (an e5 hL)));exact aA
 |k + 6,af,hL,aa=>simp at af
structure SW (F:List (Int×Int))(T:List Int)(mo:Int)(C:List (List ByteArray))(f pl at_:Nat)(sum:Int)(n now:List Int):Prop where
 hT:xh T
 hC:vD F.length C
 kY:0<=mo/\mo<=2
 hF:1<=F.length/\F.length<=3
 hn:oB mo n
 hl:now.length=F.length
 hp:pl<=5
 ha:at_<=F.length
 hf:(5 - pl) * (F.length + 1) + (F.length - at_) + 1<=f
 hs:0<=sum/\sum<=9 * at_
 hb:∀i,i < F.length->0<=nth now i/\nth now i < 10 ^ (pl + if i < at_ then 1 else 0)
abbrev vg (F:List (Int×Int))(T:List Int)(mo:Int)(C:List (List ByteArray))(now:List Int):List Bx:=[.mu (kU F T mo C), .mu [.own 0], .mu [i64 F.length], .mu (gm now), .mu [.a_ 3 0 F.length F.length], .mu [BH]]
theorem zt (F:List (Int×Int))(T:List Int)(mo:Int)(C:List (List ByteArray))(now:List Int):bZ 6 1 (vg F T mo C now)=true:=by
 simp only[vg,bZ,AK];rfl
theorem W_ (F:List (Int×Int))(T:List Int)(mo:Int)(C:List (List ByteArray)):∀(f pl at_:Nat) (sum:Int) (n now:List Int) (A:List (List Int)),SW F T mo C f pl at_ sum n now->A.length + (kr F T mo C f pl at_ sum n now).length<=1000000->
  aT ae 120 [i64 (pl:Nat),i64 (at_:Nat),i64 sum, .agg (ja n), .box 0 0, .box 4 0, .box 1 0, .box 2 0, .box 5 0] (vg F T mo C now) [Ao A] (bw (.aQ []) (vg F T mo C now) [Ao (A++kr F T mo C f pl at_ sum n now)]):=by
 intro f;induction f with
 |zero=>intro pl at_ sum n now A h;have:=h.hf;omega
 |succ f ih=>
  intro pl at_ sum n now A h hlen;obtain⟨hT,hC,kY,hF,hn,hl,hp,ha,hf,hs,hb⟩:=h;have bS:now≠[]:=λe=>by rw[e]at hl;simp at hl;omega
  obtain⟨a,b,c,rfl,DB,kB,rY⟩:=hn.three;refine og ?_ rfl (zt _ _ _ _ _) (cx _);by_cases h5:pl=5
  ·subst h5;have c1:=mr (nr:=1) [.mu [.a_ 3 0 F.length F.length], .mu [BH], .mu [i64 5], .mu [i64 (at_:Nat)], .mu [i64 sum], .mu (ja [a,b,c])] (ZF F T mo now hF.2 hl (.mu (kU F T mo C)) (.mu [.own 0]) (.mu [i64 F.length]) [Ao A] (by simp only[bZ,AK];rfl)) rfl (by simp only[bZ,AK];rfl) (by simp only[bZ,AK];rfl) rfl rfl rfl;by_cases hM:zH F now
   ·rw[decide_eq_true hM]at c1;have hw:kr F T mo C (f + 1) 5 at_ sum [a,b,c] now=[now]:=by simp[kr,hM]
    rw[hw]at hlen⊢;refine cV EO EK EJ EP rfl ay λW0 S0 M0 own β hβ=> ?_;repeat'(first|(show az _ (.region 3 _ true) _ _;refine b_ ?_)|(show az _ (.region 2 _ _) _ _;refine eo 3 rfl (λK1 aK=> ?_);refine av ?_)|(refine aK _ (cC c1 (by show(23:Nat) < 79;decide) rfl rfl rfl rfl ?_);clear aK K1;rintro d aF aL ⟨rfl,rfl,rfl⟩;simp only[bF,Nat.reduceAdd];refine av ?_)|refine aB ?_|refine aC λK hK=> ?_|(refine kA ?_;clear hK K)|(intro hg;try exact aw)|exact fin|apply ai)
    refine cI ?_;refine eI (jZ [(4, .box 0 0),(5, .box 4 0),(6, .box 1 0),(7, .box 2 0),(8, .box 5 0),(9, .box 6 0),(10, .box 7 0),(11, .box 8 0),(12, .box 9 0)] (by simp[put])) ?_;refine WQ (by rfl) W0 S0 M0 own β F T mo C now [a,b,c] A 5 at_ sum (by simp at hlen;omega) ag bS hl ?_;simp only[bU,cond_true,dn,cF,bR,bQ];rw[<-XI];repeat'(first|(show cT _ _ _ _ _;refine av ?_)|refine aB ?_|refine aC λK hK=> ?_|(refine kA ?_;clear hK K)|(intro hg;try exact aw)|exact fin|apply ai)
    all_goals first|exact⟨[],rfl⟩|exact⟨_,rfl⟩|trace_state
   ·rw[decide_eq_false hM]at c1;have hw:kr F T mo C (f + 1) 5 at_ sum [a,b,c] now=[]:=by simp[kr,hM]
    rw[hw,bN];refine cV EO EK EJ EP rfl ay λW0 S0 M0 own β hβ=> ?_;repeat'(first|(show az _ (.region 2 _ _) _ _;refine eo 3 rfl (λK1 aK=> ?_);refine av ?_)|(refine aK _ (cC c1 (by show(23:Nat) < 79;decide) rfl rfl rfl rfl ?_);clear aK K1;rintro d aF aL ⟨rfl,rfl,rfl⟩;simp only[bF,Nat.reduceAdd];refine av ?_)|(show cT _ _ _ _ _;refine av ?_)|refine aB ?_|refine aC λK hK=> ?_|(refine kA ?_;clear hK K)|(intro hg;try exact aw)|exact fin|apply ai)
    all_goals first|exact⟨[],rfl⟩|exact⟨_,rfl⟩|trace_state
  ·have dV:pl < 5:=ag;have hs9:0<=sum.tmod 10/\sum.tmod 10<=9:=by
    rw[Int.tmod_eq_emod_of_nonneg hs.1];omega
   by_cases jF:at_=F.length
   ·have c2:=Oo F T mo C [a,b,c] F.length at_ pl (sum.tmod 10) hT hC hn kY ha hF.2 dV hs9;have jN:=F0 (T:=T) (at_:=at_) (pl:=pl) (f:=sum.tmod 10) hC hn;have hw:kr F T mo C (f + 1) pl at_ sum [a,b,c] now=if(jL T mo C [a,b,c] at_ pl (sum.tmod 10)).2=true then kr F T mo C f (pl + 1) 0 0 (jL T mo C [a,b,c] at_ pl (sum.tmod 10)).1 now else[]:=by simp[kr,h5,jF]
    rw[hw]at hlen⊢;clear hw;generalize jL T mo C [a,b,c] at_ pl (sum.tmod 10)=R at *;obtain⟨a',b',c',hR⟩:∃a' b' c':Int,R.1=[a',b',c']:=by
     match h:R.1,jN.1 with
     |[x,y,z],_=>exact⟨x,y,z,rfl⟩
    cases h2:R.2 with
    |true=>
     simp only[h2,if_true,reduceIte]at hlen⊢;have yT:=jN.2 h2;rw[h2]at c2;rw[hR]at c2 hlen yT⊢;have i1:=ih (pl + 1) 0 0 [a',b',c'] now A ⟨hT,hC,kY,hF,yT,hl,ag,ag,(by
      have:(5 - pl) * (F.length + 1)=(5 - (pl + 1)) * (F.length + 1) + (F.length + 1):=by
       rw[show 5 - pl=(5 - (pl + 1)) + 1 by omega,Nat.add_mul,Nat.one_mul]
      omega),ag,(λi hi=>by
      have:=hb i hi;rw[if_pos ag]at this;simpa using this)⟩ hlen
     have c3:=mr (nr:=1) [.mu [i64 (pl:Nat)], .mu [i64 (at_:Nat)], .mu [i64 sum], .mu (ja [a,b,c]), .mu (ja [a',b',c'])] i1 rfl (zt _ _ _ _ _) (zt _ _ _ _ _) rfl rfl rfl;refine cV EO EK EJ EP rfl ay λW0 S0 M0 own β hβ=> ?_;repeat'(first|(show az _ (.region 7 _ _) _ _;refine eo 4 rfl (λK1 aK=> ?_);refine av ?_)|(refine aK _ (cC c3 (by show(47:Nat) < 79;decide) rfl rfl rfl rfl ?_);clear aK K1;rintro d aF aL ⟨rfl,rfl,rfl⟩;simp only[bF,Nat.reduceAdd];refine av ?_)|(show cT _ _ _ _ _;refine av ?_)|refine aB ?_|refine aC λK hK=> ?_|refine cA (c2) ?_|(refine kA ?_;clear hK K)|(intro hg;try exact aw)|exact fin|apply ai)
     all_goals first|exact⟨[],rfl⟩|exact⟨_,rfl⟩|trace_state
    |false=>
     simp only[h2,cJ,if_false,reduceIte,bN]at hlen⊢;rw[h2]at c2;rw[hR]at c2;refine cV EO EK EJ EP rfl ay λW0 S0 M0 own β hβ=> ?_;repeat'(first|(show cT _ _ _ _ _;refine av ?_)|refine aB ?_|refine aC λK hK=> ?_|refine cA (c2) ?_|(refine kA ?_;clear hK K)|(intro hg;try exact aw)|exact fin|apply ai)
     all_goals first|exact⟨[],rfl⟩|exact⟨_,rfl⟩|trace_state
   ·have DW:at_ < F.length:=ag;have c4:=afJ F T mo C [a,b,c] at_ pl hn;have it:=afK F T mo C [a,b,c] F.length at_ pl hT hC hn kY ha hF.2 dV;have hL:=RZ (T:=T) (mo:=mo) (at_:=at_) (pl:=pl) hC hn 10;have hw:kr F T mo C (f + 1) pl at_ sum [a,b,c] now=(mw T mo C [a,b,c] at_ pl 10).flatMap (λx=>kr F T mo C f pl (at_ + 1) (sum + (x.1:Nat)) x.2 (now.set at_ (10 * nth now at_ + (x.1:Nat)))):=by simp[kr,h5,jF]
    rw[hw]at hlen⊢;clear hw;generalize mw T mo C [a,b,c] at_ pl 10=L at *;have nd:∀l:List Int,l.length=F.length->(gm l).drop (0 + at_ * 1)=i64 (nth l at_)::(gm l).drop (at_ + 1):=λl hl=>by
     rw[jd,Cj,zO (by simp;omega)];simp[nth,show at_ < l.length by omega]
    have jn:=nd now hl;obtain⟨nw,Ba⟩:∃nw:Nat->List Int,nw=λj=>if j=0 then now else now.set at_ (10 * nth now at_ + ((nth L (j - 1)).1:Nat)):=⟨_,rfl⟩
    obtain⟨pt,Dw⟩:∃pt:Nat->List (List Int),pt=λj=>(L.take j).flatMap (λx=>kr F T mo C f pl (at_ + 1) (sum + (x.1:Nat)) x.2 (now.set at_ (10 * nth now at_ + (x.1:Nat)))):=⟨_,rfl⟩;have Zr:nw 0=now:=by rw[Ba];rfl
    have Zq:∀j,nw (j + 1)=now.set at_ (10 * nth now at_ + ((nth L j).1:Nat)):=λj=>by rw[Ba];rfl
    have Da:∀j,(nw j).length=F.length:=λj=>by rw[Ba];simp only;split<;>simp[hl]
    have F_:∀(j:Nat) (v:Int),(nw j).set at_ v=now.set at_ v:=λj v=>by rw[Ba];simp only;split<;>simp
    have YS:pt 0=[]:=by rw[Dw];rfl
    have AA:∀j,j < L.length->pt (j + 1)=pt j++kr F T mo C f pl (at_ + 1) (sum + ((nth L j).1:Nat)) (nth L j).2 (now.set at_ (10 * nth now at_ + ((nth L j).1:Nat))):=λj hj=>by
     rw[Dw];simp only
     rw[List.take_succ_eq_append_getElem hj,List.flatMap_append,show L[j]=nth L j by simp[nth,hj]];simp
    have YR:pt L.length=L.flatMap (λx=>kr F T mo C f pl (at_ + 1) (sum + (x.1:Nat)) x.2 (now.set at_ (10 * nth now at_ + (x.1:Nat)))):=by rw[Dw];simp only;rw[List.take_length]
    have Oh:∀j,j<=L.length->(pt j).length<=(pt L.length).length:=λj hj=>by
     have:∀k,(pt j).length<=(pt (j + k)).length\/L.length < j + k:=λk=>by
      induction k with
      |zero=>exact .inl (cx _)
      |succ k ihk=>
       rcases ihk with h|h
       ·by_cases hk:j + k < L.length
        ·refine .inl ?_;rw[show j + (k + 1)=(j + k) + 1 by omega,AA _ hk,ia];omega
        ·exact .inr ag
       ·exact .inr ag
     rcases this (L.length - j)with h|h
     ·rw[show j + (L.length - j)=L.length by omega]at h;exact h
     ·omega
    rw[<-YR]at hlen⊢;clear Ba Dw;refine cV EO EK EJ EP rfl ay λW0 S0 M0 own β hβ=> ?_;repeat'(first|(show az _ (.rangeFunc _ _ _ _) _ _;refine b_ ?_)|refine bK ?_|((first|refine bL λK hK=> ?_|refine bI ?_|show bC _ _ _ _ _|refine bl (c4) ?_);(refine sX (@jn) ?_;try exact trivial))|(refine kA ?_;clear hK K)|(intro hg;try exact aw)|exact fin|apply ai)
    refine cI ?_;refine SE (gf:=170) (cs:=[.ro (kU F T mo C), .ro (ja [a,b,c]), .ro [i64 (at_:Nat)], .ro [i64 (pl:Nat)]]) (dp:=[.ro (kU F T mo C), .ro (ja [a,b,c]), .ro [i64 (at_:Nat)], .ro [i64 (pl:Nat)]]) (xs:=L.map BV) (by try(refine av ?_;try exact trivial)) (by try(refine av ?_;try exact trivial)) it (λx hx=>by obtain⟨y,_,rfl⟩:=iH.1 hx;rfl) ay
     (bj [(4, .box 0 0),(5, .box 4 0),(6, .box 1 0),(7, .box 2 0),(8, .box 5 0),(9, .box 6 0),(10, .box 7 0),(11, .box 8 0),(12, .box 9 0),(15, .box 10 0)]) (λj=>vg F T mo C (nw j)++[.mu [i64 (pl:Nat)], .mu [i64 (at_:Nat)], .mu [i64 sum], .mu (ja [a,b,c]), .mu [i64 (nth now at_)]]) (λj=>[Ao (A++pt j)]) 11
     (by rw[Zr,YS,bN];exact Gj rfl (by try(refine av ?_;try exact trivial);try simp) ⟨_,rfl⟩ ⟨_,rfl⟩) (CQ rfl) (λ_ _=>rfl) ?_ (by rw[hβ];show 6<=11;decide) ?_ ?_
    ·intro j hj;exact⟨λ_=> .undef,qo _ (by simp only[vg,bR,bQ,bZ,AK];rfl)⟩
    ·intro j x hx w1 S1 M1 l o1 b1 hO;rw[dO,Option.map_eq_some_iff]at hx;obtain⟨y,hy,rfl⟩:=hx;have eu:=(List.getElem?_eq_some_iff.1 hy).1;have pF:nth L j=y:=by simp[nth,hy]
     have GG:=hL y (fM hy);obtain⟨fg,m⟩:=y;obtain⟨a',b',c',rfl,_⟩:=GG.2.three;have hfg:fg < 10:=GG.1;have mV:=hb at_ DW;rw[if_neg (Nat.lt_irrefl _),Nat.add_zero]at mV;have hp4:(10:Int) ^ pl<=10000:=by
      have:pl=0\/pl=1\/pl=2\/pl=3\/pl=4:=ag;rcases this with rfl|rfl|rfl|rfl|rfl<;>decide
     have yL:(10:Int) ^ (pl + 1)=10 * 10 ^ pl:=by rw[Int.pow_succ,Int.mul_comm]
     have j8:10 * nth now at_ + (fg:Nat) < 10 * (10:Int) ^ pl:=ag;obtain⟨v,hv⟩:∃v:Int,v=10 * nth now at_ + (fg:Nat):=⟨_,rfl⟩;have bD:=Ny (nw j) at_ v (by rw[Da];exact DW);rw[F_]at bD;have yK:=AA j eu;rw[pF]at yK;simp only at yK;rw[<-hv]at yK;have Bb:=Zq j;rw[pF]at Bb;simp only at Bb;rw[<-hv]at Bb;have hle:=Oh (j + 1) eu;rw[yK,ia]at hle;have i1:=ih pl (at_ + 1) (sum + (fg:Nat)) [a',b',c'] (now.set at_ v) (A++pt j) ⟨hT,hC,kY,hF,GG.2,by simp[hl],hp,ag,ag,ag,(λi hi=>by
      by_cases Qf:i=at_
      ·subst Qf;have e1:nth (now.set i v) i=v:=by simp[nth,hl,hi]
       rw[e1,if_pos ag,yL,hv];omega
      ·have e1:nth (now.set at_ v) i=nth now i:=by simp[nth,gz (Ne.symm Qf)]
       have:=hb i hi;rw[e1];by_cases aU:i < at_
       ·rw[if_pos aU]at this;rw[if_pos ag];exact this
       ·rw[if_neg aU]at this;rw[if_neg ag];exact this)⟩ (by rw[ia];omega)
     rw[List.append_assoc,<-yK]at i1;have c5:=mr (nr:=1) [.mu [i64 (pl:Nat)], .mu [i64 (at_:Nat)], .mu [i64 sum], .mu (ja [a,b,c]), .mu [i64 (nth now at_)], .mu (ja [a',b',c'])] i1 rfl (zt _ _ _ _ _) (zt _ _ _ _ _) rfl rfl rfl;show az _ _ _ ⟨79,pD [57,58] _ _,_,_⟩;simp only[pD,Bb];clear Bb yK hle i1 hlen ih hb hf Oh AA F_ hL it
     (refine sX (ai @bD (hv).symm) ?_;try exact trivial)
     repeat'(first|(show az _ (.region 13 _ _) _ _;refine eo 8 rfl (λK1 aK=> ?_);(refine sX (ai @bD (hv).symm) ?_;try exact trivial))|(refine aK _ (cC c5 (by show(74:Nat) < 79;decide) rfl rfl rfl rfl ?_);clear aK K1;rintro d aF aL ⟨rfl,rfl,rfl⟩;simp only[bF,Nat.reduceAdd];(refine sX (ai @bD (hv).symm) ?_;try exact trivial))|refine bK ?_|((first|refine bL λK hK=> ?_|refine bI ?_|show bC _ _ _ _ _);(refine sX (ai @bD (hv).symm) ?_;try exact trivial))|(refine kA ?_;clear hK K)|(intro hg;try exact aw)|exact fin|apply ai)
     ·rw[Da];omega
     ·simp only[CW];exact⟨rfl,λ_=> .inl rfl,⟨_,rfl⟩,⟨[],rfl⟩⟩
    ·have bD:=Ny (nw L.length) at_ (nth now at_) (by rw[Da];exact DW);rw[F_,show now.set at_ (nth now at_)=now by
      refine Tb λi=> ?_;by_cases hi:at_=i
      ·subst hi;simp[nth,hl,DW]
      ·rw[gz hi]]at bD
     rw[show(L.map BV).length=L.length by simp];have A7:0 + at_ * 1 + 1<=(nw L.length).length:=by rw[Da];omega
     show az _ _ _ _;refine mA λK hK=> ?_
     (refine sX (ai @bD (ai @A7 (@true_and))) ?_;try exact trivial)
     refine⟨ag, ?_⟩;refine hK _ ?_;clear hK K;show cT _ _ _ _ _
     (refine sX (ai @bD (ai @A7 (@true_and))) ?_;try exact trivial)
     exact⟨rfl,⟨_,rfl⟩,⟨[],rfl⟩⟩
end Go.Proofs.YtopobgihpdaggaaGreatDoor
