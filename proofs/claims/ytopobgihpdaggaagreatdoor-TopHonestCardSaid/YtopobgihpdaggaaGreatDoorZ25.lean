import Derived.Test.YtopobgihpdaggaaGreatDoorZ24
set_option linter.unusedVariables false
set_option linter.unusedSimpArgs false
open And renaming intro->ai
open Bool renaming eq_false_or_eq_true->bO,false_eq_true->cJ
open List renaming append_nil->bN,cons_append->bR,foldr->bU,forall_mem_cons->jf,headD_cons->iy,mem_append->gY,mem_map->iH,mem_map_of_mem->gP,nil_append->bQ,not_mem_nil->fu
open Nat renaming le_refl->cx
open Option renaming getD_some->fV,map_some->eW
open Go.Proofs.Tryz renaming f260->IM,prog->ae
open Go.Proofs.Tryz
namespace Go.Proofs.YtopobgihpdaggaaGreatDoor
set_option maxRecDepth 100000
set_option maxHeartbeats 4000000
open Go.Ab
attribute[local irreducible] az dI dR ax aT IA fP aZ gZ
abbrev zu (x:cg×Int):List D:=[i64 x.1.hl,i64 x.1.hh,i64 x.1.gl,i64 x.1.gh,i64 x.1.dr,i64 x.1.rd,i64 x.1.ea,i64 x.1.sl, .list (x.1.ck.map k8),i64 x.2]
theorem X_ {ops:Array Oper}(cj:ops=dK Tryz.f250 3)(w0:World)(S0:Addr->Prop)(eG:MM)(own:Nat->Prop)(β:List Nat)(s:bh)(n cap ns na ks:Nat)(cost x0 x1:Int)(cs:List D)(r:dY)(a0 a1 lo hi a4 a5:Int)(hk:ks < s.bf.length)(fY:s.bf.length<=100)(ck:ax ae 252 [iP (nth s.bf ks).1,pC r] (.aQ [.agg [i64 a0,i64 a1,i64 lo,i64 hi,i64 a4,i64 a5],i64 0]))
  {Q:Exit->St->Prop}{T:dX}(hQ:Q .normal ⟨42,((T.foldr (λe f=>put f e.2.1 (e.2.2 λ_=>true)) (bj [(0, .box 3 0),(1, .box 4 0),(2, .box 5 0),(3, .box 6 0),(4, .bool false)]))),(λ(L:Nat->Bool)=>[.mu (aP s n cap cost), .mp [], .mu cs, .mu [.box 0 0], .mu [i64 (ks:Nat)], .mu (f_ r), .mu [i64 x0,i64 x1]]++bif L 14 then[.mu (bif L 15 then[i64 a0,i64 a1,i64 lo,i64 hi,i64 a4,i64 a5]else[i64 0,i64 0,i64 0,i64 0,i64 0,i64 0])]else[]) (λ_=>true),(λ(L:Nat->Bool)=>[aG ns,aH na]) (λ_=>true)⟩)(hT:T=[(0,19,λL=> .box 0 0),(1,20,λL=> .box 0 0),(2,21,λL=> .box 0 0),(3,22,λL=> .box 0 0),(4,23,λL=> .list (s.bf.map k9)),(5,24,λL=>i64 (ks:Nat)),(6,25,λL=> .ro (zu (nth s.bf ks))),(7,26,λL=> .ro (zu (nth s.bf ks))),(8,27,λL=>iP (nth s.bf ks).1),(9,28,λL=>pC r),(10,29,λL=> .aQ [.agg [i64 a0,i64 a1,i64 lo,i64 hi,i64 a4,i64 a5],i64 0]),(11,18,λL=> .aQ [.agg [i64 a0,i64 a1,i64 lo,i64 hi,i64 a4,i64 a5],i64 0]),(12,30,λL=> .agg [i64 a0,i64 a1,i64 lo,i64 hi,i64 a4,i64 a5]),(13,31,λL=>i64 0),(14,5,λL=> .box 7 0),(16,6,λL=>i64 0)]:=by rfl):
  az ⟨ae,w0,S0,eG,none,own,β⟩ (.region 3 ops true) Q ⟨42,bj [(0, .box 3 0),(1, .box 4 0),(2, .box 5 0),(3, .box 6 0),(4, .bool false)],(λ(L:Nat->Bool)=>[.mu (aP s n cap cost), .mp [], .mu cs, .mu [.box 0 0], .mu [i64 (ks:Nat)], .mu (f_ r), .mu [i64 x0,i64 x1]]++bif L 14 then[.mu (bif L 15 then[i64 a0,i64 a1,i64 lo,i64 hi,i64 a4,i64 a5]else[i64 0,i64 0,i64 0,i64 0,i64 0,i64 0])]else[]) (λ_=>false),(λ(L:Nat->Bool)=>[aG ns,aH na]) (λ_=>false)⟩:=by
 simp only[dK,eW,fV,Tryz.f250,fB,Nat.reduceBEq,cJ,if_false,if_true,bQ,bN,bR,iy,reduceIte,eq_self]at cj;subst cj;have ba:T.map (·.1)=[0,1,2,3,4,5,6,7,8,9,10,11,12,13,14,16]:=by rw[hT];rfl
 have cQ:T.map (·.2.1)=[19,20,21,22,23,24,25,26,27,28,29,18,30,31,5,6]:=by rw[hT];rfl
 have cD:(T.map (·.1)).Nodup:=by rw[ba];decide
 have aS:(T.map (·.2.1)).Nodup:=by rw[cQ];decide
 obtain⟨b,hb⟩:∃b:Nat->D,b=bj [(0, .box 3 0),(1, .box 4 0),(2, .box 5 0),(3, .box 6 0),(4, .bool false)]:=⟨_,rfl⟩;rw[<-hb];have h0:aI (λ_=>false) (λ_=>false) T b=b:=gR (λ_ _=>rfl);rw[<-h0];refine la (c:=⟨ae,w0,S0,eG,none,own,β⟩) Tryz.ty.mixed rfl aj 42 T b (λL=>[.mu (aP s n cap cost), .mp [], .mu cs, .mu [.box 0 0], .mu [i64 (ks:Nat)], .mu (f_ r), .mu [i64 x0,i64 x1]]++bif L 14 then[.mu (bif L 15 then[i64 a0,i64 a1,i64 lo,i64 hi,i64 a4,i64 a5]else[i64 0,i64 0,i64 0,i64 0,i64 0,i64 0])]else[]) (λL=>[aG ns,aH na]) (λL k op hC af hL aa=> ?_) (λL hL=> ?_);rotate_left
 ·have bu:∀x∈T.map (·.1),x < 17:=by rw[ba];decide
  rw[gS (λe he=>hL _ (bu _ (gP (f:=(·.1)) he)))];rw[hT,hb];have aY:L 14=true:=hL 14 ak;have cz:L 15=true:=hL 15 ak;simp only[bU,aY,cz];simp only[hT,bU,cond_true]at hQ;exact hQ
 match k,af,hL,aa with
 |0,af,hL,aa=>
  cases af;have cz:=au hC hL 15 [] rfl;clear hC aa;rcases bO (L 14)with aY|aY;all_goals(have hX:=an cz (an aY hL);exact aA)
 |1,af,hL,aa=>
  cases af;have d0:=aq aa 0 rfl;have cz:=au hC hL 15 [] rfl;clear hC aa;rcases bO (L 14)with aY|aY;all_goals(have hX:=an d0 (an cz (an aY hL));exact aA)
 |2,af,hL,aa=>
  cases af;have d1:=aq aa 1 rfl;have cz:=au hC hL 15 [] rfl;clear hC aa;rcases bO (L 14)with aY|aY;all_goals(have hX:=an d1 (an cz (an aY hL));exact aA)
 |3,af,hL,aa=>
  cases af;have d2:=aq aa 2 rfl;have cz:=au hC hL 15 [] rfl;clear hC aa;rcases bO (L 14)with aY|aY;all_goals(have hX:=an d2 (an cz (an aY hL));exact aA)
 |4,af,hL,aa=>
  cases af;have d3:=aq aa 3 rfl;have cz:=au hC hL 15 [] rfl;clear hC aa;rcases bO (L 14)with aY|aY;all_goals(have hX:=an d3 (an cz (an aY hL));exact aA)
 |5,af,hL,aa=>
  cases af;have cz:=au hC hL 15 [] rfl;clear hC aa;rcases bO (L 14)with aY|aY;all_goals(have hX:=an cz (an aY hL);exact aA)
 |6,af,hL,aa=>
  cases af;have d4:=aq aa 4 rfl;have d5:=aq aa 5 rfl;have cz:=au hC hL 15 [] rfl;clear hC aa;rcases bO (L 14)with aY|aY;all_goals(have hX:=an d4 (an d5 (an cz (an aY hL)));exact aA)
 |7,af,hL,aa=>
  cases af;have d6:=aq aa 6 rfl;have cz:=au hC hL 15 [] rfl;clear hC aa;rcases bO (L 14)with aY|aY;all_goals(have hX:=an d6 (an cz (an aY hL));exact aA)
 |8,af,hL,aa=>
  cases af;have d7:=aq aa 7 rfl;have cz:=au hC hL 15 [] rfl;clear hC aa;rcases bO (L 14)with aY|aY;all_goals(have hX:=an d7 (an cz (an aY hL));exact aA)
 |9,af,hL,aa=>
  cases af;have cz:=au hC hL 15 [] rfl;clear hC aa;rcases bO (L 14)with aY|aY;all_goals(have hX:=an cz (an aY hL);exact aA)
 |10,af,hL,aa=>
  cases af;have d8:=aq aa 8 rfl;have d9:=aq aa 9 rfl;have cz:=au hC hL 15 [] rfl;clear hC aa;rcases bO (L 14)with aY|aY;all_goals(
   have f27:=br (V:=L) (b:=b) d8 aS (show(8,27,λL=>iP (nth s.bf ks).1)∈T by rw[hT];simp);have f28:=br (V:=L) (b:=b) d9 aS (show(9,28,λL=>pC r)∈T by rw[hT];simp);have g14:more L 10 14=L 14:=rfl;have g15:more L 10 15=L 15:=rfl;have ek:aI (more L 10) (more L 10) T b=put (aI L L T b) 29 (.aQ [.agg [i64 a0,i64 a1,i64 lo,i64 hi,i64 a4,i64 a5],i64 0]):=(dM hL cD aS (show(10,29,λL=> .aQ [.agg [i64 a0,i64 a1,i64 lo,i64 hi,i64 a4,i64 a5],i64 0])∈T by rw[hT];simp)).trans (by rw[<-eL (V:=L) (V':=more L 10) (by rw[hT];simp[more])];try rfl);rw[ek];try simp only[aY,cz,g14,g15,cond_true,cond_false,bR,bQ,bN]
   try simp only[aY,cz,g14,g15,cond_true,cond_false,cG,cN,dN,put,Nat.reduceEqDiff,if_true,if_false,reduceIte]at f27 f28
   refine aZ.rE rfl ?_
   (refine sX (ai @f27 @f28) ?_;try exact trivial)
   refine bl ck ?_
   (refine av ?_;try exact trivial)
   exact aO.of_eq rfl)
 |11,af,hL,aa=>
  cases af;have d10:=aq aa 10 rfl;have cz:=au hC hL 15 [] rfl;clear hC aa;rcases bO (L 14)with aY|aY;all_goals(have hX:=an d10 (an cz (an aY hL));exact aA)
 |12,af,hL,aa=>
  cases af;have d11:=aq aa 11 rfl;have cz:=au hC hL 15 [] rfl;clear hC aa;rcases bO (L 14)with aY|aY;all_goals(have hX:=an d11 (an cz (an aY hL));exact aA)
 |13,af,hL,aa=>
  cases af;have d11:=aq aa 11 rfl;have GA:=λ(h:L 15=true)=>ca hC h 14 [] rfl;clear hC aa;revert GA;rcases bO (L 14)with aY|aY<;>rcases bO (L 15)with cz|cz<;>intro GA<;>first|(have:=GA cz;rw[aY]at this;exact absurd this ak)|skip
  all_goals(have hX:=an d11 (an aY (an cz hL));exact aA)
 |14,af,hL,aa=>
  cases af;have aY:L 14=false:=hL;have cz:=au hC hL 15 [] rfl;have hX:=an aY (an cz hL);exact aA
 |15,af,hL,aa=>
  cases af;have d14:=aq aa 14 rfl;have d12:=aq aa 12 rfl;have aY:=aq aa 14 rfl;have cz:L 15=false:=hL;have hX:=an d14 (an d12 (an aY (an cz hL)));exact aA
 |16,af,hL,aa=>
  cases af;have d13:=aq aa 13 rfl;have aY:=ca hC (aq aa 15 rfl) 14 [] rfl;have cz:=aq aa 15 rfl;have hX:=an d13 (an aY (an cz hL));exact aA
 |k + 17,af,hL,aa=>simp at af
theorem X' (s:bh)(n cap ns na ks:Nat)(cost x0 x1:Int)(cs U:List D)(W R:Nat)(sl:Int)(S:List dJ)(r:dY)(a0 a1 lo hi hm a4 a5:Int)(bD:s.bf.length<=100)(hk:ks < s.bf.length)(iC:0<=s.dy/\s.dy<=100)(hr:0<=r.day/\r.day<=s.dy - 1)(aE:∀d∈cs,Names 0 0 d)(Hg:hm=min hi 99999)(uZ: -999999<=lo/\lo<=999999)(Qg: -999999<=hi/\hi<=999999)(ck:ax ae 252 [iP (nth s.bf ks).1,pC r] (.aQ [.agg [i64 a0,i64 a1,i64 lo,i64 hi,i64 a4,i64 a5],i64 0])):
  aT ae 250 [.box 3 0, .box 4 0, .box 5 0, .box 6 0] [.mu (aP s n cap cost), .mp [], .mu cs, .mu [.box 0 0], .mu [i64 (ks:Nat)], .mu (f_ r), .mu [i64 x0,i64 x1]] [aG ns,aH na] (bw (.bool true) [.mu (aP s n cap cost), .mp [], .mu cs, .mu [.box 0 0], .mu [i64 (ks:Nat)], .mu (f_ r), .mu [i64 lo,i64 hm]] [aG ns,aH na]):=by
 have dC:∀nb nr,db nb nr cs=true:=λnb nr=>iz λd hd=>jA (aE d hd);have c1:=Px s (.a_ 2 0 n cap) (.own 0) (.bz 1) cost (.own 1) bD (ks:Nat) (.mp []:: .mu cs:: .mu [.box 0 0]:: .mu [i64 (ks:Nat)]:: .mu (f_ r):: .mu [i64 x0,i64 x1]::[]) [aG ns,aH na];rw[decide_eq_true ag]at c1;have c2:=Gv s (.a_ 2 0 n cap) (.own 0) (.bz 1) cost (.own 1) iC r.day (.mp []:: .mu cs:: .mu [.box 0 0]:: .mu [i64 (ks:Nat)]:: .mu (f_ r):: .mu [i64 x0,i64 x1]::[]) [aG ns,aH na];rw[decide_eq_true hr]at c2;refine og ?_ rfl (by simp only[bZ,dC];rfl) (cx _);refine cV func250 ntmps250 results250 call250 rfl ay λW0 S0 M0 own β hβ=> ?_;repeat'(first|(show az _ (.region 3 _ true) _ _;refine b_ ?_)|(show az _ (.region 1 _ _) _ _;refine SD 2 5 (λN s1=>mz _ N (.func 251) [.tmp 7, .tmp 8] (some 9) s1) (λ_ _ h=>aZ.sW h) (λN s1=>mz _ N (.func 105) [.tmp 12, .tmp 14] (some 15) s1) (λ_ _ h=>aZ.rF h) rfl rfl rfl (λK1 aK=> ?_);refine av ?_)|(refine aK _ (cC c1 (by show(9:Nat) < 42;decide) rfl rfl rfl rfl ?_);clear aK K1;rintro d aF aL ⟨rfl,rfl,rfl⟩;intro K2 n5;simp only[bF,Nat.reduceAdd];refine av ?_)|(refine n5 _ (vk rfl rfl ?_);clear n5 K2;refine cC c2 (by show(15:Nat) < 42;decide) rfl rfl rfl rfl ?_;rintro d aF aL ⟨rfl,rfl,rfl⟩;simp only[bF,Nat.reduceAdd];refine av ?_)|refine aB ?_|refine aC λK hK=> ?_|(refine kA ?_;clear hK K)|(intro hg;try exact aw)|exact fin|apply ai)
 refine cI ?_;refine eI (jZ [(0, .box 3 0),(1, .box 4 0),(2, .box 5 0),(3, .box 6 0),(4, .bool false)] (by simp[put])) ?_;refine X_ (by rfl) W0 S0 M0 own β s n cap ns na ks cost x0 x1 cs r a0 a1 lo hi a4 a5 hk bD ck ?_;simp only[bU,cond_true,dn,cF,bR,bQ];repeat'(first|(show cT _ _ _ _ _;refine av ?_)|refine aB ?_|refine aC λK hK=> ?_|(refine kA ?_;clear hK K)|(intro hg;try exact aw)|exact fin|apply ai)
 all_goals first|exact⟨[],rfl⟩|(subst Hg;exact⟨_,rfl⟩)
theorem X9 (s:bh)(n cap ns na ks:Nat)(cost x0 x1:Int)(cs U:List D)(W R:Nat)(sl:Int)(S:List dJ)(r:dY)(a0 a1 lo hi hm a4 a5:Int)(bD:s.bf.length<=100)(hk:ks < s.bf.length)(iC:0<=s.dy/\s.dy<=100)(hr:0<=r.day/\r.day<=s.dy - 1)(aE:∀d∈cs,Names 0 0 d)(hd:cs.drop (r.day.toNat * 4)=i64 (W:Nat)::i64 (R:Nat)::i64 sl:: .list (S.map ft)::U)(bE:cs.length=cap * 4)(hn:n<=cap)(eh:n<=100)(mf:r.day < n)(hS:S.length < 12):
  aT ae 253 [.box 3 0, .box 5 0] [.mu (aP s n cap cost), .mp [], .mu cs, .mu [.box 0 0], .mu [i64 (ks:Nat)], .mu (f_ r), .mu [i64 lo,i64 hm]] [aG ns,aH na] (bw (.bool true) [.mu (aP s n cap cost), .mp [], .mu cs, .mu [.box 0 0], .mu [i64 (ks:Nat)], .mu (f_ r), .mu [i64 lo,i64 hm]] [aG ns,aH na]):=by
 have c1:=NR s n cap cost r.day cs U _ _ _ S [aG ns,aH na] hd bE hn eh ⟨hr.1,mf⟩ (.mu [.box 0 0]:: .mu [i64 (ks:Nat)]:: .mu (f_ r):: .mu [i64 lo,i64 hm]::[]);rw[decide_eq_true ag]at c1;refine cV func253 ntmps253 results253 call253 rfl ay λW0 S0 M0 own β hβ=> ?_;repeat'(first|(show az _ (.region 1 _ _) _ _;refine eo 3 rfl (λK1 aK=> ?_);refine av ?_)|(refine aK _ (cC c1 (by simp[bp]) rfl rfl rfl rfl ?_);clear aK K1;rintro d aF aL ⟨rfl,rfl,rfl⟩;simp only[bF,Nat.reduceAdd];refine av ?_)|(show cT _ _ _ _ _;refine av ?_)|refine aB ?_|refine aC λK hK=> ?_|(refine kA ?_;clear hK K)|(intro hg;try exact aw)|exact fin|apply ai)
theorem X7 {ops:Array Oper}(cj:ops=dK Tryz.f255 1)(w0:World)(S0:Addr->Prop)(eG:MM)(own:Nat->Prop)(β:List Nat)(s:bh)(n cap ns na ks:Nat)(cost:Int)(cs:List D)(r:dY)(lo hm:Int)(hk:ks < s.bf.length)(fY:s.bf.length<=100)(uZ:lo<=99999)(hc:aT ae 256 [.box 0 0,i64 r.day,i64 (nth s.bf ks).2, .agg [i64 lo,i64 hm]] [.mu (aP s n cap cost), .mp [], .mu cs, .mu [.box 0 0], .mu [i64 (ks:Nat)], .mu (f_ r), .mu [i64 lo,i64 hm]] [aG ns,aH na] (bw (.bool true) [.mu (aP s n cap cost), .mp [], .mu cs, .mu [.box 0 0], .mu [i64 (ks:Nat)], .mu (f_ r), .mu [i64 lo,i64 hm]] [aG ns,aH na]))
  {Q:Exit->St->Prop}{T:dX}(hQ:Q .normal ⟨24,((T.foldr (λe f=>put f e.2.1 (e.2.2 λ_=>true)) (bj [(0, .box 6 0),(1, .box 3 0),(2, .box 5 0),(3, .box 4 0),(4, .bool false)]))),(λ(L:Nat->Bool)=>[.mu (aP s n cap cost), .mp [], .mu cs, .mu [.box 0 0], .mu [i64 (ks:Nat)], .mu (f_ r), .mu [i64 lo,i64 hm]]) (λ_=>true),(λ(L:Nat->Bool)=>[aG ns,aH na]) (λ_=>true)⟩)(hT:T=[(0,5,λL=> .box 6 0),(1,6,λL=>i64 lo),(2,7,λL=> .bool true),(3,8,λL=> .bool true),(4,9,λL=> .box 0 0),(5,10,λL=> .box 5 0),(6,11,λL=>i64 r.day),(7,12,λL=> .box 0 0),(8,13,λL=> .box 0 0),(9,14,λL=> .box 0 0),(10,15,λL=> .box 0 0),(11,16,λL=> .list (s.bf.map k9)),(12,17,λL=>i64 (ks:Nat)),(13,18,λL=> .ro (zu (nth s.bf ks))),(14,19,λL=> .ro [i64 (nth s.bf ks).2]),(15,20,λL=>i64 (nth s.bf ks).2),(16,21,λL=> .agg [i64 lo,i64 hm]),(17,22,λL=> .bool true),(18,23,λL=> .bool true),(19,4,λL=> .bool true)]:=by rfl):
  az ⟨ae,w0,S0,eG,none,own,β⟩ (.region 1 ops true) Q ⟨24,bj [(0, .box 6 0),(1, .box 3 0),(2, .box 5 0),(3, .box 4 0),(4, .bool false)],(λ(L:Nat->Bool)=>[.mu (aP s n cap cost), .mp [], .mu cs, .mu [.box 0 0], .mu [i64 (ks:Nat)], .mu (f_ r), .mu [i64 lo,i64 hm]]) (λ_=>false),(λ(L:Nat->Bool)=>[aG ns,aH na]) (λ_=>false)⟩:=by
 simp only[dK,eW,fV,Tryz.f255,fB,Nat.reduceBEq,cJ,if_false,if_true,bQ,bN,bR,iy,reduceIte,eq_self]at cj;subst cj;have ba:T.map (·.1)=[0,1,2,3,4,5,6,7,8,9,10,11,12,13,14,15,16,17,18,19]:=by rw[hT];rfl
 have cQ:T.map (·.2.1)=[5,6,7,8,9,10,11,12,13,14,15,16,17,18,19,20,21,22,23,4]:=by rw[hT];rfl
 have cD:(T.map (·.1)).Nodup:=by rw[ba];decide
 have aS:(T.map (·.2.1)).Nodup:=by rw[cQ];decide
 obtain⟨b,hb⟩:∃b:Nat->D,b=bj [(0, .box 6 0),(1, .box 3 0),(2, .box 5 0),(3, .box 4 0),(4, .bool false)]:=⟨_,rfl⟩;rw[<-hb];have h0:aI (λ_=>false) (λ_=>false) T b=b:=gR (λ_ _=>rfl);rw[<-h0];refine Ey (c:=⟨ae,w0,S0,eG,none,own,β⟩) Tryz.ty.mixed rfl aj 24 T b (λL=>[.mu (aP s n cap cost), .mp [], .mu cs, .mu [.box 0 0], .mu [i64 (ks:Nat)], .mu (f_ r), .mu [i64 lo,i64 hm]]) (λL=>[aG ns,aH na]) (λL k op hC af hL aa=> ?_) (λL hL=> ?_);rotate_left
 ·have bu:∀x∈T.map (·.1),x < 20:=by rw[ba];decide
  rw[gS (λe he=>hL _ (bu _ (gP (f:=(·.1)) he)))];rw[hT,hb];simp only[bU,eq_self];simp only[hT,bU,cond_true]at hQ;exact hQ
 match k,af,hL,aa with
 |0,af,hL,aa=>
  cases af;have hX:=hL;exact aA
 |1,af,hL,aa=>
  cases af;have d0:=aq aa 0 rfl;have hX:=an d0 hL;exact aA
 |2,af,hL,aa=>
  cases af;have d1:=aq aa 1 rfl
  (
   have f6:=br (V:=L) (b:=b) d1 aS (show(1,6,λL=>i64 lo)∈T by rw[hT];simp);have ek:aI (more L 2) (more L 2) T b=put (aI L L T b) 7 (.bool true):=(dM hL cD aS (show(2,7,λL=> .bool true)∈T by rw[hT];simp)).trans (by rw[<-eL (V:=L) (V':=more L 2) (by rw[hT];simp[more])];try rfl);rw[ek];try simp only[eq_self,cond_true,cond_false,bR,bQ,bN]
   try simp only[eq_self,cond_true,cond_false,cG,cN,dN,put,Nat.reduceEqDiff,if_true,if_false,reduceIte]at f6
   refine ee.j4 rfl ?_;refine aZ.of ?_
   (refine sX @f6 ?_;try exact trivial)
   rw[decide_eq_true uZ];exact aO.of_eq rfl)
 |3,af,hL,aa=>
  cases af;have d2:=aq aa 2 rfl;have hX:=an d2 hL;exact aA
 |4,af,hL,aa=>
  cases af;have d3:=aq aa 3 rfl;have hX:=an d3 hL;exact aA
 |5,af,hL,aa=>
  cases af;have d3:=aq aa 3 rfl;have hX:=an d3 hL;exact aA
 |6,af,hL,aa=>
  cases af;have d3:=aq aa 3 rfl;have d5:=aq aa 5 rfl;have hX:=an d3 (an d5 hL);exact aA
 |7,af,hL,aa=>
  cases af;have d3:=aq aa 3 rfl;have hX:=an d3 hL;exact aA
 |8,af,hL,aa=>
  cases af;have d3:=aq aa 3 rfl;have d7:=aq aa 7 rfl;have hX:=an d3 (an d7 hL);exact aA
 |9,af,hL,aa=>
  cases af;have d3:=aq aa 3 rfl;have d8:=aq aa 8 rfl;have hX:=an d3 (an d8 hL);exact aA
 |10,af,hL,aa=>
  cases af;have d3:=aq aa 3 rfl;have d9:=aq aa 9 rfl;have hX:=an d3 (an d9 hL);exact aA
 |11,af,hL,aa=>
  cases af;have d3:=aq aa 3 rfl;have d10:=aq aa 10 rfl;have hX:=an d3 (an d10 hL);exact aA
 |12,af,hL,aa=>
  cases af;have d3:=aq aa 3 rfl;have hX:=an d3 hL;exact aA
 |13,af,hL,aa=>
  cases af;have d3:=aq aa 3 rfl;have d11:=aq aa 11 rfl;have d12:=aq aa 12 rfl;have hX:=an d3 (an d11 (an d12 hL));exact aA
 |14,af,hL,aa=>
  cases af;have d3:=aq aa 3 rfl;have d13:=aq aa 13 rfl;have hX:=an d3 (an d13 hL);exact aA
 |15,af,hL,aa=>
  cases af;have d3:=aq aa 3 rfl;have d14:=aq aa 14 rfl;have hX:=an d3 (an d14 hL);exact aA
 |16,af,hL,aa=>
  cases af;have d3:=aq aa 3 rfl;have hX:=an d3 hL;exact aA
 |17,af,hL,aa=>
  cases af;have d3:=aq aa 3 rfl;have d4:=aq aa 4 rfl;have d6:=aq aa 6 rfl;have d15:=aq aa 15 rfl;have d16:=aq aa 16 rfl
  (
   have f8:=br (V:=L) (b:=b) d3 aS (show(3,8,λL=> .bool true)∈T by rw[hT];simp);have f9:=br (V:=L) (b:=b) d4 aS (show(4,9,λL=> .box 0 0)∈T by rw[hT];simp);have f11:=br (V:=L) (b:=b) d6 aS (show(6,11,λL=>i64 r.day)∈T by rw[hT];simp);have f20:=br (V:=L) (b:=b) d15 aS (show(15,20,λL=>i64 (nth s.bf ks).2)∈T by rw[hT];simp);have f21:=br (V:=L) (b:=b) d16 aS (show(16,21,λL=> .agg [i64 lo,i64 hm])∈T by rw[hT];simp);have ek:aI (more L 17) (more L 17) T b=put (aI L L T b) 22 (.bool true):=(dM hL cD aS (show(17,22,λL=> .bool true)∈T by rw[hT];simp)).trans (by rw[<-eL (V:=L) (V':=more L 17) (by rw[hT];simp[more])];try rfl);rw[ek];try simp only[eq_self,cond_true,cond_false,bR,bQ,bN]
   try simp only[eq_self,cond_true,cond_false,cG,cN,dN,put,Nat.reduceEqDiff,if_true,if_false,reduceIte]at f8 f9 f11 f20 f21
   refine ee.on (t:=8) rfl rfl f8 ?_;refine aZ.rF (cC hc (by show(22:Nat) < 24;decide) rfl (by show[aI L L T b 9,aI L L T b 11,aI L L T b 20,aI L L T b 21]=_;rw[f9,f11,f20,f21]) rfl rfl ?_);rintro d aF aL ⟨rfl,rfl,rfl⟩;rw[tH (rv (by rw[hb];exact sM rfl) (by rw[hT];simp only[jf,fu,false_implies,implies_true,and_true];(repeat' apply ai)<;>exact λ_=>rfl))];exact aO.of_eq rfl)
 |18,af,hL,aa=>
  cases af;have d3:=aq aa 3 rfl;have d17:=aq aa 17 rfl;have hX:=an d3 (an d17 hL);exact aA
 |19,af,hL,aa=>
  cases af;have d18:=aq aa 18 rfl;have hX:=an d18 hL;exact aA
 |k + 20,af,hL,aa=>simp at af
theorem X8 (s:bh)(n cap ns na ks:Nat)(cost x0 x1:Int)(cs U:List D)(W R:Nat)(sl:Int)(S:List dJ)(r:dY)(a0 a1 lo hi hm a4 a5:Int)(bD:s.bf.length<=100)(hk:ks < s.bf.length)(iC:0<=s.dy/\s.dy<=100)(hr:0<=r.day/\r.day<=s.dy - 1)(aE:∀d∈cs,Names 0 0 d)(uZ:lo<=99999)(hc:aT ae 256 [.box 0 0,i64 r.day,i64 (nth s.bf ks).2, .agg [i64 lo,i64 hm]] [.mu (aP s n cap cost), .mp [], .mu cs, .mu [.box 0 0], .mu [i64 (ks:Nat)], .mu (f_ r), .mu [i64 lo,i64 hm]] [aG ns,aH na] (bw (.bool true) [.mu (aP s n cap cost), .mp [], .mu cs, .mu [.box 0 0], .mu [i64 (ks:Nat)], .mu (f_ r), .mu [i64 lo,i64 hm]] [aG ns,aH na])):
  aT ae 255 [.box 6 0, .box 3 0, .box 5 0, .box 4 0] [.mu (aP s n cap cost), .mp [], .mu cs, .mu [.box 0 0], .mu [i64 (ks:Nat)], .mu (f_ r), .mu [i64 lo,i64 hm]] [aG ns,aH na] (bw (.bool true) [.mu (aP s n cap cost), .mp [], .mu cs, .mu [.box 0 0], .mu [i64 (ks:Nat)], .mu (f_ r), .mu [i64 lo,i64 hm]] [aG ns,aH na]):=by
 refine cV func255 ntmps255 results255 call255 rfl ay λW0 S0 M0 own β hβ=> ?_;repeat'(first|(show az _ (.region 1 _ true) _ _;refine b_ ?_)|refine aB ?_|refine aC λK hK=> ?_|(refine kA ?_;clear hK K)|(intro hg;try exact aw)|exact fin|apply ai)
 refine cI ?_;refine eI (jZ [(0, .box 6 0),(1, .box 3 0),(2, .box 5 0),(3, .box 4 0),(4, .bool false)] (by simp[put])) ?_;refine X7 (by rfl) W0 S0 M0 own β s n cap ns na ks cost cs r lo hm hk bD uZ hc ?_;simp only[bU,cond_true,dn,cF];repeat'(first|(show cT _ _ _ _ _;refine av ?_)|refine aB ?_|refine aC λK hK=> ?_|(refine kA ?_;clear hK K)|(intro hg;try exact aw)|exact fin|apply ai)
theorem X5 {ops:Array Oper}(cj:ops=dK Tryz.f204 5)(w0:World)(S0:Addr->Prop)(eG:MM)(own:Nat->Prop)(β:List Nat)(s:bh)(n cap ns na ks:Nat)(cost:Int)(cs eE:List D)(r:dY)(lo hm:Int)(hk:ks < s.bf.length)(fY:s.bf.length<=100)(hc:aT ae 257 [.box 0 0,i64 r.day,i64 (nth s.bf ks).2, .agg [i64 lo,i64 hm]] [.mu (aP s n cap cost), .mp [], .mu cs, .mu [.box 0 0], .mu [i64 (ks:Nat)], .mu (f_ r), .mu [i64 lo,i64 hm]] [aG ns,aH na] (bw (.aQ []) [.mu (aP s n cap cost), .mp [], .mu eE, .mu [.box 0 0], .mu [i64 (ks:Nat)], .mu (f_ r), .mu [i64 lo,i64 hm]] [aG ns,aH na]))
  {Q:Exit->St->Prop}{T:dX}(hQ:Q .normal ⟨35,((T.foldr (λe f=>put f e.2.1 (e.2.2 λ_=>true)) (bj [(3, .box 3 0),(4, .box 4 0),(5, .box 5 0),(7, .box 6 0)]))),(λ(L:Nat->Bool)=>[.mu (aP s n cap cost), .mp [], .mu (bif L 13 then eE else cs), .mu [.box 0 0], .mu [i64 (ks:Nat)], .mu (f_ r), .mu [i64 lo,i64 hm]]) (λ_=>true),(λ(L:Nat->Bool)=>[aG ns,aH na]) (λ_=>true)⟩)(hT:T=[(0,21,λL=> .box 0 0),(1,22,λL=> .box 5 0),(2,23,λL=>i64 r.day),(3,24,λL=> .box 0 0),(4,25,λL=> .box 0 0),(5,26,λL=> .box 0 0),(6,27,λL=> .box 0 0),(7,28,λL=> .list (s.bf.map k9)),(8,29,λL=>i64 (ks:Nat)),(9,30,λL=> .ro (zu (nth s.bf ks))),(10,31,λL=> .ro [i64 (nth s.bf ks).2]),(11,32,λL=>i64 (nth s.bf ks).2),(12,33,λL=> .agg [i64 lo,i64 hm]),(13,34,λL=> .aQ [])]:=by rfl):
  az ⟨ae,w0,S0,eG,none,own,β⟩ (.region 5 ops true) Q ⟨35,bj [(3, .box 3 0),(4, .box 4 0),(5, .box 5 0),(7, .box 6 0)],(λ(L:Nat->Bool)=>[.mu (aP s n cap cost), .mp [], .mu (bif L 13 then eE else cs), .mu [.box 0 0], .mu [i64 (ks:Nat)], .mu (f_ r), .mu [i64 lo,i64 hm]]) (λ_=>false),(λ(L:Nat->Bool)=>[aG ns,aH na]) (λ_=>false)⟩:=by
 simp only[dK,eW,fV,Tryz.f204,fB,Nat.reduceBEq,cJ,if_false,if_true,bQ,bN,bR,iy,reduceIte,eq_self]at cj;subst cj;have ba:T.map (·.1)=[0,1,2,3,4,5,6,7,8,9,10,11,12,13]:=by rw[hT];rfl
 have cQ:T.map (·.2.1)=[21,22,23,24,25,26,27,28,29,30,31,32,33,34]:=by rw[hT];rfl
 have cD:(T.map (·.1)).Nodup:=by rw[ba];decide
 have aS:(T.map (·.2.1)).Nodup:=by rw[cQ];decide
 obtain⟨b,hb⟩:∃b:Nat->D,b=bj [(3, .box 3 0),(4, .box 4 0),(5, .box 5 0),(7, .box 6 0)]:=⟨_,rfl⟩;rw[<-hb];have h0:aI (λ_=>false) (λ_=>false) T b=b:=gR (λ_ _=>rfl);rw[<-h0];refine la (c:=⟨ae,w0,S0,eG,none,own,β⟩) Tryz.ty.mixed rfl aj 35 T b (λL=>[.mu (aP s n cap cost), .mp [], .mu (bif L 13 then eE else cs), .mu [.box 0 0], .mu [i64 (ks:Nat)], .mu (f_ r), .mu [i64 lo,i64 hm]]) (λL=>[aG ns,aH na]) (λL k op hC af hL aa=> ?_) (λL hL=> ?_);rotate_left
 ·have bu:∀x∈T.map (·.1),x < 14:=by rw[ba];decide
  rw[gS (λe he=>hL _ (bu _ (gP (f:=(·.1)) he)))];rw[hT,hb];have gO:L 13=true:=hL 13 ak;simp only[bU,gO];simp only[hT,bU,cond_true]at hQ;exact hQ
 match k,af,hL,aa with
 |0,af,hL,aa=>
  cases af;have gO:=au hC hL 13 [] rfl;have hX:=an gO hL;exact aA
 |1,af,hL,aa=>
  cases af;have gO:=au hC hL 13 [2] rfl;have hX:=an gO hL;exact aA
 |2,af,hL,aa=>
  cases af;have d1:=aq aa 1 rfl;have gO:=au hC hL 13 [] rfl;have hX:=an d1 (an gO hL);exact aA
 |3,af,hL,aa=>
  cases af;have gO:=au hC hL 13 [11,10,9,7,6,5,4] rfl;have hX:=an gO hL;exact aA
 |4,af,hL,aa=>
  cases af;have d3:=aq aa 3 rfl;have gO:=au hC hL 13 [11,10,9,7,6,5] rfl;have hX:=an d3 (an gO hL);exact aA
 |5,af,hL,aa=>
  cases af;have d4:=aq aa 4 rfl;have gO:=au hC hL 13 [11,10,9,7,6] rfl;have hX:=an d4 (an gO hL);exact aA
 |6,af,hL,aa=>
  cases af;have d5:=aq aa 5 rfl;have gO:=au hC hL 13 [11,10,9,7] rfl;have hX:=an d5 (an gO hL);exact aA
 |7,af,hL,aa=>
  cases af;have d6:=aq aa 6 rfl;have gO:=au hC hL 13 [11,10,9] rfl;have hX:=an d6 (an gO hL);exact aA
 |8,af,hL,aa=>
  cases af;have gO:=au hC hL 13 [11,10,9] rfl;have hX:=an gO hL;exact aA
 |9,af,hL,aa=>
  cases af;have d7:=aq aa 7 rfl;have d8:=aq aa 8 rfl;have gO:=au hC hL 13 [11,10] rfl;have hX:=an d7 (an d8 (an gO hL));exact aA
 |10,af,hL,aa=>
  cases af;have d9:=aq aa 9 rfl;have gO:=au hC hL 13 [11] rfl;have hX:=an d9 (an gO hL);exact aA
 |11,af,hL,aa=>
  cases af;have d10:=aq aa 10 rfl;have gO:=au hC hL 13 [] rfl;have hX:=an d10 (an gO hL);exact aA
 |12,af,hL,aa=>
  cases af;have gO:=au hC hL 13 [] rfl;have hX:=an gO hL;exact aA
 |13,af,hL,aa=>
  cases af;have d0:=aq aa 0 rfl;have d2:=aq aa 2 rfl;have d11:=aq aa 11 rfl;have d12:=aq aa 12 rfl;have gO:L 13=false:=hL
  (
   have f21:=br (V:=L) (b:=b) d0 aS (show(0,21,λL=> .box 0 0)∈T by rw[hT];simp);have f23:=br (V:=L) (b:=b) d2 aS (show(2,23,λL=>i64 r.day)∈T by rw[hT];simp);have f32:=br (V:=L) (b:=b) d11 aS (show(11,32,λL=>i64 (nth s.bf ks).2)∈T by rw[hT];simp);have f33:=br (V:=L) (b:=b) d12 aS (show(12,33,λL=> .agg [i64 lo,i64 hm])∈T by rw[hT];simp);have g13:more L 13 13=true:=rfl;have ek:aI (more L 13) (more L 13) T b=put (aI L L T b) 34 (.aQ []):=(dM hL cD aS (show(13,34,λL=> .aQ [])∈T by rw[hT];simp)).trans (by rw[<-eL (V:=L) (V':=more L 13) (by rw[hT];simp[more])];try rfl);rw[ek];try simp only[gO,g13,cond_true,cond_false,bR,bQ,bN]
   try simp only[gO,g13,cond_true,cond_false,cG,cN,dN,put,Nat.reduceEqDiff,if_true,if_false,reduceIte]at f21 f23 f32 f33
   refine aZ.sW (cC hc (by show(34:Nat) < 35;decide) rfl (by show[aI L L T b 21,aI L L T b 23,aI L L T b 32,aI L L T b 33]=_;rw[f21,f23,f32,f33]) rfl rfl ?_);rintro d aF aL ⟨rfl,rfl,rfl⟩;rw[tH (rv (by rw[hb];exact sM rfl) (by rw[hT];simp only[jf,fu,false_implies,implies_true,and_true];(repeat' apply ai)<;>exact λ_=>rfl))];exact aO.of_eq rfl)
 |k + 14,af,hL,aa=>simp at af
theorem Rw {cs U:List D}{W R:Nat}{sl pt lo hi:Int}{S:List dJ}{j:Nat}(aE:∀d∈cs,Names 0 0 d)(hd:cs.drop (j * 4)=i64 (W:Nat)::i64 (R:Nat)::i64 sl:: .list (S.map ft)::U):∀d∈cs.take (j * 4)++eQ W R sl (S++[⟨pt,lo,hi⟩])++U,Names 0 0 d:=λd h=>by
 have hU:cs.drop (j * 4 + 4)=U:=by rw[<-List.drop_drop,hd];rfl
 rcases gY.1 h with h|h
 ·rcases gY.1 h with h|h
  ·exact aE d (List.mem_of_mem_take h)
  ·simp only[eQ,List.mem_cons,fu,or_false]at h;rcases h with rfl|rfl|rfl|rfl<;>constructor
 ·rw[<-hU]at h;exact aE d (List.mem_of_mem_drop h)
theorem X6 (s:bh)(n cap ns na ks:Nat)(cost:Int)(cs U:List D)(W R:Nat)(sl:Int)(S:List dJ)(r:dY)(a0 a1 lo hi hm a4 a5:Int)(bD:s.bf.length<=100)(hk:ks < s.bf.length)(iC:0<=s.dy/\s.dy<=100)(hr:0<=r.day/\r.day<=s.dy - 1)(aE:∀d∈cs,Names 0 0 d)(Hg:hm=min hi 99999)(uZ: -999999<=lo/\lo<=99999)(Qg: -999999<=hi/\hi<=999999)(ck:ax ae 252 [iP (nth s.bf ks).1,pC r] (.aQ [.agg [i64 a0,i64 a1,i64 lo,i64 hi,i64 a4,i64 a5],i64 0]))
  (hd:cs.drop (r.day.toNat * 4)=i64 (W:Nat)::i64 (R:Nat)::i64 sl:: .list (S.map ft)::U)(bE:cs.length=cap * 4)(hn:n<=cap)(eh:n<=100)(mf:r.day < n)(hS:S.length < 12)(DB:na < 60)(hM:jH W R sl (S++[⟨(nth s.bf ks).2,lo,hm⟩]))(hC:rb W sl (S++[⟨(nth s.bf ks).2,lo,hm⟩])):
  aT ae 204 [.box 0 0,i64 (ks:Nat),pC r] [.mu (aP s n cap cost), .mp [], .mu cs] [aG ns,aH na] (bw (i64 0) [.mu (aP s n cap cost), .mp [], .mu (cs.take (r.day.toNat * 4)++eQ W R sl (S++[⟨(nth s.bf ks).2,lo,hm⟩])++U)] [aG ns,aH (na + 1)]):=by
 have dC:∀nb nr,db nb nr cs=true:=λnb nr=>iz λd hd=>jA (aE d hd);have yJ:cs.map (gI 1)=cs:=Aw aE;have q1:=mr (nr:=2) [.mu [.box 0 0], .mu [.aD 250 [.box 3 0, .box 4 0, .box 5 0, .box 6 0]], .mu [.aD 253 [.box 3 0, .box 5 0]], .mu [.aD 255 [.box 6 0, .box 3 0, .box 5 0, .box 4 0]]] (X' s n cap ns na ks cost 0 0 cs U W R sl S r a0 a1 lo hi hm a4 a5 bD hk iC hr aE Hg ag Qg ck) rfl (by simp only[bZ,dC];rfl) (by simp only[bZ,dC];rfl) rfl rfl rfl;have q2:=mr (nr:=2) [.mu [.box 0 0], .mu [.aD 250 [.box 3 0, .box 4 0, .box 5 0, .box 6 0]], .mu [.aD 253 [.box 3 0, .box 5 0]], .mu [.aD 255 [.box 6 0, .box 3 0, .box 5 0, .box 4 0]]] (X9 s n cap ns na ks cost 0 0 cs U W R sl S r a0 a1 lo hi hm a4 a5 bD hk iC hr aE hd bE hn eh mf hS) rfl (by simp only[bZ,dC];rfl) (by simp only[bZ,dC];rfl) rfl rfl rfl;have p0:=mr (nr:=2) [.mu [.box 0 0], .mu [i64 (ks:Nat)], .mu (f_ r), .mu [i64 lo,i64 hm]] (Oj s n cap ns na cost r.day (nth s.bf ks).2 lo hm cs U W R sl S aE hd bE hn eh ⟨hr.1,mf⟩ ag hM hC) rfl (by simp only[bZ,dC];rfl) (by simp only[bZ,dC];rfl) rfl rfl rfl;have q3:=mr (nr:=2) [.mu [.box 0 0], .mu [.aD 250 [.box 3 0, .box 4 0, .box 5 0, .box 6 0]], .mu [.aD 253 [.box 3 0, .box 5 0]], .mu [.aD 255 [.box 6 0, .box 3 0, .box 5 0, .box 4 0]]] (X8 s n cap ns na ks cost 0 0 cs U W R sl S r a0 a1 lo hi hm a4 a5 bD hk iC hr aE ag p0) rfl (by simp only[bZ,dC];rfl) (by simp only[bZ,dC];rfl) rfl rfl rfl;have c1:=UJ s n cap cost (.mp []) (.mu cs) (.mu [.box 0 0]) (.mu [i64 (ks:Nat)]) (.mu (f_ r)) (.mu [i64 0,i64 0]) (.mp []) (.mu cs) (.mu [.box 0 0]) (.mu [i64 (ks:Nat)]) (.mu (f_ r)) (.mu [i64 lo,i64 hm]) ns na DB 250 253 255 [.box 3 0, .box 4 0, .box 5 0, .box 6 0] [.box 3 0, .box 5 0] [.box 6 0, .box 3 0, .box 5 0, .box 4 0] (by simp only[bZ,dC];rfl) (by simp only[bZ,dC];rfl) (by simp only[List.map_cons,List.map_nil,iT,yJ];rfl) q1 q2 q3;have nf:=Rw (pt:=(nth s.bf ks).2) (lo:=lo) (hi:=hm) aE hd;have c2:=N5 s n cap ns (na + 1) cost r.day (nth s.bf ks).2 lo hm cs U W R sl S aE hd bE hn eh ⟨hr.1,mf⟩ ag;generalize cs.take (r.day.toNat * 4)++eQ W R sl (S++[⟨(nth s.bf ks).2,lo,hm⟩])++U=eE at nf c2⊢;have rW:∀nb nr,db nb nr eE=true:=λnb nr=>iz λd hd=>jA (nf d hd);have c2:=mr (nr:=2) [.mu [.box 0 0], .mu [i64 (ks:Nat)], .mu (f_ r), .mu [i64 lo,i64 hm]] c2 rfl (by simp only[bZ,dC];rfl) (by simp only[bZ,rW];rfl) rfl rfl rfl;refine og ?_ rfl (by simp only[bZ,rW];rfl) (cx _);refine cV func204 ntmps204 results204 call204 rfl ay λW0 S0 M0 own β hβ=> ?_;repeat'(first|(show az _ (.region 5 _ true) _ _;refine b_ ?_)|(show az _ (.region 2 _ _) _ _;refine eo 8 rfl (λK1 aK=> ?_);refine av ?_)|(refine aK _ (cC c1 (by show(17:Nat) < 35;decide) rfl rfl rfl rfl ?_);clear aK K1;rintro d aF aL ⟨rfl,rfl,rfl⟩;simp only[bF,Nat.reduceAdd];refine av ?_)|refine aB ?_|refine aC λK hK=> ?_|(refine kA ?_;clear hK K)|(intro hg;try exact aw)|exact fin|apply ai)
 all_goals first|(show 1=aJ ae 3;simp only[go_sem];done)|(with_reducible rfl)|skip
 refine cI ?_;refine k_ (dD 35 [(3, .box 3 0),(4, .box 4 0),(5, .box 5 0),(7, .box 6 0)] [.mu (aP s n cap cost), .mp [], .mu cs, .mu [.box 0 0], .mu [i64 (ks:Nat)], .mu (f_ r), .mu [i64 lo,i64 hm]] [aG ns,aH (na + 1)]) (aV rfl (by simp[put]) ⟨[],rfl⟩ ⟨[],rfl⟩) (gT rfl (by simp only[bZ,dC];rfl)) (by show β.length<=7;rw[hβ];show 3<=7;decide) ?_;refine X5 (by rfl) W0 S0 M0 own β s n cap ns (na + 1) ks cost cs eE r lo hm hk bD c2 ?_;simp only[bU,cond_true,dn,cF];repeat'(first|(show cT _ _ _ _ _;refine av ?_)|refine aB ?_|refine aC λK hK=> ?_|(refine kA ?_;clear hK K)|(intro hg;try exact aw)|exact fin|apply ai)
 all_goals first|exact⟨[],rfl⟩|exact⟨_,rfl⟩|trace_state
section
open Go.RowKit Go
theorem aZ.Np {c:Ctx}{s:St}{K:St->Prop}{t ty:TypeId}{x:Operand}{v:Value}{d:D}{pos:String}{aft:Array Edge}(hy:∀w g,Rel w g v d)(hk:qj c.P s t (s.ev x) d K):
  Go.Ab.aZ c ⟨none, .store t x (.const v),ty,pos,aft,none⟩ s K:=by
 unfold Go.Ab.aZ;rintro a w N' Q' ⟨g,h⟩ hN;have hwp:(⟨none, .store t x (.const v),ty,pos,aft,none⟩:Oper).wp c.P a w (λa' w'=>∃s',R c s' a' w'/\K s') Q':= ?_
 ·exact gK (by intro cl h;cases h) (Oper.wp_mono (λa' w' ⟨s',cH,fS⟩=>hN s' a' w' cH fS) hwp)
 unfold qj at hk;split at hk
 ·rename_i i off hx;split at hk
  ·rename_i cs aE;obtain⟨hz,hl,h1,hle,hk⟩:=hk;have eg:=h.ev x;rw[hx]at eg;generalize hv:a.eval x=vx at eg;cases eg with
   |box _ _ _ b hb=>
    have hc:=(hy w g).BU h.hρ h1;obtain⟨cur,tb,e1,e2,e3⟩:=h.store aE hb hc hle;have bo:v.cells.size=aJ c.P t:=by rw[hc.1,hl]
    have oX:∀u∈v.cells.toList,u.oneCell'=true:=λu hu=>by
     obtain⟨q,hq,rfl⟩:=List.getElem_of_mem hu;have ec:q < d.cells.length:=by rw[<-hc.1];simpa using hq
     have:=(hc.2 q _ (List.getElem?_eq_getElem ec)).2;simp at hq;simpa[hq]using this
    have bg:=Am c.P b off tb.1 tb.2 v.cells.toList 0 cur w e1 (by have:=hc.1;simp;omega) oX;simp only[Nat.add_zero,Array.length_toList]at bg;have hex:(execOp a.eval ⟨none, .store t x (.const v),ty,pos,aft,none⟩).run c.P w= .ok .skip (w.setRow b (cur.toList.take off++v.cells.toList++cur.toList.drop (off + v.cells.size)).toArray):=by
     have he:a.eval (.const v)=v:=rfl;simp[execOp,he,hv,Instr.storeAt,Instr.sureAddr,storeVar,Go.Ab.run_sizeOf hz,bo,bg]
    unfold Oper.wp;rw[hex];simp only[Oper.upon,Act.put];exact⟨_,⟨g,e3⟩,hk⟩
  ·exact hk.elim
 ·exact hk.elim
theorem NX (w:World)(g:Gh):Rel w g (Value.agg #[Value.int IntKind.i64 0,Value.int IntKind.i64 0]) (.agg [i64 0,i64 0]):=
 .agg _ _ _ rfl (λq hq=>by
  match q,hq with
  |0,_=>rfl
  |1,_=>rfl) (λq d hd=>by
  match q,hd with
  |0,hd=>cases hd;exact .int _ _ _
  |1,hd=>cases hd;exact .int _ _ _)
end
theorem QH (g:List ByteArray):∀x∈[bW g],x.cells.length=1:=λx hx=>by rw[List.mem_singleton.1 hx];rfl
theorem aej (g:List ByteArray)(bx:List Bx)(rw:List Row):aT ae 258 [.list [bW g]] bx rw (λd aF aL=>∃m cap,1<=cap/\d= .a_ bx.length 0 1 cap/\aF=bx++[.mu (bW g::List.replicate m .undef)]/\aL=rw):=by
 refine cV func258 ntmps258 results258 call258 rfl ay λW0 S0 M0 own β hβ=> ?_;repeat'(first|(show az _ (.region 1 _ _) _ _;refine pg 1 (Er _ 76 (.tmp 3) (some 4)) (λ_ _ h=>aZ.dup h) rfl rfl (λK1 aK=> ?_);refine av ?_)|(refine aK _ ⟨(by show(4:Nat) < 5;decide), ?_⟩;clear aK K1;refine av ?_)|(show cT _ _ _ _ _;refine av ?_)|refine aB ?_|refine aC λK hK=> ?_|(refine kA ?_;clear hK K)|(intro hg;try exact aw)|exact fin|apply ai)
 all_goals first
  |(exact QH g _ (by assumption))
  |exact⟨_,_,hg,rfl,rfl⟩
  |(exact⟨[],rfl⟩)
  |trace_state
theorem aee (g:List ByteArray)(hl:g.length<=1000000):ax ae 259 [bW g] (bW g):=by
 refine aR func259 ntmps259 results259 call259 rfl ay λw0 S0 M0=> ?_;repeat'(first|(show az _ (.region 1 _ _) _ _;refine pg 1 (sk _ 73 (.tmp 3) (some 4)) (λ_ _ h=>aZ.vd h) rfl rfl (λK1 aK=> ?_);refine av ?_)|(refine aK _ (vm 9 1 16 (g.map D.str) (by show(4:Nat) < 5;decide) aj aj aj aj rfl ak ak (λx hx=>by obtain⟨y,_,rfl⟩:=iH.1 hx;rfl) (by rw[List.length_map];omega) ?_);clear aK K1;refine av ?_)|refine aB ?_|refine aC λK hK=> ?_|(refine kA ?_;clear hK K)|(intro hg;try exact aw)|exact fin|apply ai)
 all_goals first|rfl|skip
theorem Ud {ops:Array Oper}(cj:ops=dK IM 8)(w0:World)(S0:Addr->Prop)(eG:MM)(own:Nat->Prop)(β:List Nat)(s:bh)(n cap ns na ks jj:Nat)(cost dy:Int)(cs:List D)(g:List ByteArray)(p0 p1:Int)(c0:Bool)(ll:List (List Int))(m:List Int)(hm:0 < m.length/\m.length<=100000)
  {Q:Exit->St->Prop}{T:dX}(hQ:Q .normal ⟨70,((T.foldr (λe f=>put f e.2.1 (e.2.2 λ_=>true)) (bj [(0, .box 3 0),(1, .box 4 0),(2, .box 5 0),(3, .box 6 0),(4, .box 7 0),(5, .box 8 0),(7, .list (ll.map ints)),(8,i64 0),(10,ints m),(31, .list (ll.map ints)),(32,i64 ll.length),(33,i64 (jj:Nat))]))),(λ(L:Nat->Bool)=>[.mu (aP s n cap cost), .mp [], .mu cs, .mu [.box 0 0], .mu [i64 (ks:Nat)], .mu [i64 dy], .mu [.list [bW g]], .mu [bif L 8 then i64 (nth m 0)else bif L 6 then i64 0 else i64 p0,bif L 10 then i64 (nth m 0)else bif L 6 then i64 0 else i64 p1], .mu [.bool c0]]) (λ_=>true),(λ(L:Nat->Bool)=>[aG ns,aH na]) (λ_=>true)⟩)(hT:T=[(0,40,λL=>ints m),(1,41,λL=> .ro [i64 (nth m 0)]),(2,42,λL=>i64 (nth m 0)),(3,43,λL=>ints m),(4,44,λL=> .ro [i64 (nth m 0)]),(5,45,λL=>i64 (nth m 0)),(7,46,λL=> .box 7 0),(9,47,λL=> .box 7 1)]:=by rfl):
  az ⟨ae,w0,S0,eG,none,own,β⟩ (.region 8 ops true) Q ⟨70,bj [(0, .box 3 0),(1, .box 4 0),(2, .box 5 0),(3, .box 6 0),(4, .box 7 0),(5, .box 8 0),(7, .list (ll.map ints)),(8,i64 0),(10,ints m),(31, .list (ll.map ints)),(32,i64 ll.length),(33,i64 (jj:Nat))],(λ(L:Nat->Bool)=>[.mu (aP s n cap cost), .mp [], .mu cs, .mu [.box 0 0], .mu [i64 (ks:Nat)], .mu [i64 dy], .mu [.list [bW g]], .mu [bif L 8 then i64 (nth m 0)else bif L 6 then i64 0 else i64 p0,bif L 10 then i64 (nth m 0)else bif L 6 then i64 0 else i64 p1], .mu [.bool c0]]) (λ_=>false),(λ(L:Nat->Bool)=>[aG ns,aH na]) (λ_=>false)⟩:=by
 simp only[dK,eW,fV,IM,fB,Nat.reduceBEq,cJ,if_false,if_true,bQ,bN,bR,iy,reduceIte,eq_self]at cj;subst cj;have ba:T.map (·.1)=[0,1,2,3,4,5,7,9]:=by rw[hT];rfl
 have cQ:T.map (·.2.1)=[40,41,42,43,44,45,46,47]:=by rw[hT];rfl
 have cD:(T.map (·.1)).Nodup:=by rw[ba];decide
 have aS:(T.map (·.2.1)).Nodup:=by rw[cQ];decide
 obtain⟨b,hb⟩:∃b:Nat->D,b=bj [(0, .box 3 0),(1, .box 4 0),(2, .box 5 0),(3, .box 6 0),(4, .box 7 0),(5, .box 8 0),(7, .list (ll.map ints)),(8,i64 0),(10,ints m),(31, .list (ll.map ints)),(32,i64 ll.length),(33,i64 (jj:Nat))]:=⟨_,rfl⟩;rw[<-hb];have h0:aI (λ_=>false) (λ_=>false) T b=b:=gR (λ_ _=>rfl);rw[<-h0];refine la (c:=⟨ae,w0,S0,eG,none,own,β⟩) Tryz.ty.mixed rfl aj 70 T b (λL=>[.mu (aP s n cap cost), .mp [], .mu cs, .mu [.box 0 0], .mu [i64 (ks:Nat)], .mu [i64 dy], .mu [.list [bW g]], .mu [bif L 8 then i64 (nth m 0)else bif L 6 then i64 0 else i64 p0,bif L 10 then i64 (nth m 0)else bif L 6 then i64 0 else i64 p1], .mu [.bool c0]]) (λL=>[aG ns,aH na]) (λL k op hC af hL aa=> ?_) (λL hL=> ?_);rotate_left
 ·have bu:∀x∈T.map (·.1),x < 11:=by rw[ba];decide
  rw[gS (λe he=>hL _ (bu _ (gP (f:=(·.1)) he)))];rw[hT,hb];have e6:L 6=true:=hL 6 ak;have e8:L 8=true:=hL 8 ak;have a7:L 10=true:=hL 10 ak;simp only[bU,e6,e8,a7];simp only[hT,bU,cond_true]at hQ;exact hQ
 match k,af,hL,aa with
 |0,af,hL,aa=>
  cases af;have e8:=au hC hL 8 [] rfl;have a7:=au hC hL 10 [] rfl;clear hC aa;rcases bO (L 6)with e6|e6;all_goals(have hX:=an e8 (an a7 (an e6 hL));exact aA)
 |1,af,hL,aa=>
  cases af;have d0:=aq aa 0 rfl;have e8:=au hC hL 8 [] rfl;have a7:=au hC hL 10 [] rfl;clear hC aa;rcases bO (L 6)with e6|e6;all_goals(have hX:=an d0 (an e8 (an a7 (an e6 hL)));exact aA)
 |2,af,hL,aa=>
  cases af;have d1:=aq aa 1 rfl;have e8:=au hC hL 8 [] rfl;have a7:=au hC hL 10 [] rfl;clear hC aa;rcases bO (L 6)with e6|e6;all_goals(have hX:=an d1 (an e8 (an a7 (an e6 hL)));exact aA)
 |3,af,hL,aa=>
  cases af;have a7:=au hC hL 10 [] rfl;have qC:=λ(h:L 8=true)=>ca hC h 6 [] rfl;clear hC aa;revert qC;rcases bO (L 6)with e6|e6<;>rcases bO (L 8)with e8|e8<;>intro qC<;>first|(have:=qC e8;rw[e6]at this;exact absurd this ak)|skip
  all_goals(have hX:=an a7 (an e6 (an e8 hL));exact aA)
 |4,af,hL,aa=>
  cases af;have d3:=aq aa 3 rfl;have a7:=au hC hL 10 [] rfl;have qC:=λ(h:L 8=true)=>ca hC h 6 [] rfl;clear hC aa;revert qC;rcases bO (L 6)with e6|e6<;>rcases bO (L 8)with e8|e8<;>intro qC<;>first|(have:=qC e8;rw[e6]at this;exact absurd this ak)|skip
  all_goals(have hX:=an d3 (an a7 (an e6 (an e8 hL)));exact aA)
 |5,af,hL,aa=>
  cases af;have d4:=aq aa 4 rfl;have a7:=au hC hL 10 [] rfl;have qC:=λ(h:L 8=true)=>ca hC h 6 [] rfl;clear hC aa;revert qC;rcases bO (L 6)with e6|e6<;>rcases bO (L 8)with e8|e8<;>intro qC<;>first|(have:=qC e8;rw[e6]at this;exact absurd this ak)|skip
  all_goals(have hX:=an d4 (an a7 (an e6 (an e8 hL)));exact aA)
 |6,af,hL,aa=>
  cases af;have e6:L 6=false:=hL;have e8:=au hC hL 8 [] rfl;have a7:=au hC hL 10 [] rfl
  (
   have f4:aI L L T b 4=bj [(0, .box 3 0),(1, .box 4 0),(2, .box 5 0),(3, .box 6 0),(4, .box 7 0),(5, .box 8 0),(7, .list (ll.map ints)),(8,i64 0),(10,ints m),(31, .list (ll.map ints)),(32,i64 ll.length),(33,i64 (jj:Nat))] 4:=by rw[CR (by rw[cQ];decide),hb]
   have g6:more L 6 6=true:=rfl;have g8:more L 6 8=L 8:=rfl;have g10:more L 6 10=L 10:=rfl;have ek:aI (more L 6) (more L 6) T b=aI L L T b:=by rw[yi (by rw[ba];decide),<-eL (V:=L) (V':=more L 6) (by rw[hT];simp[more])]
   rw[ek];try simp only[e6,e8,a7,g6,g8,g10,cond_true,cond_false,bR,bQ,bN]
   try simp only[e6,e8,a7,g6,g8,g10,cond_true,cond_false,cG,cN,dN,put,Nat.reduceEqDiff,if_true,if_false,reduceIte]at f4
   refine aZ.Np (d:= .agg [i64 0,i64 0]) (λw g=>NX w g) ?_;show qj _ _ 48 (aI L L T b 4) _ _;rw[f4]
   (refine av ?_;try exact trivial)
   exact aO.of_eq rfl)
 |7,af,hL,aa=>
  cases af;have e6:=aq aa 6 rfl;have e8:=au hC hL 8 [] rfl;have a7:=au hC hL 10 [] rfl;have hX:=an e6 (an e8 (an a7 hL));exact aA
 |8,af,hL,aa=>
  cases af;have d2:=aq aa 2 rfl;have d7:=aq aa 7 rfl;have e6:=ca hC (aq aa 7 rfl) 6 [] rfl;have e8:L 8=false:=hL;have a7:=au hC hL 10 [] rfl;have hX:=an d2 (an d7 (an e6 (an e8 (an a7 hL))));exact aA
 |9,af,hL,aa=>
  cases af;have e6:=aq aa 6 rfl;have e8:=aq aa 8 rfl;have a7:=au hC hL 10 [] rfl;have hX:=an e6 (an e8 (an a7 hL));exact aA
 |10,af,hL,aa=>
  cases af;have d5:=aq aa 5 rfl;have d9:=aq aa 9 rfl;have e6:=ca hC (aq aa 9 rfl) 6 [] rfl;have e8:=ca hC (aq aa 9 rfl) 8 [] rfl;have a7:L 10=false:=hL;have hX:=an d5 (an d9 (an e6 (an e8 (an a7 hL))));exact aA
 |k + 11,af,hL,aa=>simp at af
theorem Jj {ops:Array Oper}(cj:ops=dK IM 9)(w0:World)(S0:Addr->Prop)(eG:MM)(own:Nat->Prop)(β:List Nat)(s:bh)(n cap ns na ks jj:Nat)(cost dy:Int)(cs:List D)(g:List ByteArray)(p0 p1:Int)(c0:Bool)(ll:List (List Int))(m:List Int)(hm:0 < m.length/\m.length<=100000)
  {Q:Exit->St->Prop}{T:dX}(hQ:Q .normal ⟨70,((T.foldr (λe f=>put f e.2.1 (e.2.2 λ_=>true)) (bj [(0, .box 3 0),(1, .box 4 0),(2, .box 5 0),(3, .box 6 0),(4, .box 7 0),(5, .box 8 0),(7, .list (ll.map ints)),(8,i64 0),(10,ints m),(31, .list (ll.map ints)),(32,i64 ll.length),(33,i64 (jj:Nat))]))),(λ(L:Nat->Bool)=>[.mu (aP s n cap cost), .mp [], .mu cs, .mu [.box 0 0], .mu [i64 (ks:Nat)], .mu [i64 dy], .mu [.list [bW g]], .mu [bif L 14 then i64 (min p0 (nth m 0))else bif L 12 then i64 0 else i64 p0,bif L 16 then i64 (max p1 (nth m 0))else bif L 12 then i64 0 else i64 p1], .mu [.bool c0]]) (λ_=>true),(λ(L:Nat->Bool)=>[aG ns,aH na]) (λ_=>true)⟩)(hT:T=[(0,48,λL=> .box 7 0),(1,49,λL=>i64 p0),(2,50,λL=>ints m),(3,51,λL=> .ro [i64 (nth m 0)]),(4,52,λL=>i64 (nth m 0)),(5,53,λL=>i64 (min p0 (nth m 0))),(6,54,λL=> .box 7 1),(7,55,λL=>i64 p1),(8,56,λL=>ints m),(9,57,λL=> .ro [i64 (nth m 0)]),(10,58,λL=>i64 (nth m 0)),(11,59,λL=>i64 (max p1 (nth m 0))),(13,60,λL=> .box 7 0),(15,61,λL=> .box 7 1)]:=by rfl):
  az ⟨ae,w0,S0,eG,none,own,β⟩ (.region 9 ops true) Q ⟨70,bj [(0, .box 3 0),(1, .box 4 0),(2, .box 5 0),(3, .box 6 0),(4, .box 7 0),(5, .box 8 0),(7, .list (ll.map ints)),(8,i64 0),(10,ints m),(31, .list (ll.map ints)),(32,i64 ll.length),(33,i64 (jj:Nat))],(λ(L:Nat->Bool)=>[.mu (aP s n cap cost), .mp [], .mu cs, .mu [.box 0 0], .mu [i64 (ks:Nat)], .mu [i64 dy], .mu [.list [bW g]], .mu [bif L 14 then i64 (min p0 (nth m 0))else bif L 12 then i64 0 else i64 p0,bif L 16 then i64 (max p1 (nth m 0))else bif L 12 then i64 0 else i64 p1], .mu [.bool c0]]) (λ_=>false),(λ(L:Nat->Bool)=>[aG ns,aH na]) (λ_=>false)⟩:=by
 simp only[dK,eW,fV,IM,fB,Nat.reduceBEq,cJ,if_false,if_true,bQ,bN,bR,iy,reduceIte,eq_self]at cj;subst cj;have ba:T.map (·.1)=[0,1,2,3,4,5,6,7,8,9,10,11,13,15]:=by rw[hT];rfl
 have cQ:T.map (·.2.1)=[48,49,50,51,52,53,54,55,56,57,58,59,60,61]:=by rw[hT];rfl
 have cD:(T.map (·.1)).Nodup:=by rw[ba];decide
 have aS:(T.map (·.2.1)).Nodup:=by rw[cQ];decide
 obtain⟨b,hb⟩:∃b:Nat->D,b=bj [(0, .box 3 0),(1, .box 4 0),(2, .box 5 0),(3, .box 6 0),(4, .box 7 0),(5, .box 8 0),(7, .list (ll.map ints)),(8,i64 0),(10,ints m),(31, .list (ll.map ints)),(32,i64 ll.length),(33,i64 (jj:Nat))]:=⟨_,rfl⟩;rw[<-hb];have h0:aI (λ_=>false) (λ_=>false) T b=b:=gR (λ_ _=>rfl);rw[<-h0];refine la (c:=⟨ae,w0,S0,eG,none,own,β⟩) Tryz.ty.mixed rfl aj 70 T b (λL=>[.mu (aP s n cap cost), .mp [], .mu cs, .mu [.box 0 0], .mu [i64 (ks:Nat)], .mu [i64 dy], .mu [.list [bW g]], .mu [bif L 14 then i64 (min p0 (nth m 0))else bif L 12 then i64 0 else i64 p0,bif L 16 then i64 (max p1 (nth m 0))else bif L 12 then i64 0 else i64 p1], .mu [.bool c0]]) (λL=>[aG ns,aH na]) (λL k op hC af hL aa=> ?_) (λL hL=> ?_);rotate_left
 ·have bu:∀x∈T.map (·.1),x < 17:=by rw[ba];decide
  rw[gS (λe he=>hL _ (bu _ (gP (f:=(·.1)) he)))];rw[hT,hb];have cB:L 12=true:=hL 12 ak;have aY:L 14=true:=hL 14 ak;have aM:L 16=true:=hL 16 ak;simp only[bU,cB,aY,aM];simp only[hT,bU,cond_true]at hQ;exact hQ
 match k,af,hL,aa with
 |0,af,hL,aa=>
  cases af;have cB:=au hC hL 12 [] rfl;have aY:=au hC hL 14 [] rfl;have aM:=au hC hL 16 [] rfl;have hX:=an cB (an aY (an aM hL));exact aA
 |1,af,hL,aa=>
  cases af;have d0:=aq aa 0 rfl;have cB:=au hC hL 12 [] rfl;have aY:=au hC hL 14 [] rfl;have aM:=au hC hL 16 [] rfl;have hX:=an d0 (an cB (an aY (an aM hL)));exact aA
 |2,af,hL,aa=>
  cases af;have aY:=au hC hL 14 [] rfl;have aM:=au hC hL 16 [] rfl;clear hC aa;rcases bO (L 12)with cB|cB;all_goals(have hX:=an aY (an aM (an cB hL));exact aA)
 |3,af,hL,aa=>
  cases af;have d2:=aq aa 2 rfl;have aY:=au hC hL 14 [] rfl;have aM:=au hC hL 16 [] rfl;clear hC aa;rcases bO (L 12)with cB|cB;all_goals(have hX:=an d2 (an aY (an aM (an cB hL)));exact aA)
 |4,af,hL,aa=>
  cases af;have d3:=aq aa 3 rfl;have aY:=au hC hL 14 [] rfl;have aM:=au hC hL 16 [] rfl;clear hC aa;rcases bO (L 12)with cB|cB;all_goals(have hX:=an d3 (an aY (an aM (an cB hL)));exact aA)
 |5,af,hL,aa=>
  cases af;have d1:=aq aa 1 rfl;have d4:=aq aa 4 rfl;have aY:=au hC hL 14 [] rfl;have aM:=au hC hL 16 [] rfl;clear hC aa;rcases bO (L 12)with cB|cB;all_goals(have hX:=an d1 (an d4 (an aY (an aM (an cB hL))));exact aA)
 |6,af,hL,aa=>
  cases af;have cB:=au hC hL 12 [] rfl;have aY:=au hC hL 14 [] rfl;have aM:=au hC hL 16 [] rfl;have hX:=an cB (an aY (an aM hL));exact aA
 |7,af,hL,aa=>
  cases af;have d6:=aq aa 6 rfl;have cB:=au hC hL 12 [] rfl;have aY:=au hC hL 14 [] rfl;have aM:=au hC hL 16 [] rfl;have hX:=an d6 (an cB (an aY (an aM hL)));exact aA
 |8,af,hL,aa=>
  cases af;have aM:=au hC hL 16 [] rfl;have mT:=λ(h:L 14=true)=>ca hC h 12 [] rfl;clear hC aa;revert mT;rcases bO (L 12)with cB|cB<;>rcases bO (L 14)with aY|aY<;>intro mT<;>first|(have:=mT aY;rw[cB]at this;exact absurd this ak)|skip
  all_goals(have hX:=an aM (an cB (an aY hL));exact aA)
 |9,af,hL,aa=>
  cases af;have d8:=aq aa 8 rfl;have aM:=au hC hL 16 [] rfl;have mT:=λ(h:L 14=true)=>ca hC h 12 [] rfl;clear hC aa;revert mT;rcases bO (L 12)with cB|cB<;>rcases bO (L 14)with aY|aY<;>intro mT<;>first|(have:=mT aY;rw[cB]at this;exact absurd this ak)|skip
  all_goals(have hX:=an d8 (an aM (an cB (an aY hL)));exact aA)
 |10,af,hL,aa=>
  cases af;have d9:=aq aa 9 rfl;have aM:=au hC hL 16 [] rfl;have mT:=λ(h:L 14=true)=>ca hC h 12 [] rfl;clear hC aa;revert mT;rcases bO (L 12)with cB|cB<;>rcases bO (L 14)with aY|aY<;>intro mT<;>first|(have:=mT aY;rw[cB]at this;exact absurd this ak)|skip
  all_goals(have hX:=an d9 (an aM (an cB (an aY hL)));exact aA)
 |11,af,hL,aa=>
  cases af;have d7:=aq aa 7 rfl;have d10:=aq aa 10 rfl;have aM:=au hC hL 16 [] rfl;have mT:=λ(h:L 14=true)=>ca hC h 12 [] rfl;clear hC aa;revert mT;rcases bO (L 12)with cB|cB<;>rcases bO (L 14)with aY|aY<;>intro mT<;>first|(have:=mT aY;rw[cB]at this;exact absurd this ak)|skip
  all_goals(have hX:=an d7 (an d10 (an aM (an cB (an aY hL))));exact aA)
 |12,af,hL,aa=>
  cases af;have cB:L 12=false:=hL;have aY:=au hC hL 14 [] rfl;have aM:=au hC hL 16 [] rfl
  (
   have f4:aI L L T b 4=bj [(0, .box 3 0),(1, .box 4 0),(2, .box 5 0),(3, .box 6 0),(4, .box 7 0),(5, .box 8 0),(7, .list (ll.map ints)),(8,i64 0),(10,ints m),(31, .list (ll.map ints)),(32,i64 ll.length),(33,i64 (jj:Nat))] 4:=by rw[CR (by rw[cQ];decide),hb]
   have g12:more L 12 12=true:=rfl;have g14:more L 12 14=L 14:=rfl;have g16:more L 12 16=L 16:=rfl;have ek:aI (more L 12) (more L 12) T b=aI L L T b:=by rw[yi (by rw[ba];decide),<-eL (V:=L) (V':=more L 12) (by rw[hT];simp[more])]
   rw[ek];try simp only[cB,aY,aM,g12,g14,g16,cond_true,cond_false,bR,bQ,bN]
   try simp only[cB,aY,aM,g12,g14,g16,cond_true,cond_false,cG,cN,dN,put,Nat.reduceEqDiff,if_true,if_false,reduceIte]at f4
   refine aZ.Np (d:= .agg [i64 0,i64 0]) (λw g=>NX w g) ?_;show qj _ _ 48 (aI L L T b 4) _ _;rw[f4]
   (refine av ?_;try exact trivial)
   exact aO.of_eq rfl)
 |13,af,hL,aa=>
  cases af;have cB:=aq aa 12 rfl;have aY:=au hC hL 14 [] rfl;have aM:=au hC hL 16 [] rfl;have hX:=an cB (an aY (an aM hL));exact aA
 |14,af,hL,aa=>
  cases af;have d5:=aq aa 5 rfl;have d13:=aq aa 13 rfl;have cB:=ca hC (aq aa 13 rfl) 12 [] rfl;have aY:L 14=false:=hL;have aM:=au hC hL 16 [] rfl;have hX:=an d5 (an d13 (an cB (an aY (an aM hL))));exact aA
 |15,af,hL,aa=>
  cases af;have cB:=aq aa 12 rfl;have aY:=aq aa 14 rfl;have aM:=au hC hL 16 [] rfl;have hX:=an cB (an aY (an aM hL));exact aA
 |16,af,hL,aa=>
  cases af;have d11:=aq aa 11 rfl;have d15:=aq aa 15 rfl;have cB:=ca hC (aq aa 15 rfl) 12 [] rfl;have aY:=ca hC (aq aa 15 rfl) 14 [] rfl;have aM:L 16=false:=hL;have hX:=an d11 (an d15 (an cB (an aY (an aM hL))));exact aA
 |k + 17,af,hL,aa=>simp at af
abbrev BK (y x x0 x1:Int):Nat->List D
 |0=>[i64 x0,i64 x1]
 |1=>[i64 y,i64 y]
 |_=>[i64 y,i64 x]
theorem acQ (y x x0 x1:Int)(nb nr:Nat):∀j,db nb nr (BK y x x0 x1 j)=true
 |0=>rfl
 |1=>rfl
 |_ + 2=>rfl
theorem Ue (s:bh)(n cap ns na ks:Nat)(cost dy:Int)(cs U:List D)(W R:Nat)(sl:Int)(S:List dJ)(g:List ByteArray)(y x:Int)(bD:s.bf.length<=100)(hk:ks < s.bf.length)(iC:0<=s.dy/\s.dy<=100)(hr:0<=dy/\dy<=s.dy - 1)(aE:∀d∈cs,Names 0 0 d)(x0 x1:Int)(c0:Bool)(l:List (List Int))(hl:l.length=2)(qQ:0 < (nth l 0).length/\(nth l 0).length<=100000)(kZ:0 < (nth l 1).length/\(nth l 1).length<=100000)(fH:nth (nth l 0) 0=y)(G':nth (nth l 1) 0=x)(iB:y < x)(hy: -999999<=y/\x<=999999)(ck:ax ae 261 [.agg (nG s.fl s.tu s.mo), .list [bW g]] (.aQ [.list (l.map ints), .int .i64 0])):
  aT ae 260 [.box 3 0, .box 4 0, .box 5 0, .box 6 0, .box 7 0, .box 8 0] [.mu (aP s n cap cost), .mp [], .mu cs, .mu [.box 0 0], .mu [i64 (ks:Nat)], .mu [i64 dy], .mu [.list [bW g]], .mu [i64 x0,i64 x1], .mu [.bool c0]] [aG ns,aH na] (bw (.bool true) [.mu (aP s n cap cost), .mp [], .mu cs, .mu [.box 0 0], .mu [i64 (ks:Nat)], .mu [i64 dy], .mu [.list [bW g]], .mu [i64 y,i64 x], .mu [.bool true]] [aG ns,aH na]):=by
 have dC:∀nb nr,db nb nr cs=true:=λnb nr=>iz λd hd=>jA (aE d hd);have P8:∀nb nr,db nb nr (l.map ints)=true:=λnb nr=>iz λd hd=>by
  obtain⟨a,_,rfl⟩:=iH.1 hd;simp only[ints,dA]
 have c1:=Px s (.a_ 2 0 n cap) (.own 0) (.bz 1) cost (.own 1) bD (ks:Nat) (.mp []:: .mu cs:: .mu [.box 0 0]:: .mu [i64 (ks:Nat)]:: .mu [i64 dy]:: .mu [.list [bW g]]:: .mu [i64 x0,i64 x1]:: .mu [.bool c0]::[]) [aG ns,aH na];rw[decide_eq_true ag]at c1;have c2:=Gv s (.a_ 2 0 n cap) (.own 0) (.bz 1) cost (.own 1) iC dy (.mp []:: .mu cs:: .mu [.box 0 0]:: .mu [i64 (ks:Nat)]:: .mu [i64 dy]:: .mu [.list [bW g]]:: .mu [i64 x0,i64 x1]:: .mu [.bool c0]::[]) [aG ns,aH na];rw[decide_eq_true hr]at c2;refine og ?_ rfl (by simp only[bZ,dC];rfl) (cx _);refine cV func260 ntmps260 results260 call260 rfl ay λW0 S0 M0 own β hβ=> ?_;repeat'(first|(show az _ (.region 1 _ _) _ _;refine SD 2 4 (λN s1=>mz _ N (.func 251) [.tmp 11, .tmp 12] (some 13) s1) (λ_ _ h=>aZ.sW h) (λN s1=>mz _ N (.func 105) [.tmp 16, .tmp 17] (some 18) s1) (λ_ _ h=>aZ.rF h) rfl rfl rfl (λK1 aK=> ?_);refine av ?_)|(refine aK _ (cC c1 (by show(13:Nat) < 70;decide) rfl rfl rfl rfl ?_);clear aK K1;rintro d aF aL ⟨rfl,rfl,rfl⟩;intro K2 n5;simp only[bF,Nat.reduceAdd];refine av ?_)|(refine n5 _ (vk rfl rfl ?_);clear n5 K2;refine cC c2 (by show(18:Nat) < 70;decide) rfl rfl rfl rfl ?_;rintro d aF aL ⟨rfl,rfl,rfl⟩;simp only[bF,Nat.reduceAdd];refine av ?_)|(show az _ (.seq (.region 4 _ _) _) _ _;refine b_ ?_)|refine aB ?_|refine aC λK hK=> ?_|refine cA (ck) ?_|(refine kA ?_;clear hK K)|(intro hg;try exact aw)|exact fin|apply ai)
 refine cI ?_;repeat'(first|(show az _ (.loop _) _ _;refine b_ ?_)|refine aB ?_|refine aC λK hK=> ?_|(refine kA ?_;clear hK K)|(intro hg;try exact aw)|exact fin|apply ai)
 refine cI ?_;refine dH (ι:=Nat) (λj=>[(0, .box 3 0),(1, .box 4 0),(2, .box 5 0),(3, .box 6 0),(4, .box 7 0),(5, .box 8 0),(7, .list (l.map ints)),(8,i64 0),(31, .list (l.map ints)),(32,i64 l.length),(33,i64 (j:Nat))]) (λj=>[.mu (aP s n cap cost), .mp [], .mu cs, .mu [.box 0 0], .mu [i64 (ks:Nat)], .mu [i64 dy], .mu [.list [bW g]], .mu (BK y x x0 x1 j), .mu [.bool c0]]) (λ_=>[aG ns,aH na])
  (λj=>j<=2) (λj=>2 - j) (λ_ _=>⟨by simp[dA,P8],by simp only[bZ,dC,acQ];rfl⟩) 0 ag (aV rfl (by try(refine av ?_;try exact trivial);try simp) ⟨_,rfl⟩ ⟨_,rfl⟩) (λj hj=> ?_) (hβ:=λ_ _=>by show β.length<=9;rw[hβ];exact cx 9)
 obtain rfl|rfl|rfl:j=0\/j=1\/j=2:=ag
 ·simp only[BK]
  (refine av ?_;try exact trivial)
  repeat'(first|(show az _ (.region 8 _ _) _ _;refine b_ ?_)|refine aB ?_|refine aC λK hK=> ?_|(refine kA ?_;clear hK K)|(intro hg;try exact aw)|exact fin|apply ai)
  all_goals refine cI ?_
  refine eI (jZ [(0, .box 3 0),(1, .box 4 0),(2, .box 5 0),(3, .box 6 0),(4, .box 7 0),(5, .box 8 0),(7, .list (l.map ints)),(8,i64 0),(10,ints (nth l 0)),(31, .list (l.map ints)),(32,i64 l.length),(33,i64 (0:Nat))] (by simp[put,cG,cN])) ?_;refine Ud (by rfl) W0 S0 M0 own β s n cap ns na ks 0 cost dy cs g x0 x1 c0 l (nth l 0) qQ ?_;rw[fH];simp only[bU,cond_true,dn,cF];repeat'(first|(show az _ (.region 9 _ _) _ _;refine b_ ?_)|refine aB ?_|refine aC λK hK=> ?_|(refine kA ?_;clear hK K)|(intro hg;try exact aw)|exact fin|apply ai)
  all_goals refine cI ?_
  refine eI (jZ [(0, .box 3 0),(1, .box 4 0),(2, .box 5 0),(3, .box 6 0),(4, .box 7 0),(5, .box 8 0),(7, .list (l.map ints)),(8,i64 0),(10,ints (nth l 0)),(31, .list (l.map ints)),(32,i64 l.length),(33,i64 (0:Nat))] (by simp[put,cG,cN])) ?_;refine Jj (by rfl) W0 S0 M0 own β s n cap ns na ks 0 cost dy cs g y y c0 l (nth l 0) qQ ?_;rw[fH];simp only[bU,cond_true,dn,cF];rw[show min y y=y from by omega,show max y y=y from by omega];repeat'(first|refine aB ?_|refine aC λK hK=> ?_|(refine kA ?_;clear hK K)|(intro hg;try exact aw)|exact fin|apply ai)
  all_goals first|exact⟨1,ag,ag,aV rfl (by try(refine av ?_;try exact trivial);try simp) ⟨_,rfl⟩ ⟨_,rfl⟩⟩|trace_state
 ·simp only[BK]
  (refine av ?_;try exact trivial)
  repeat'(first|(show az _ (.region 9 _ _) _ _;refine b_ ?_)|refine aB ?_|refine aC λK hK=> ?_|(refine kA ?_;clear hK K)|(intro hg;try exact aw)|exact fin|apply ai)
  all_goals refine cI ?_
  refine eI (jZ [(0, .box 3 0),(1, .box 4 0),(2, .box 5 0),(3, .box 6 0),(4, .box 7 0),(5, .box 8 0),(7, .list (l.map ints)),(8,i64 0),(10,ints (nth l 1)),(31, .list (l.map ints)),(32,i64 l.length),(33,i64 (1:Nat))] (by simp[put,cG,cN])) ?_;refine Jj (by rfl) W0 S0 M0 own β s n cap ns na ks 1 cost dy cs g y y c0 l (nth l 1) kZ ?_;rw[G'];simp only[bU,cond_true,dn,cF];rw[show min y x=y from by omega,show max y x=x from by omega];repeat'(first|refine aB ?_|refine aC λK hK=> ?_|(refine kA ?_;clear hK K)|(intro hg;try exact aw)|exact fin|apply ai)
  all_goals first|exact⟨2,ag,ag,aV rfl (by try(refine av ?_;try exact trivial);try simp) ⟨_,rfl⟩ ⟨_,rfl⟩⟩|trace_state
 ·simp only[BK]
  (refine av ?_;try exact trivial)
  repeat'(first|(show cT _ _ _ _ _;refine av ?_)|refine aB ?_|refine aC λK hK=> ?_|(refine kA ?_;clear hK K)|(intro hg;try exact aw)|exact fin|apply ai)
  all_goals first|exact⟨[],rfl⟩|exact⟨_,rfl⟩|trace_state
end Go.Proofs.YtopobgihpdaggaaGreatDoor
