import Derived.Test.YtopobgihpdaggaaGreatDoorZ18
set_option linter.unusedVariables false
set_option linter.unusedSimpArgs false
open And renaming intro->ai
open Bool renaming eq_false_or_eq_true->bO,false_eq_true->cJ
open List renaming append_nil->bN,cons_append->bR,foldr->bU,forall_mem_cons->jf,headD_cons->iy,map_cons->jI,map_nil->pq,mem_map_of_mem->gP,nil_append->bQ,not_mem_nil->fu,replicate->bP
open Option renaming getD_some->fV,map_some->eW
open Go.Proofs.Tryz renaming f58->xr,prog->ae
open Go.Proofs.Tryz
namespace Go.Proofs.YtopobgihpdaggaaGreatDoor
set_option maxRecDepth 100000
set_option maxHeartbeats 4000000
open Go.Ab
attribute[local irreducible] az dI dR ax aT IA fP aZ gZ
theorem UD {ops:Array Oper}(cj:ops=dK xr 8)(w0:World)(S0:Addr->Prop)(M0:MM)(own:Nat->Prop)(β:List Nat)(s:bh)(cost:Int)(y1 y2 y3 y4 y5 y6:Bx)(M:List D)(ns k:Nat)(hk:k < 60)(hp:[y1,y2,y3,y4,y5,y6].map (iT 2)=[y1,y2,y3,y4,y5,y6])
  {Q:Exit->St->Prop}{T:dX}(hQ:Q .normal ⟨38,((T.foldr (λe f=>put f e.2.1 (e.2.2 λ_=>true)) (bj [(1, .any),(5, .box 7 0)]))),(λ(L:Nat->Bool)=>[.mu (cR s++[.own 0, .own 1, .bz 1,i64 cost,bif L 10 then .own 2 else bif L 7 then .undef else .own 2, .bool true]),y1,y2,y3,y4,y5,y6, .mu [.box 0 0]]) (λ_=>true),(λ(L:Nat->Bool)=>[cU M,aG ns,⟨true,186,1,bif L 7 then bP k .any++[.any]else bP k .any⟩]) (λ_=>true)⟩)(hT:T=[(0,28,λL=> .box 0 0),(1,29,λL=> .box 0 0),(2,30,λL=> .box 0 0),(3,31,λL=> .box 0 29),(4,32,λL=>bif L 7 then .undef else .own 2),(5,33,λL=> .any),(6,34,λL=> .list [.any]),(7,35,λL=> .own 2),(8,36,λL=> .box 0 0),(9,37,λL=> .box 0 29)]:=by rfl):
  az ⟨ae,w0,S0,M0,none,own,β⟩ (.region 8 ops true) Q ⟨38,bj [(1, .any),(5, .box 7 0)],(λ(L:Nat->Bool)=>[.mu (cR s++[.own 0, .own 1, .bz 1,i64 cost,bif L 10 then .own 2 else bif L 7 then .undef else .own 2, .bool true]),y1,y2,y3,y4,y5,y6, .mu [.box 0 0]]) (λ_=>false),(λ(L:Nat->Bool)=>[cU M,aG ns,⟨true,186,1,bif L 7 then bP k .any++[.any]else bP k .any⟩]) (λ_=>false)⟩:=by
 simp only[jI,pq,List.cons.injEq,and_true]at hp;obtain⟨p1,p2,p3,p4,p5,p6⟩:=hp;unfold iT at p1 p2 p3 p4 p5 p6;simp only[dK,eW,fV,xr,fB,Nat.reduceBEq,cJ,if_false,if_true,bQ,bN,bR,iy,reduceIte,eq_self]at cj;subst cj;have ba:T.map (·.1)=[0,1,2,3,4,5,6,7,8,9]:=by rw[hT];rfl
 have cQ:T.map (·.2.1)=[28,29,30,31,32,33,34,35,36,37]:=by rw[hT];rfl
 have cD:(T.map (·.1)).Nodup:=by rw[ba];decide
 have aS:(T.map (·.2.1)).Nodup:=by rw[cQ];decide
 obtain⟨b,hb⟩:∃b:Nat->D,b=bj [(1, .any),(5, .box 7 0)]:=⟨_,rfl⟩;rw[<-hb];have h0:aI (λ_=>false) (λ_=>false) T b=b:=gR (λ_ _=>rfl);rw[<-h0];refine la (c:=⟨ae,w0,S0,M0,none,own,β⟩) Tryz.ty.mixed rfl aj 38 T b (λL=>[.mu (cR s++[.own 0, .own 1, .bz 1,i64 cost,bif L 10 then .own 2 else bif L 7 then .undef else .own 2, .bool true]),y1,y2,y3,y4,y5,y6, .mu [.box 0 0]]) (λL=>[cU M,aG ns,⟨true,186,1,bif L 7 then bP k .any++[.any]else bP k .any⟩]) (λL k op hC af hL aa=> ?_) (λL hL=> ?_);rotate_left
 ·have bu:∀x∈T.map (·.1),x < 11:=by rw[ba];decide
  rw[gS (λe he=>hL _ (bu _ (gP (f:=(·.1)) he)))];rw[hT,hb];have e7:L 7=true:=hL 7 ak;have a7:L 10=true:=hL 10 ak;simp only[bU,e7,a7];simp only[hT,bU,cond_true]at hQ;exact hQ
 match k,af,hL,aa with
 |0,af,hL,aa=>
  cases af;have a7:=au hC hL 10 [] rfl;clear hC aa;rcases bO (L 7)with e7|e7;all_goals(have hX:=an a7 (an e7 hL);exact aA)
 |1,af,hL,aa=>
  cases af;have e7:=au hC hL 7 [4,3,2] rfl;have a7:=au hC hL 10 [] rfl;have hX:=an e7 (an a7 hL);exact aA
 |2,af,hL,aa=>
  cases af;have d1:=aq aa 1 rfl;have e7:=au hC hL 7 [4,3] rfl;have a7:=au hC hL 10 [] rfl;have hX:=an d1 (an e7 (an a7 hL));exact aA
 |3,af,hL,aa=>
  cases af;have d2:=aq aa 2 rfl;have e7:=au hC hL 7 [4] rfl;have a7:=au hC hL 10 [] rfl;have hX:=an d2 (an e7 (an a7 hL));exact aA
 |4,af,hL,aa=>
  cases af;have d3:=aq aa 3 rfl;have e7:=au hC hL 7 [] rfl;have a7:=au hC hL 10 [] rfl;have hX:=an d3 (an e7 (an a7 hL));exact aA
 |5,af,hL,aa=>
  cases af;have e7:=au hC hL 7 [6] rfl;have a7:=au hC hL 10 [] rfl;have hX:=an e7 (an a7 hL);exact aA
 |6,af,hL,aa=>
  cases af;have d5:=aq aa 5 rfl;have e7:=au hC hL 7 [] rfl;have a7:=au hC hL 10 [] rfl
  (
   have f33:=br (V:=L) (b:=b) d5 aS (show(5,33,λL=> .any)∈T by rw[hT];simp);have g7:more L 6 7=L 7:=rfl;have g10:more L 6 10=L 10:=rfl;have ek:aI (more L 6) (more L 6) T b=put (aI L L T b) 34 (.list [.any]):=(dM hL cD aS (show(6,34,λL=> .list [.any])∈T by rw[hT];simp)).trans (by rw[<-eL (V:=L) (V':=more L 6) (by rw[hT];simp[more])];try rfl);rw[ek];try simp only[e7,a7,g7,g10,cond_true,cond_false,bR,bQ,bN]
   try simp only[e7,a7,g7,g10,cond_true,cond_false,cG,cN,dN,put,Nat.reduceEqDiff,if_true,if_false,reduceIte]at f33
   refine aZ.of ?_
   (refine sX (ai @f33 (ai @hE @g_)) ?_;try exact trivial)
   exact aO.of_eq rfl)
 |7,af,hL,aa=>
  cases af;have d4:=aq aa 4 rfl;have d6:=aq aa 6 rfl;have e7:L 7=false:=hL;have a7:=au hC hL 10 [] rfl
  (
   have f32:=br (V:=L) (b:=b) d4 aS (show(4,32,λL=>bif L 7 then .undef else .own 2)∈T by rw[hT];simp);have f34:=br (V:=L) (b:=b) d6 aS (show(6,34,λL=> .list [.any])∈T by rw[hT];simp);have g7:more L 7 7=true:=rfl;have g10:more L 7 10=L 10:=rfl;have ek:aI (more L 7) (more L 7) T b=put (jz 2 (aI L L T b)) 35 (.own 2):=by
    refine(dM hL cD aS (show(7,35,λL=> .own 2)∈T by rw[hT];simp)).trans ?_;rw[mP (V:=L) (V':=more L 7) (by rw[hb];simp only[cG,cN,nM,nN];rfl) (by rw[hT];simp only[jf,fu,false_implies,implies_true,and_true];and_intros<;>(intro h;first|rfl|exact absurd (hL.symm.trans h) ak|(simp only[e7,a7,g7,g10,cond_true,cond_false];rfl)))]
   rw[ek];try simp only[e7,a7,g7,g10,cond_true,cond_false,bR,bQ,bN]
   try simp only[e7,a7,g7,g10,cond_true,cond_false,cG,cN,dN,put,Nat.reduceEqDiff,if_true,if_false,reduceIte]at f32 f34
   refine aZ.of ?_
   (refine sX (ai @f32 (ai @f34 (ai @hE (ai @iO (ai @g_ (ai @iR (ai @p1 (ai @p2 (ai @p3 (ai @p4 (ai @p5 @p6))))))))))) ?_;try exact trivial)
   first|exact⟨ag,ag,aO.of_eq rfl⟩|trace_state)
 |8,af,hL,aa=>
  cases af;have d0:=aq aa 0 rfl;have e7:=aq aa 7 rfl;have a7:=au hC hL 10 [9] rfl;have hX:=an d0 (an e7 (an a7 hL));exact aA
 |9,af,hL,aa=>
  cases af;have d8:=aq aa 8 rfl;have e7:=ca hC (aq aa 8 rfl) 7 [] rfl;have a7:=au hC hL 10 [] rfl;have hX:=an d8 (an e7 (an a7 hL));exact aA
 |10,af,hL,aa=>
  cases af;have d7:=aq aa 7 rfl;have d9:=aq aa 9 rfl;have e7:=ca hC (aq aa 9 rfl) 7 [] rfl;have a7:L 10=false:=hL;have hX:=an d7 (an d9 (an e7 (an a7 hL)));exact aA
 |k + 11,af,hL,aa=>simp at af
theorem U2 (s:bh)(cost:Int)(x1 x2 x3 x4 x5 x6:Bx)(T:List Bx)(rw:List Row):aT ae 100 [.box 7 0] (.mu (cr s cost)::x1::x2::x3::x4::x5::x6:: .mu [.box 0 0]::T) rw (bw (i64 0) (.mu (cr s cost)::x1::x2::x3::x4::x5::x6:: .mu [.box 0 0]::T) rw):=by
 have c1:=F' s cost (x1::x2::x3::x4::x5::x6:: .mu [.box 0 0]::T) rw;have c2:=lP true 1;refine cV func100 ntmps100 results100 call100 rfl ay λW0 S0 M0 own β hβ=> ?_;repeat'(first|(show az _ (.region 1 _ _) _ _;refine eo 1 rfl (λK1 aK=> ?_);refine av ?_)|(refine aK _ (cC c1 (by show(3:Nat) < 6;decide) rfl rfl rfl rfl ?_);clear aK K1;rintro d aF aL ⟨rfl,rfl,rfl⟩;simp only[bF,Nat.reduceAdd];refine av ?_)|(show cT _ _ _ _ _;refine av ?_)|refine aB ?_|refine aC λK hK=> ?_|refine cA (c2) ?_|(refine kA ?_;clear hK K)|(intro hg;try exact aw)|exact fin|apply ai)
theorem UZ (s:bh)(cost:Int)(x1 x2 x3 x4 x5 x6 y1 y2 y3 y4 y5 y6:Bx)(T:List Bx)(rw:List Row)(fc:FuncId)(cs:List D)(hc:aT ae fc cs (.mu (cr s cost)::x1::x2::x3::x4::x5::x6:: .mu [.box 0 0]:: .mu [.aD fc cs]::T) rw (bw (.bool true) (.mu (cr s cost)::y1::y2::y3::y4::y5::y6:: .mu [.box 0 0]:: .mu [.aD fc cs]::T) rw)):aT ae 102 [.box 8 0] (.mu (cr s cost)::x1::x2::x3::x4::x5::x6:: .mu [.box 0 0]:: .mu [.aD fc cs]::T) rw (bw (i64 0) (.mu (cr s cost)::y1::y2::y3::y4::y5::y6:: .mu [.box 0 0]:: .mu [.aD fc cs]::T) rw):=by
 have c2:=lP true 2;refine cV func102 ntmps102 results102 call102 rfl ay λW0 S0 M0 own β hβ=> ?_;repeat'(first|(show az _ (.region 1 _ _) _ _;refine eo 1 rfl (λK1 aK=> ?_);refine av ?_)|(refine aK _ (cC hc (by show(3:Nat) < 5;decide) rfl rfl rfl rfl ?_);clear aK K1;rintro d aF aL ⟨rfl,rfl,rfl⟩;simp only[bF,Nat.reduceAdd];refine av ?_)|(show cT _ _ _ _ _;refine av ?_)|refine aB ?_|refine aC λK hK=> ?_|refine cA (c2) ?_|(refine kA ?_;clear hK K)|(intro hg;try exact aw)|exact fin|apply ai)
theorem UT (s:bh)(cost:Int)(x1 x2 x3 x4 x5 x6 y1 y2 y3 y4 y5 y6:Bx)(z8 z9:Bx)(T:List Bx)(rw:List Row)(fc:FuncId)(cs:List D)(hc:aT ae fc cs (.mu (cr s cost)::x1::x2::x3::x4::x5::x6:: .mu [.box 0 0]::z8::z9:: .mu [.aD fc cs]::T) rw (bw (.bool true) (.mu (cr s cost)::y1::y2::y3::y4::y5::y6:: .mu [.box 0 0]::z8::z9:: .mu [.aD fc cs]::T) rw)):aT ae 104 [.box 10 0] (.mu (cr s cost)::x1::x2::x3::x4::x5::x6:: .mu [.box 0 0]::z8::z9:: .mu [.aD fc cs]::T) rw (bw (i64 0) (.mu (cr s cost)::y1::y2::y3::y4::y5::y6:: .mu [.box 0 0]::z8::z9:: .mu [.aD fc cs]::T) rw):=by
 have c2:=lP true 7;refine cV func104 ntmps104 results104 call104 rfl ay λW0 S0 M0 own β hβ=> ?_;repeat'(first|(show az _ (.region 1 _ _) _ _;refine eo 1 rfl (λK1 aK=> ?_);refine av ?_)|(refine aK _ (cC hc (by show(3:Nat) < 5;decide) rfl rfl rfl rfl ?_);clear aK K1;rintro d aF aL ⟨rfl,rfl,rfl⟩;simp only[bF,Nat.reduceAdd];refine av ?_)|(show cT _ _ _ _ _;refine av ?_)|refine aB ?_|refine aC λK hK=> ?_|refine cA (c2) ?_|(refine kA ?_;clear hK K)|(intro hg;try exact aw)|exact fin|apply ai)
theorem UX (s:bh)(cost:Int)(x1 x2 x3 x4 x5 x6 z1:Bx)(T:List Bx)(M:List D)(ns k:Nat)(hk:k < 60)(fc:FuncId)(cs:List D)(hc:aT ae fc cs (.mu (cr s cost)::x1::x2::x3::x4::x5::x6:: .mu [.box 0 0]::z1:: .mu [.aD fc cs]::T) [cU M,aG ns,aH k] (bw (.bool true) (.mu (cr s cost)::x1::x2::x3::x4::x5::x6:: .mu [.box 0 0]::z1:: .mu [.aD fc cs]::T) [cU M,aG ns,aH k])):aT ae 103 [.box 7 0, .box 9 0] (.mu (cr s cost)::x1::x2::x3::x4::x5::x6:: .mu [.box 0 0]::z1:: .mu [.aD fc cs]::T) [cU M,aG ns,aH k] (bw (i64 0) (.mu (cr s cost)::x1::x2::x3::x4::x5::x6:: .mu [.box 0 0]::z1:: .mu [.aD fc cs]::T) [cU M,aG ns,aH k]):=by
 have c2:=lP true 6;have hl:(bP k D.any).length=k:=by simp
 refine cV func103 ntmps103 results103 call103 rfl ay λW0 S0 M0 own β hβ=> ?_;repeat'(first|(show az _ (.region 1 _ _) _ _;refine Ex 8 (λN s1=>mz _ N (.tmp 10) [] (some 11) s1) (λ_ _ h=>aZ.rF h) rfl (by intro cl h;cases h) (λK1 aK=> ?_);(refine sX (@hl) ?_;try exact trivial))|(refine aK _ (vk rfl rfl ?_);clear aK K1;refine cC hc (by show(11:Nat) < 14;decide) rfl rfl rfl rfl ?_;rintro d aF aL ⟨rfl,rfl,rfl⟩;simp only[bF,Nat.reduceAdd];(refine sX (@hl) ?_;try exact trivial))|(show cT _ _ _ _ _;(refine sX (@hl) ?_;try exact trivial))|refine bK ?_|((first|refine bL λK hK=> ?_|refine bI ?_|show bC _ _ _ _ _|refine bl (c2) ?_);(refine sX (@hl) ?_;try exact trivial))|(refine kA ?_;clear hK K)|(intro hg;try exact aw)|exact fin|apply ai)
theorem UF (s:bh)(cost:Int)(x1 x2 x3 x4 x5 x6 y1 y2 y3 y4 y5 y6:Bx)(M:List D)(ns k:Nat)(hk:k < 60)(fr fn fh:FuncId)(fo fp fq:List D)(eT:bZ 7 3 [y1,y2,y3,y4,y5,y6]=true)(wC:bZ 8 3 [y1,y2,y3,y4,y5,y6, .mu [.box 0 0]]=true)(jO:[y1,y2,y3,y4,y5,y6].map (iT 2)=[y1,y2,y3,y4,y5,y6])
  (hr:∀T,aT ae fr fo (.mu (cr s cost)::x1::x2::x3::x4::x5::x6::T) [cU M,aG ns,aH k] (bw (.bool true) (.mu (cr s cost)::y1::y2::y3::y4::y5::y6::T) [cU M,aG ns,aH k]))
  (hn:∀T,aT ae fn fp (.mu (cr s cost)::y1::y2::y3::y4::y5::y6::T) [cU M,aG ns,aH k] (bw (.bool true) (.mu (cr s cost)::y1::y2::y3::y4::y5::y6::T) [cU M,aG ns,aH k]))
  (hh:∀T,aT ae fh fq (.mu (cr s cost)::y1::y2::y3::y4::y5::y6::T) [cU M,aG ns,aH k] (bw (.bool true) (.mu (cr s cost)::y1::y2::y3::y4::y5::y6::T) [cU M,aG ns,aH k])):
  aT ae 58 [.box 0 0, .any, .aD fr fo, .aD fn fp, .aD fh fq] [.mu (cr s cost),x1,x2,x3,x4,x5,x6] [cU M,aG ns,aH k] (bw (i64 0) [.mu (cr s cost),y1,y2,y3,y4,y5,y6] [cU M,aG ns,aH (k + 1)]):=by
 have rV:bZ 7 3 [.mu (cr s cost),y1,y2,y3,y4,y5,y6]=true:=eT;have d1:=U2 s cost x1 x2 x3 x4 x5 x6 (.mu [.aD fr fo]:: .mu [.aD fn fp]:: .mu [.aD fh fq]::[]) [cU M,aG ns,aH k];have d2:=UZ s cost x1 x2 x3 x4 x5 x6 y1 y2 y3 y4 y5 y6 (.mu [.aD fn fp]:: .mu [.aD fh fq]::[]) [cU M,aG ns,aH k] fr fo (hr _);have d3:=UX s cost y1 y2 y3 y4 y5 y6 (.mu [.aD fr fo]) (.mu [.aD fh fq]::[]) M ns k hk fn fp (hn _);have d4:=UT s cost y1 y2 y3 y4 y5 y6 y1 y2 y3 y4 y5 y6 (.mu [.aD fr fo]) (.mu [.aD fn fp]) [] [cU M,aG ns,aH k] fh fq (hh _);refine cV func58 ntmps58 results58 call58 rfl ay λW0 S0 M0 own β hβ=> ?_;repeat'(first|(show az _ (.loop _) _ _;refine lJ 5 ?_)|refine bK ?_|((first|refine bL λK hK=> ?_|refine bI ?_|show bC _ _ _ _ _);(refine sX (ai @hE (ai @iO (ai @g_ (ai @iR (@iS))))) ?_;try exact trivial))|(refine kA ?_;clear hK K)|(intro hg;try exact aw)|exact fin|apply ai)
 repeat'(first|(show az _ (.region 8 _ true) _ _;refine b_ ?_)|(refine lp ?_)|(show az _ (.region 4 _ _) _ _;refine eo 1 rfl (λK1 aK=> ?_);(refine sX (ai @hE (ai @iO (ai @g_ (ai @iR (@iS))))) ?_;try exact trivial))|(refine aK _ ?_;clear aK K1;(first|(refine cC d1 (by show(23:Nat) < 38;decide) rfl rfl rfl rfl ?_)|(refine cC d2 (by show(23:Nat) < 38;decide) rfl rfl rfl rfl ?_)|(refine cC d3 (by show(23:Nat) < 38;decide) rfl rfl rfl rfl ?_)|(refine cC d4 (by show(23:Nat) < 38;decide) rfl rfl rfl rfl ?_));rintro d aF aL ⟨rfl,rfl,rfl⟩;simp only[bF,Nat.reduceAdd];(refine sX (ai @hE (ai @iO (ai @g_ (ai @iR (@iS))))) ?_;try exact trivial))|refine bK ?_|((first|refine bL λK hK=> ?_|refine bI ?_|show bC _ _ _ _ _);(refine sX (ai @hE (ai @iO (ai @g_ (ai @iR (@iS))))) ?_;try exact trivial))|(refine kA ?_;clear hK K)|(intro hg;try exact aw)|exact fin|apply ai)
 refine cI ?_;refine k_ (dD 38 [(1, .any),(5, .box 7 0)] [.mu (cr s cost),y1,y2,y3,y4,y5,y6, .mu [.box 0 0]] [cU M,aG ns,aH k]) (aV rfl (by simp[put]) ⟨[_,_,_],rfl⟩ ⟨[],rfl⟩) (gT rfl wC) (by rw[hβ];exact Nat.le_succ _) ?_;refine UD (by rfl) _ _ _ _ _ s cost y1 y2 y3 y4 y5 y6 M ns k hk jO ?_;simp only[bU,cond_true,iS];repeat'(first|(show az _ .ret _ _;refine b_ ?_)|refine bK ?_|((first|refine bL λK hK=> ?_|refine bI ?_|show bC _ _ _ _ _);(refine sX (ai @hE (ai @iO (ai @g_ (ai @iR (@iS))))) ?_;try exact trivial))|(refine kA ?_;clear hK K)|(intro hg;try exact aw)|exact fin|apply ai)
 refine cI ?_;refine k_ (dD 38 [(10,i64 0)] [.mu (cr s cost),y1,y2,y3,y4,y5,y6] [cU M,aG ns,aH (k + 1)]) (aV rfl (by simp[put]) ⟨[_],rfl⟩ ⟨[],rfl⟩) (gT rfl rV) (by rw[hβ];exact Nat.le_refl _) ?_;refine oo ?_;exact⟨rfl,rfl,rfl⟩
theorem UC {ops:Array Oper}(cj:ops=dK xr 8)(w0:World)(S0:Addr->Prop)(M0:MM)(own:Nat->Prop)(β:List Nat)(s:bh)(cost:Int)(y1 y2 y3 y4 y5 y6 y7:Bx)(M:List D)(ns k:Nat)(hk:k < 60)(hp:[y1,y2,y3,y4,y5,y6,y7].map (iT 2)=[y1,y2,y3,y4,y5,y6,y7])
  {Q:Exit->St->Prop}{T:dX}(hQ:Q .normal ⟨38,((T.foldr (λe f=>put f e.2.1 (e.2.2 λ_=>true)) (bj [(1, .any),(5, .box 8 0)]))),(λ(L:Nat->Bool)=>[.mu (cR s++[.own 0, .own 1, .bz 1,i64 cost,bif L 10 then .own 2 else bif L 7 then .undef else .own 2, .bool true]),y1,y2,y3,y4,y5,y6,y7, .mu [.box 0 0]]) (λ_=>true),(λ(L:Nat->Bool)=>[cU M,aG ns,⟨true,186,1,bif L 7 then bP k .any++[.any]else bP k .any⟩]) (λ_=>true)⟩)(hT:T=[(0,28,λL=> .box 0 0),(1,29,λL=> .box 0 0),(2,30,λL=> .box 0 0),(3,31,λL=> .box 0 29),(4,32,λL=>bif L 7 then .undef else .own 2),(5,33,λL=> .any),(6,34,λL=> .list [.any]),(7,35,λL=> .own 2),(8,36,λL=> .box 0 0),(9,37,λL=> .box 0 29)]:=by rfl):
  az ⟨ae,w0,S0,M0,none,own,β⟩ (.region 8 ops true) Q ⟨38,bj [(1, .any),(5, .box 8 0)],(λ(L:Nat->Bool)=>[.mu (cR s++[.own 0, .own 1, .bz 1,i64 cost,bif L 10 then .own 2 else bif L 7 then .undef else .own 2, .bool true]),y1,y2,y3,y4,y5,y6,y7, .mu [.box 0 0]]) (λ_=>false),(λ(L:Nat->Bool)=>[cU M,aG ns,⟨true,186,1,bif L 7 then bP k .any++[.any]else bP k .any⟩]) (λ_=>false)⟩:=by
 simp only[jI,pq,List.cons.injEq,and_true]at hp;obtain⟨p1,p2,p3,p4,p5,p6,p7⟩:=hp;unfold iT at p1 p2 p3 p4 p5 p6 p7;simp only[dK,eW,fV,xr,fB,Nat.reduceBEq,cJ,if_false,if_true,bQ,bN,bR,iy,reduceIte,eq_self]at cj;subst cj;have ba:T.map (·.1)=[0,1,2,3,4,5,6,7,8,9]:=by rw[hT];rfl
 have cQ:T.map (·.2.1)=[28,29,30,31,32,33,34,35,36,37]:=by rw[hT];rfl
 have cD:(T.map (·.1)).Nodup:=by rw[ba];decide
 have aS:(T.map (·.2.1)).Nodup:=by rw[cQ];decide
 obtain⟨b,hb⟩:∃b:Nat->D,b=bj [(1, .any),(5, .box 8 0)]:=⟨_,rfl⟩;rw[<-hb];have h0:aI (λ_=>false) (λ_=>false) T b=b:=gR (λ_ _=>rfl);rw[<-h0];refine la (c:=⟨ae,w0,S0,M0,none,own,β⟩) Tryz.ty.mixed rfl aj 38 T b (λL=>[.mu (cR s++[.own 0, .own 1, .bz 1,i64 cost,bif L 10 then .own 2 else bif L 7 then .undef else .own 2, .bool true]),y1,y2,y3,y4,y5,y6,y7, .mu [.box 0 0]]) (λL=>[cU M,aG ns,⟨true,186,1,bif L 7 then bP k .any++[.any]else bP k .any⟩]) (λL k op hC af hL aa=> ?_) (λL hL=> ?_);rotate_left
 ·have bu:∀x∈T.map (·.1),x < 11:=by rw[ba];decide
  rw[gS (λe he=>hL _ (bu _ (gP (f:=(·.1)) he)))];rw[hT,hb];have e7:L 7=true:=hL 7 ak;have a7:L 10=true:=hL 10 ak;simp only[bU,e7,a7];simp only[hT,bU,cond_true]at hQ;exact hQ
 match k,af,hL,aa with
 |0,af,hL,aa=>
  cases af;have a7:=au hC hL 10 [] rfl;clear hC aa;rcases bO (L 7)with e7|e7;all_goals(have hX:=an a7 (an e7 hL);exact aA)
 |1,af,hL,aa=>
  cases af;have e7:=au hC hL 7 [4,3,2] rfl;have a7:=au hC hL 10 [] rfl;have hX:=an e7 (an a7 hL);exact aA
 |2,af,hL,aa=>
  cases af;have d1:=aq aa 1 rfl;have e7:=au hC hL 7 [4,3] rfl;have a7:=au hC hL 10 [] rfl;have hX:=an d1 (an e7 (an a7 hL));exact aA
 |3,af,hL,aa=>
  cases af;have d2:=aq aa 2 rfl;have e7:=au hC hL 7 [4] rfl;have a7:=au hC hL 10 [] rfl;have hX:=an d2 (an e7 (an a7 hL));exact aA
 |4,af,hL,aa=>
  cases af;have d3:=aq aa 3 rfl;have e7:=au hC hL 7 [] rfl;have a7:=au hC hL 10 [] rfl;have hX:=an d3 (an e7 (an a7 hL));exact aA
 |5,af,hL,aa=>
  cases af;have e7:=au hC hL 7 [6] rfl;have a7:=au hC hL 10 [] rfl;have hX:=an e7 (an a7 hL);exact aA
 |6,af,hL,aa=>
  cases af;have d5:=aq aa 5 rfl;have e7:=au hC hL 7 [] rfl;have a7:=au hC hL 10 [] rfl
  (
   have f33:=br (V:=L) (b:=b) d5 aS (show(5,33,λL=> .any)∈T by rw[hT];simp);have g7:more L 6 7=L 7:=rfl;have g10:more L 6 10=L 10:=rfl;have ek:aI (more L 6) (more L 6) T b=put (aI L L T b) 34 (.list [.any]):=(dM hL cD aS (show(6,34,λL=> .list [.any])∈T by rw[hT];simp)).trans (by rw[<-eL (V:=L) (V':=more L 6) (by rw[hT];simp[more])];try rfl);rw[ek];try simp only[e7,a7,g7,g10,cond_true,cond_false,bR,bQ,bN]
   try simp only[e7,a7,g7,g10,cond_true,cond_false,cG,cN,dN,put,Nat.reduceEqDiff,if_true,if_false,reduceIte]at f33
   refine aZ.of ?_
   (refine sX (ai @f33 (ai @hE @g_)) ?_;try exact trivial)
   exact aO.of_eq rfl)
 |7,af,hL,aa=>
  cases af;have d4:=aq aa 4 rfl;have d6:=aq aa 6 rfl;have e7:L 7=false:=hL;have a7:=au hC hL 10 [] rfl
  (
   have f32:=br (V:=L) (b:=b) d4 aS (show(4,32,λL=>bif L 7 then .undef else .own 2)∈T by rw[hT];simp);have f34:=br (V:=L) (b:=b) d6 aS (show(6,34,λL=> .list [.any])∈T by rw[hT];simp);have g7:more L 7 7=true:=rfl;have g10:more L 7 10=L 10:=rfl;have ek:aI (more L 7) (more L 7) T b=put (jz 2 (aI L L T b)) 35 (.own 2):=by
    refine(dM hL cD aS (show(7,35,λL=> .own 2)∈T by rw[hT];simp)).trans ?_;rw[mP (V:=L) (V':=more L 7) (by rw[hb];simp only[cG,cN,nM,nN];rfl) (by rw[hT];simp only[jf,fu,false_implies,implies_true,and_true];and_intros<;>(intro h;first|rfl|exact absurd (hL.symm.trans h) ak|(simp only[e7,a7,g7,g10,cond_true,cond_false];rfl)))]
   rw[ek];try simp only[e7,a7,g7,g10,cond_true,cond_false,bR,bQ,bN]
   try simp only[e7,a7,g7,g10,cond_true,cond_false,cG,cN,dN,put,Nat.reduceEqDiff,if_true,if_false,reduceIte]at f32 f34
   refine aZ.of ?_
   (refine sX (ai @f32 (ai @f34 (ai @hE (ai @iO (ai @g_ (ai @iR (ai @p1 (ai @p2 (ai @p3 (ai @p4 (ai @p5 (ai @p6 @p7)))))))))))) ?_;try exact trivial)
   first|exact⟨ag,ag,aO.of_eq rfl⟩|trace_state)
 |8,af,hL,aa=>
  cases af;have d0:=aq aa 0 rfl;have e7:=aq aa 7 rfl;have a7:=au hC hL 10 [9] rfl;have hX:=an d0 (an e7 (an a7 hL));exact aA
 |9,af,hL,aa=>
  cases af;have d8:=aq aa 8 rfl;have e7:=ca hC (aq aa 8 rfl) 7 [] rfl;have a7:=au hC hL 10 [] rfl;have hX:=an d8 (an e7 (an a7 hL));exact aA
 |10,af,hL,aa=>
  cases af;have d7:=aq aa 7 rfl;have d9:=aq aa 9 rfl;have e7:=ca hC (aq aa 9 rfl) 7 [] rfl;have a7:L 10=false:=hL;have hX:=an d7 (an d9 (an e7 (an a7 hL)));exact aA
 |k + 11,af,hL,aa=>simp at af
theorem U1 (s:bh)(cost:Int)(x1 x2 x3 x4 x5 x6 x7:Bx)(T:List Bx)(rw:List Row):aT ae 100 [.box 8 0] (.mu (cr s cost)::x1::x2::x3::x4::x5::x6::x7:: .mu [.box 0 0]::T) rw (bw (i64 0) (.mu (cr s cost)::x1::x2::x3::x4::x5::x6::x7:: .mu [.box 0 0]::T) rw):=by
 have c1:=F' s cost (x1::x2::x3::x4::x5::x6::x7:: .mu [.box 0 0]::T) rw;have c2:=lP true 1;refine cV func100 ntmps100 results100 call100 rfl ay λW0 S0 M0 own β hβ=> ?_;repeat'(first|(show az _ (.region 1 _ _) _ _;refine eo 1 rfl (λK1 aK=> ?_);refine av ?_)|(refine aK _ (cC c1 (by show(3:Nat) < 6;decide) rfl rfl rfl rfl ?_);clear aK K1;rintro d aF aL ⟨rfl,rfl,rfl⟩;simp only[bF,Nat.reduceAdd];refine av ?_)|(show cT _ _ _ _ _;refine av ?_)|refine aB ?_|refine aC λK hK=> ?_|refine cA (c2) ?_|(refine kA ?_;clear hK K)|(intro hg;try exact aw)|exact fin|apply ai)
theorem UY (s:bh)(cost:Int)(x1 x2 x3 x4 x5 x6 x7 y1 y2 y3 y4 y5 y6 y7:Bx)(T:List Bx)(rw:List Row)(fc:FuncId)(cs:List D)(hc:aT ae fc cs (.mu (cr s cost)::x1::x2::x3::x4::x5::x6::x7:: .mu [.box 0 0]:: .mu [.aD fc cs]::T) rw (bw (.bool true) (.mu (cr s cost)::y1::y2::y3::y4::y5::y6::y7:: .mu [.box 0 0]:: .mu [.aD fc cs]::T) rw)):aT ae 102 [.box 9 0] (.mu (cr s cost)::x1::x2::x3::x4::x5::x6::x7:: .mu [.box 0 0]:: .mu [.aD fc cs]::T) rw (bw (i64 0) (.mu (cr s cost)::y1::y2::y3::y4::y5::y6::y7:: .mu [.box 0 0]:: .mu [.aD fc cs]::T) rw):=by
 have c2:=lP true 2;refine cV func102 ntmps102 results102 call102 rfl ay λW0 S0 M0 own β hβ=> ?_;repeat'(first|(show az _ (.region 1 _ _) _ _;refine eo 1 rfl (λK1 aK=> ?_);refine av ?_)|(refine aK _ (cC hc (by show(3:Nat) < 5;decide) rfl rfl rfl rfl ?_);clear aK K1;rintro d aF aL ⟨rfl,rfl,rfl⟩;simp only[bF,Nat.reduceAdd];refine av ?_)|(show cT _ _ _ _ _;refine av ?_)|refine aB ?_|refine aC λK hK=> ?_|refine cA (c2) ?_|(refine kA ?_;clear hK K)|(intro hg;try exact aw)|exact fin|apply ai)
theorem US (s:bh)(cost:Int)(x1 x2 x3 x4 x5 x6 x7 y1 y2 y3 y4 y5 y6 y7:Bx)(z9 sC:Bx)(T:List Bx)(rw:List Row)(fc:FuncId)(cs:List D)(hc:aT ae fc cs (.mu (cr s cost)::x1::x2::x3::x4::x5::x6::x7:: .mu [.box 0 0]::z9::sC:: .mu [.aD fc cs]::T) rw (bw (.bool true) (.mu (cr s cost)::y1::y2::y3::y4::y5::y6::y7:: .mu [.box 0 0]::z9::sC:: .mu [.aD fc cs]::T) rw)):aT ae 104 [.box 11 0] (.mu (cr s cost)::x1::x2::x3::x4::x5::x6::x7:: .mu [.box 0 0]::z9::sC:: .mu [.aD fc cs]::T) rw (bw (i64 0) (.mu (cr s cost)::y1::y2::y3::y4::y5::y6::y7:: .mu [.box 0 0]::z9::sC:: .mu [.aD fc cs]::T) rw):=by
 have c2:=lP true 7;refine cV func104 ntmps104 results104 call104 rfl ay λW0 S0 M0 own β hβ=> ?_;repeat'(first|(show az _ (.region 1 _ _) _ _;refine eo 1 rfl (λK1 aK=> ?_);refine av ?_)|(refine aK _ (cC hc (by show(3:Nat) < 5;decide) rfl rfl rfl rfl ?_);clear aK K1;rintro d aF aL ⟨rfl,rfl,rfl⟩;simp only[bF,Nat.reduceAdd];refine av ?_)|(show cT _ _ _ _ _;refine av ?_)|refine aB ?_|refine aC λK hK=> ?_|refine cA (c2) ?_|(refine kA ?_;clear hK K)|(intro hg;try exact aw)|exact fin|apply ai)
theorem UW (s:bh)(cost:Int)(x1 x2 x3 x4 x5 x6 x7 z1:Bx)(T:List Bx)(M:List D)(ns k:Nat)(hk:k < 60)(fc:FuncId)(cs:List D)(hc:aT ae fc cs (.mu (cr s cost)::x1::x2::x3::x4::x5::x6::x7:: .mu [.box 0 0]::z1:: .mu [.aD fc cs]::T) [cU M,aG ns,aH k] (bw (.bool true) (.mu (cr s cost)::x1::x2::x3::x4::x5::x6::x7:: .mu [.box 0 0]::z1:: .mu [.aD fc cs]::T) [cU M,aG ns,aH k])):aT ae 103 [.box 8 0, .box 10 0] (.mu (cr s cost)::x1::x2::x3::x4::x5::x6::x7:: .mu [.box 0 0]::z1:: .mu [.aD fc cs]::T) [cU M,aG ns,aH k] (bw (i64 0) (.mu (cr s cost)::x1::x2::x3::x4::x5::x6::x7:: .mu [.box 0 0]::z1:: .mu [.aD fc cs]::T) [cU M,aG ns,aH k]):=by
 have c2:=lP true 6;have hl:(bP k D.any).length=k:=by simp
 refine cV func103 ntmps103 results103 call103 rfl ay λW0 S0 M0 own β hβ=> ?_;repeat'(first|(show az _ (.region 1 _ _) _ _;refine Ex 8 (λN s1=>mz _ N (.tmp 10) [] (some 11) s1) (λ_ _ h=>aZ.rF h) rfl (by intro cl h;cases h) (λK1 aK=> ?_);(refine sX (@hl) ?_;try exact trivial))|(refine aK _ (vk rfl rfl ?_);clear aK K1;refine cC hc (by show(11:Nat) < 14;decide) rfl rfl rfl rfl ?_;rintro d aF aL ⟨rfl,rfl,rfl⟩;simp only[bF,Nat.reduceAdd];(refine sX (@hl) ?_;try exact trivial))|(show cT _ _ _ _ _;(refine sX (@hl) ?_;try exact trivial))|refine bK ?_|((first|refine bL λK hK=> ?_|refine bI ?_|show bC _ _ _ _ _|refine bl (c2) ?_);(refine sX (@hl) ?_;try exact trivial))|(refine kA ?_;clear hK K)|(intro hg;try exact aw)|exact fin|apply ai)
theorem UE (s:bh)(cost:Int)(x1 x2 x3 x4 x5 x6 x7 y1 y2 y3 y4 y5 y6 y7:Bx)(M:List D)(ns k:Nat)(hk:k < 60)(fr fn fh:FuncId)(fo fp fq:List D)(eT:bZ 8 3 [y1,y2,y3,y4,y5,y6,y7]=true)(wC:bZ 9 3 [y1,y2,y3,y4,y5,y6,y7, .mu [.box 0 0]]=true)(jO:[y1,y2,y3,y4,y5,y6,y7].map (iT 2)=[y1,y2,y3,y4,y5,y6,y7])
  (hr:∀T,aT ae fr fo (.mu (cr s cost)::x1::x2::x3::x4::x5::x6::x7::T) [cU M,aG ns,aH k] (bw (.bool true) (.mu (cr s cost)::y1::y2::y3::y4::y5::y6::y7::T) [cU M,aG ns,aH k]))
  (hn:∀T,aT ae fn fp (.mu (cr s cost)::y1::y2::y3::y4::y5::y6::y7::T) [cU M,aG ns,aH k] (bw (.bool true) (.mu (cr s cost)::y1::y2::y3::y4::y5::y6::y7::T) [cU M,aG ns,aH k]))
  (hh:∀T,aT ae fh fq (.mu (cr s cost)::y1::y2::y3::y4::y5::y6::y7::T) [cU M,aG ns,aH k] (bw (.bool true) (.mu (cr s cost)::y1::y2::y3::y4::y5::y6::y7::T) [cU M,aG ns,aH k])):
  aT ae 58 [.box 0 0, .any, .aD fr fo, .aD fn fp, .aD fh fq] [.mu (cr s cost),x1,x2,x3,x4,x5,x6,x7] [cU M,aG ns,aH k] (bw (i64 0) [.mu (cr s cost),y1,y2,y3,y4,y5,y6,y7] [cU M,aG ns,aH (k + 1)]):=by
 have rV:bZ 8 3 [.mu (cr s cost),y1,y2,y3,y4,y5,y6,y7]=true:=eT;have d1:=U1 s cost x1 x2 x3 x4 x5 x6 x7 (.mu [.aD fr fo]:: .mu [.aD fn fp]:: .mu [.aD fh fq]::[]) [cU M,aG ns,aH k];have d2:=UY s cost x1 x2 x3 x4 x5 x6 x7 y1 y2 y3 y4 y5 y6 y7 (.mu [.aD fn fp]:: .mu [.aD fh fq]::[]) [cU M,aG ns,aH k] fr fo (hr _);have d3:=UW s cost y1 y2 y3 y4 y5 y6 y7 (.mu [.aD fr fo]) (.mu [.aD fh fq]::[]) M ns k hk fn fp (hn _);have d4:=US s cost y1 y2 y3 y4 y5 y6 y7 y1 y2 y3 y4 y5 y6 y7 (.mu [.aD fr fo]) (.mu [.aD fn fp]) [] [cU M,aG ns,aH k] fh fq (hh _);refine cV func58 ntmps58 results58 call58 rfl ay λW0 S0 M0 own β hβ=> ?_;repeat'(first|(show az _ (.loop _) _ _;refine lJ 5 ?_)|refine bK ?_|((first|refine bL λK hK=> ?_|refine bI ?_|show bC _ _ _ _ _);(refine sX (ai @hE (ai @iO (ai @g_ (ai @iR (@iS))))) ?_;try exact trivial))|(refine kA ?_;clear hK K)|(intro hg;try exact aw)|exact fin|apply ai)
 repeat'(first|(show az _ (.region 8 _ true) _ _;refine b_ ?_)|(refine lp ?_)|(show az _ (.region 4 _ _) _ _;refine eo 1 rfl (λK1 aK=> ?_);(refine sX (ai @hE (ai @iO (ai @g_ (ai @iR (@iS))))) ?_;try exact trivial))|(refine aK _ ?_;clear aK K1;(first|(refine cC d1 (by show(23:Nat) < 38;decide) rfl rfl rfl rfl ?_)|(refine cC d2 (by show(23:Nat) < 38;decide) rfl rfl rfl rfl ?_)|(refine cC d3 (by show(23:Nat) < 38;decide) rfl rfl rfl rfl ?_)|(refine cC d4 (by show(23:Nat) < 38;decide) rfl rfl rfl rfl ?_));rintro d aF aL ⟨rfl,rfl,rfl⟩;simp only[bF,Nat.reduceAdd];(refine sX (ai @hE (ai @iO (ai @g_ (ai @iR (@iS))))) ?_;try exact trivial))|refine bK ?_|((first|refine bL λK hK=> ?_|refine bI ?_|show bC _ _ _ _ _);(refine sX (ai @hE (ai @iO (ai @g_ (ai @iR (@iS))))) ?_;try exact trivial))|(refine kA ?_;clear hK K)|(intro hg;try exact aw)|exact fin|apply ai)
 refine cI ?_;refine k_ (dD 38 [(1, .any),(5, .box 8 0)] [.mu (cr s cost),y1,y2,y3,y4,y5,y6,y7, .mu [.box 0 0]] [cU M,aG ns,aH k]) (aV rfl (by simp[put]) ⟨[_,_,_],rfl⟩ ⟨[],rfl⟩) (gT rfl wC) (by rw[hβ];exact Nat.le_succ _) ?_;refine UC (by rfl) _ _ _ _ _ s cost y1 y2 y3 y4 y5 y6 y7 M ns k hk jO ?_;simp only[bU,cond_true,iS];repeat'(first|(show az _ .ret _ _;refine b_ ?_)|refine bK ?_|((first|refine bL λK hK=> ?_|refine bI ?_|show bC _ _ _ _ _);(refine sX (ai @hE (ai @iO (ai @g_ (ai @iR (@iS))))) ?_;try exact trivial))|(refine kA ?_;clear hK K)|(intro hg;try exact aw)|exact fin|apply ai)
 refine cI ?_;refine k_ (dD 38 [(10,i64 0)] [.mu (cr s cost),y1,y2,y3,y4,y5,y6,y7] [cU M,aG ns,aH (k + 1)]) (aV rfl (by simp[put]) ⟨[_],rfl⟩ ⟨[],rfl⟩) (gT rfl rV) (by rw[hβ];exact Nat.le_refl _) ?_;refine oo ?_;exact⟨rfl,rfl,rfl⟩
abbrev Eo (s:bh)(cost:Int)(M:List D)(n k:Nat):List D:=cR s++[.list M, .list (bP n .any), .any,i64 cost, .list (bP k .any), .bool true]
theorem aa3 (s:bh)(cost n:Int)(hd:1<=s.dy/\s.dy<=4)(M:List D)(ns k:Nat):ax ae 105 [.ro (Eo s cost M ns k),i64 n] (.bool (decide (0<=n/\n<=s.dy - 1))):=by
 have c1:=yq n 0 (s.dy - 1);refine aR func105 ntmps105 results105 call105 rfl ay λw0 S0 M0=> ?_;repeat'(first|refine aB ?_|refine aC λK hK=> ?_|refine cA (c1) ?_|(refine kA ?_;clear hK K)|(intro hg;try exact aw)|exact fin|apply ai)
theorem Py (s:bh)(cost n d:Int)(hd:1<=s.dy/\s.dy<=4)(hw:s.wt.length<=5)(hn:0<=n/\n<=s.dy - 1)(eh:0<=d/\d<=(s.wt.length:Int) - 1)(M:List D)(ns k:Nat):ax ae 61 [.ro (Eo s cost M ns k),i64 n,i64 d] (.bool true):=by
 have c1:=yq d 0 ((s.wt.length:Int) - 1);rw[decide_eq_true eh]at c1;have c2:=aa3 s cost n hd M ns k;rw[decide_eq_true hn]at c2;refine aR func61 ntmps61 results61 call61 rfl ay λw0 S0 M0=> ?_;repeat'(first|refine aB ?_|refine aC λK hK=> ?_|refine cA (c1) ?_|refine cA (c2) ?_|(refine kA ?_;clear hK K)|(intro hg;try exact aw)|exact fin|apply ai)
theorem Wg {ops:Array Oper}(cj:ops=dK Tryz.f59 2)(w0:World)(S0:Addr->Prop)(M0:MM)(own:Nat->Prop)(β:List Nat)(s:bh)(cost day bc:Int)(ps:List Int)(dV:(ps.length:Int)=s.cl)(M:List D)(ns k:Nat)(X:List Bx)(c2:ax ae 61 [.ro (Eo s cost M ns k),i64 day,i64 bc] (.bool true))
  {Q:Exit->St->Prop}{T:dX}(hQ:Q .normal ⟨30,((T.foldr (λe f=>put f e.2.1 (e.2.2 λ_=>true)) (bj [(0, .box 5 0),(1, .box 2 0),(2, .box 3 0),(3, .box 4 0),(4, .bool false),(6,i64 0)]))),(λ(L:Nat->Bool)=> .mu (cr s cost):: .mp []:: .mu [.box 0 0]:: .mu [i64 day]:: .mu [i64 bc]:: .mu [ints ps]:: .mu [i64 day,i64 bc]::X) (λ_=>true),(λ(L:Nat->Bool)=>[cU M,aG ns,aH k]) (λ_=>true)⟩)(hT:T=[(0,12,λL=> .box 0 0),(1,13,λL=>i64 day),(2,14,λL=>i64 bc),(3,15,λL=> .bool true),(4,16,λL=> .bool true),(5,17,λL=>ints ps),(6,18,λL=>i64 ps.length),(7,19,λL=> .box 0 0),(8,20,λL=> .box 0 0),(9,21,λL=> .box 0 0),(10,22,λL=> .box 0 19),(11,23,λL=>i64 s.cl),(12,24,λL=> .bool true),(13,25,λL=> .bool true),(14,26,λL=> .bool true),(15,27,λL=>i64 0),(16,28,λL=> .bool true),(17,29,λL=> .bool true),(18,4,λL=> .bool true)]:=by rfl):
  az ⟨ae,w0,S0,M0,none,own,β⟩ (.region 2 ops true) Q ⟨30,bj [(0, .box 5 0),(1, .box 2 0),(2, .box 3 0),(3, .box 4 0),(4, .bool false),(6,i64 0)],(λ(L:Nat->Bool)=> .mu (cr s cost):: .mp []:: .mu [.box 0 0]:: .mu [i64 day]:: .mu [i64 bc]:: .mu [ints ps]:: .mu [i64 day,i64 bc]::X) (λ_=>false),(λ(L:Nat->Bool)=>[cU M,aG ns,aH k]) (λ_=>false)⟩:=by
 simp only[dK,eW,fV,Tryz.f59,fB,Nat.reduceBEq,cJ,if_false,if_true,bQ,bN,bR,iy,reduceIte,eq_self]at cj;subst cj;have ba:T.map (·.1)=[0,1,2,3,4,5,6,7,8,9,10,11,12,13,14,15,16,17,18]:=by rw[hT];rfl
 have cQ:T.map (·.2.1)=[12,13,14,15,16,17,18,19,20,21,22,23,24,25,26,27,28,29,4]:=by rw[hT];rfl
 have cD:(T.map (·.1)).Nodup:=by rw[ba];decide
 have aS:(T.map (·.2.1)).Nodup:=by rw[cQ];decide
 obtain⟨b,hb⟩:∃b:Nat->D,b=bj [(0, .box 5 0),(1, .box 2 0),(2, .box 3 0),(3, .box 4 0),(4, .bool false),(6,i64 0)]:=⟨_,rfl⟩;rw[<-hb];have h0:aI (λ_=>false) (λ_=>false) T b=b:=gR (λ_ _=>rfl);rw[<-h0];refine Ey (c:=⟨ae,w0,S0,M0,none,own,β⟩) Tryz.ty.mixed rfl aj 30 T b (λL=> .mu (cr s cost):: .mp []:: .mu [.box 0 0]:: .mu [i64 day]:: .mu [i64 bc]:: .mu [ints ps]:: .mu [i64 day,i64 bc]::X) (λL=>[cU M,aG ns,aH k]) (λL k op hC af hL aa=> ?_) (λL hL=> ?_);rotate_left
 ·have bu:∀x∈T.map (·.1),x < 19:=by rw[ba];decide
  rw[gS (λe he=>hL _ (bu _ (gP (f:=(·.1)) he)))];rw[hT,hb];simp only[bU,eq_self];simp only[hT,bU,cond_true]at hQ;exact hQ
 match k,af,hL,aa with
 |0,af,hL,aa=>
  cases af;have hX:=hL;exact aA
 |1,af,hL,aa=>
  cases af;have hX:=hL;exact aA
 |2,af,hL,aa=>
  cases af;have hX:=hL;exact aA
 |3,af,hL,aa=>
  cases af;have d0:=aq aa 0 rfl;have d1:=aq aa 1 rfl;have d2:=aq aa 2 rfl
  (
   have f12:=br (V:=L) (b:=b) d0 aS (show(0,12,λL=> .box 0 0)∈T by rw[hT];simp);have f13:=br (V:=L) (b:=b) d1 aS (show(1,13,λL=>i64 day)∈T by rw[hT];simp);have f14:=br (V:=L) (b:=b) d2 aS (show(2,14,λL=>i64 bc)∈T by rw[hT];simp);have ek:aI (more L 3) (more L 3) T b=put (aI L L T b) 15 (.bool true):=(dM hL cD aS (show(3,15,λL=> .bool true)∈T by rw[hT];simp)).trans (by rw[<-eL (V:=L) (V':=more L 3) (by rw[hT];simp[more])];try rfl);rw[ek];try simp only[eq_self,cond_true,cond_false,bR,bQ,bN]
   try simp only[eq_self,cond_true,cond_false,cG,cN,dN,put,Nat.reduceEqDiff,if_true,if_false,reduceIte]at f12 f13 f14
   refine ee.j4 rfl ?_;refine aZ.sV 6 c2 rfl (by show(15:Nat) < 30;decide) rfl (by show mM _ _ 6 [aI L L T b 12,aI L L T b 13,aI L L T b 14]=some _;rw[f12,f13,f14];simp[vw,mM]) (aO.of_eq rfl))
 |4,af,hL,aa=>
  cases af;have d3:=aq aa 3 rfl;have hX:=an d3 hL;exact aA
 |5,af,hL,aa=>
  cases af;have d4:=aq aa 4 rfl;have hX:=an d4 hL;exact aA
 |6,af,hL,aa=>
  cases af;have d4:=aq aa 4 rfl;have d5:=aq aa 5 rfl;have hX:=an d4 (an d5 hL);exact aA
 |7,af,hL,aa=>
  cases af;have d4:=aq aa 4 rfl;have hX:=an d4 hL;exact aA
 |8,af,hL,aa=>
  cases af;have d4:=aq aa 4 rfl;have d7:=aq aa 7 rfl;have hX:=an d4 (an d7 hL);exact aA
 |9,af,hL,aa=>
  cases af;have d4:=aq aa 4 rfl;have d8:=aq aa 8 rfl;have hX:=an d4 (an d8 hL);exact aA
 |10,af,hL,aa=>
  cases af;have d4:=aq aa 4 rfl;have d9:=aq aa 9 rfl;have hX:=an d4 (an d9 hL);exact aA
 |11,af,hL,aa=>
  cases af;have d4:=aq aa 4 rfl;have d10:=aq aa 10 rfl;have hX:=an d4 (an d10 hL);exact aA
 |12,af,hL,aa=>
  cases af;have d4:=aq aa 4 rfl;have d6:=aq aa 6 rfl;have d11:=aq aa 11 rfl
  (
   have f16:=br (V:=L) (b:=b) d4 aS (show(4,16,λL=> .bool true)∈T by rw[hT];simp);have f18:=br (V:=L) (b:=b) d6 aS (show(6,18,λL=>i64 ps.length)∈T by rw[hT];simp);have f23:=br (V:=L) (b:=b) d11 aS (show(11,23,λL=>i64 s.cl)∈T by rw[hT];simp);have ek:aI (more L 12) (more L 12) T b=put (aI L L T b) 24 (.bool true):=(dM hL cD aS (show(12,24,λL=> .bool true)∈T by rw[hT];simp)).trans (by rw[<-eL (V:=L) (V':=more L 12) (by rw[hT];simp[more])];try rfl);rw[ek];try simp only[eq_self,cond_true,cond_false,bR,bQ,bN]
   try simp only[eq_self,cond_true,cond_false,cG,cN,dN,put,Nat.reduceEqDiff,if_true,if_false,reduceIte]at f16 f18 f23
   refine ee.on (t:=16) rfl rfl f16 ?_;refine aZ.of ?_
   (refine sX (ai @f16 (ai @f18 (ai @f23 (ai @dV @decide_true)))) ?_;try exact trivial)
   first|exact aO.of_eq rfl|exact⟨by assumption,aO.of_eq rfl⟩|exact⟨ag,ag,aO.of_eq rfl⟩|(refine⟨?_, ?_⟩<;>first|exact aO.of_eq rfl|omega|rfl)|skip)
 |13,af,hL,aa=>
  cases af;have d4:=aq aa 4 rfl;have d12:=aq aa 12 rfl;have hX:=an d4 (an d12 hL);exact aA
 |14,af,hL,aa=>
  cases af;have d13:=aq aa 13 rfl;have hX:=an d13 hL;exact aA
 |15,af,hL,aa=>
  cases af;have d14:=aq aa 14 rfl;have hX:=an d14 hL;exact aA
 |16,af,hL,aa=>
  cases af;have d14:=aq aa 14 rfl;have d15:=aq aa 15 rfl;have hX:=an d14 (an d15 hL);exact aA
 |17,af,hL,aa=>
  cases af;have d14:=aq aa 14 rfl;have d16:=aq aa 16 rfl;have hX:=an d14 (an d16 hL);exact aA
 |18,af,hL,aa=>
  cases af;have d17:=aq aa 17 rfl;have hX:=an d17 hL;exact aA
 |k + 19,af,hL,aa=>simp at af
theorem Wh (s:bh)(cost day bc:Int)(ps:List Int)(hd:1<=s.dy/\s.dy<=4)(hw:s.wt.length<=5)(hn:0<=day/\day<=s.dy - 1)(eh:0<=bc/\bc<=(s.wt.length:Int) - 1)(hp:Sc.gy ps)(dV:(ps.length:Int)=s.cl)(bE:1<=s.cl)(M:List D)(ns k:Nat)(X:List Bx):
  aT ae 59 [.box 5 0, .box 2 0, .box 3 0, .box 4 0] (.mu (cr s cost):: .mp []:: .mu [.box 0 0]:: .mu [i64 day]:: .mu [i64 bc]:: .mu [ints ps]:: .mu [i64 day,i64 bc]::X) [cU M,aG ns,aH k] (bw (.bool true) (.mu (cr s cost):: .mp []:: .mu [.box 0 0]:: .mu [i64 day]:: .mu [i64 bc]:: .mu [ints ps]:: .mu [i64 day,i64 bc]::X) [cU M,aG ns,aH k]):=by
 have c1:=Sc.QK ps 0;rw[if_pos ⟨hp,ag,ag⟩,if_pos ⟨hp,ag,ag⟩]at c1;have c2:=Py s cost day bc hd hw hn eh M ns k;refine cV func59 ntmps59 results59 call59 rfl ay λW0 S0 M0 own β hβ=> ?_;repeat'(first|(show az _ (.region 2 _ true) _ _;refine b_ ?_)|refine aB ?_|refine aC λK hK=> ?_|refine cA (c1) ?_|(refine kA ?_;clear hK K)|(intro hg;try exact aw)|exact fin|apply ai)
 refine cI ?_;refine eI (jZ [(0, .box 5 0),(1, .box 2 0),(2, .box 3 0),(3, .box 4 0),(4, .bool false),(6,i64 0)] (by simp[put])) ?_;refine Wg (by rfl) _ _ _ _ _ s cost day bc ps dV M ns k X c2 ?_;simp only[bU];repeat'(first|(show cT _ _ _ _ _;refine av ?_)|refine aB ?_|refine aC λK hK=> ?_|(refine kA ?_;clear hK K)|(intro hg;try exact aw)|exact fin|apply ai)
theorem Wf (s:bh)(cost day bc:Int)(ps:List Int)(M:List D)(ns k:Nat)(X:List Bx):
  aT ae 62 [.box 2 0, .box 6 0] (.mu (cr s cost):: .mp []:: .mu [.box 0 0]:: .mu [i64 day]:: .mu [i64 bc]:: .mu [ints ps]:: .mu [i64 day,i64 bc]::X) [cU M,aG ns,aH k] (bw (.bool true) (.mu (cr s cost):: .mp []:: .mu [.box 0 0]:: .mu [i64 day]:: .mu [i64 bc]:: .mu [ints ps]:: .mu [i64 day,i64 bc]::X) [cU M,aG ns,aH k]):=by
 refine cV func62 ntmps62 results62 call62 rfl ay λW0 S0 M0 own β hβ=> ?_;repeat'(first|(show cT _ _ _ _ _;refine av ?_)|refine aB ?_|refine aC λK hK=> ?_|(refine kA ?_;clear hK K)|(intro hg;try exact aw)|exact fin|apply ai)
theorem We (B:List Bx)(rw:List Row):aT ae 63 [] B rw (bw (.bool true) B rw):=by
 refine cV func63 ntmps63 results63 call63 rfl ay λW0 S0 M0 own β hβ=> ?_;repeat'(first|(show cT _ _ _ _ _;refine av ?_)|refine aB ?_|refine aC λK hK=> ?_|(refine kA ?_;clear hK K)|(intro hg;try exact aw)|exact fin|apply ai)
theorem Wd (s:bh)(cost day bc:Int)(ps:List Int)(hd:1<=s.dy/\s.dy<=4)(hw:s.wt.length<=5)(hn:0<=day/\day<=s.dy - 1)(eh:0<=bc/\bc<=(s.wt.length:Int) - 1)(hp:Sc.gy ps)(dV:(ps.length:Int)=s.cl)(bE:1<=s.cl)(lz:ps.length<=1000)(M:List D)(ns k:Nat)(hk:k < 60):
  aT ae 27 [.box 0 0,i64 day,i64 bc,ints ps] [.mu (cr s cost), .mp []] [cU M,aG ns,aH k] (λd aF aL=>d=i64 0/\aF=[.mu (cr s cost), .mp [(.agg [i64 day,i64 bc], .box 2 0)], .mu [ints ps,i64 0]]/\aL=[cU M,aG ns,aH (k + 1)]):=by
 have c1:=HW ps ag;have c2:=UF s cost (.mp []) (.mu [.box 0 0]) (.mu [i64 day]) (.mu [i64 bc]) (.mu [ints ps]) (.mu [i64 day,i64 bc]) (.mp []) (.mu [.box 0 0]) (.mu [i64 day]) (.mu [i64 bc]) (.mu [ints ps]) (.mu [i64 day,i64 bc]) M ns k hk 59 62 63 [.box 5 0, .box 2 0, .box 3 0, .box 4 0] [.box 2 0, .box 6 0] [] rfl rfl rfl (λT=>Wh s cost day bc ps hd hw hn eh hp dV bE M ns k T) (λT=>Wf s cost day bc ps M ns k T) (λT=>We _ _);refine cV func27 ntmps27 results27 call27 rfl ay λW0 S0 M0 own β hβ=> ?_;repeat'(first|(show az _ (.region 3 _ _) _ _;refine eo 8 rfl (λK1 aK=> ?_);refine av ?_)|(refine aK _ (cC c2 (by show(25:Nat) < 37;decide) rfl rfl rfl rfl ?_);clear aK K1;rintro d aF aL ⟨rfl,rfl,rfl⟩;simp only[bF,Nat.reduceAdd];refine av ?_)|(show az _ .ret _ _;refine b_ ?_)|refine aB ?_|refine aC λK hK=> ?_|refine cA (c1) ?_|(refine kA ?_;clear hK K)|(intro hg;try exact aw)|exact fin|apply ai)
 refine cI ?_;refine eI (jZ [(8,i64 0)] (by simp[put])) ?_;refine eI (aO.select [0,1,7] ak (Dm (k:=2) (by rw[hβ];rfl) ak)) ?_;refine oo ?_;simp[cT,rz,vX,kS,uw,bj,put,pos,D.cP,jY,gH,fW,cr]
theorem Nb:rO ae 141=true:=aj
theorem afp (n:Int)(h:2<=n/\n<=5):4<=(2:Int) ^ n.toNat/\(2:Int) ^ n.toNat<=32:=by
 obtain⟨m,rfl⟩:∃m:Nat,n=m:=⟨n.toNat,ag⟩;have:m=2\/m=3\/m=4\/m=5:=ag;rcases this with rfl|rfl|rfl|rfl<;>decide
theorem RQ (s:bh)(h:2<=s.cl/\s.cl<=5):jV .i64 (2 ^ s.cl.toNat)/\jV .i64 (2 ^ s.cl.toNat - 1):=by
 have:=afp s.cl h;generalize(2:Int) ^ s.cl.toNat=x at this;exact⟨⟨ag,ag⟩,⟨ag,ag⟩⟩
theorem afP {ops:Array Oper}(cj:ops=dK Tryz.f64 1)(w0:World)(S0:Addr->Prop)(M0:MM)(own:Nat->Prop)(β:List Nat)(s:bh)(cost day bc set:Int)(ps:List Int)(M:List D)(ns k:Nat)(X:List Bx)(bE:2<=s.cl/\s.cl<=5)(wI:jV .i64 (2 ^ s.cl.toNat))(abT:jV .i64 (2 ^ s.cl.toNat - 1))(c1:ax ae 65 [i64 set,i64 1,i64 (2 ^ s.cl.toNat - 1)] (.bool true))(c2:ax ae 61 [.ro (Eo s cost M ns k),i64 day,i64 bc] (.bool true))
  {Q:Exit->St->Prop}{T:dX}(hQ:Q .normal ⟨20,((T.foldr (λe f=>put f e.2.1 (e.2.2 λ_=>true)) (bj [(0, .box 3 0),(1, .box 4 0),(2, .box 5 0),(3, .box 6 0),(4, .bool false)]))),(λ(L:Nat->Bool)=> .mu (cr s cost):: .mp [(.agg [i64 day,i64 bc], .box 2 0)]:: .mu [ints ps,i64 0]:: .mu [.box 0 0]:: .mu [i64 day]:: .mu [i64 bc]:: .mu [i64 set]:: .mu [i64 day,i64 bc]::X) (λ_=>true),(λ(L:Nat->Bool)=>[cU M,aG ns,aH k]) (λ_=>true)⟩)(hT:T=[(0,5,λL=> .box 0 0),(1,6,λL=>i64 day),(2,7,λL=>i64 bc),(3,8,λL=> .bool true),(4,9,λL=> .bool true),(5,10,λL=>i64 set),(6,11,λL=> .box 0 0),(7,12,λL=> .box 0 0),(8,13,λL=> .box 0 0),(9,14,λL=> .box 0 19),(10,15,λL=>i64 s.cl),(11,16,λL=>i64 (2 ^ s.cl.toNat)),(12,17,λL=>i64 (2 ^ s.cl.toNat - 1)),(13,18,λL=> .bool true),(14,19,λL=> .bool true),(15,4,λL=> .bool true)]:=by rfl):
  az ⟨ae,w0,S0,M0,none,own,β⟩ (.region 1 ops true) Q ⟨20,bj [(0, .box 3 0),(1, .box 4 0),(2, .box 5 0),(3, .box 6 0),(4, .bool false)],(λ(L:Nat->Bool)=> .mu (cr s cost):: .mp [(.agg [i64 day,i64 bc], .box 2 0)]:: .mu [ints ps,i64 0]:: .mu [.box 0 0]:: .mu [i64 day]:: .mu [i64 bc]:: .mu [i64 set]:: .mu [i64 day,i64 bc]::X) (λ_=>false),(λ(L:Nat->Bool)=>[cU M,aG ns,aH k]) (λ_=>false)⟩:=by
 simp only[dK,eW,fV,Tryz.f64,fB,Nat.reduceBEq,cJ,if_false,if_true,bQ,bN,bR,iy,reduceIte,eq_self]at cj;subst cj;have ba:T.map (·.1)=[0,1,2,3,4,5,6,7,8,9,10,11,12,13,14,15]:=by rw[hT];rfl
 have cQ:T.map (·.2.1)=[5,6,7,8,9,10,11,12,13,14,15,16,17,18,19,4]:=by rw[hT];rfl
 have cD:(T.map (·.1)).Nodup:=by rw[ba];decide
 have aS:(T.map (·.2.1)).Nodup:=by rw[cQ];decide
 obtain⟨b,hb⟩:∃b:Nat->D,b=bj [(0, .box 3 0),(1, .box 4 0),(2, .box 5 0),(3, .box 6 0),(4, .bool false)]:=⟨_,rfl⟩;rw[<-hb];have h0:aI (λ_=>false) (λ_=>false) T b=b:=gR (λ_ _=>rfl);rw[<-h0];refine Ey (c:=⟨ae,w0,S0,M0,none,own,β⟩) Tryz.ty.mixed rfl aj 20 T b (λL=> .mu (cr s cost):: .mp [(.agg [i64 day,i64 bc], .box 2 0)]:: .mu [ints ps,i64 0]:: .mu [.box 0 0]:: .mu [i64 day]:: .mu [i64 bc]:: .mu [i64 set]:: .mu [i64 day,i64 bc]::X) (λL=>[cU M,aG ns,aH k]) (λL k op hC af hL aa=> ?_) (λL hL=> ?_);rotate_left
 ·have bu:∀x∈T.map (·.1),x < 16:=by rw[ba];decide
  rw[gS (λe he=>hL _ (bu _ (gP (f:=(·.1)) he)))];rw[hT,hb];simp only[bU,eq_self];simp only[hT,bU,cond_true]at hQ;exact hQ
 match k,af,hL,aa with
 |0,af,hL,aa=>
  cases af;have hX:=hL;exact aA
 |1,af,hL,aa=>
  cases af;have hX:=hL;exact aA
 |2,af,hL,aa=>
  cases af;have hX:=hL;exact aA
 |3,af,hL,aa=>
  cases af;have d0:=aq aa 0 rfl;have d1:=aq aa 1 rfl;have d2:=aq aa 2 rfl
  (
   have f5:=br (V:=L) (b:=b) d0 aS (show(0,5,λL=> .box 0 0)∈T by rw[hT];simp);have f6:=br (V:=L) (b:=b) d1 aS (show(1,6,λL=>i64 day)∈T by rw[hT];simp);have f7:=br (V:=L) (b:=b) d2 aS (show(2,7,λL=>i64 bc)∈T by rw[hT];simp);have ek:aI (more L 3) (more L 3) T b=put (aI L L T b) 8 (.bool true):=(dM hL cD aS (show(3,8,λL=> .bool true)∈T by rw[hT];simp)).trans (by rw[<-eL (V:=L) (V':=more L 3) (by rw[hT];simp[more])];try rfl);rw[ek];try simp only[eq_self,cond_true,cond_false,bR,bQ,bN]
   try simp only[eq_self,cond_true,cond_false,cG,cN,dN,put,Nat.reduceEqDiff,if_true,if_false,reduceIte]at f5 f6 f7
   refine ee.j4 rfl ?_;refine aZ.sV 6 c2 rfl (by show(8:Nat) < 20;decide) rfl (by show mM _ _ 6 [aI L L T b 5,aI L L T b 6,aI L L T b 7]=some _;rw[f5,f6,f7];simp[vw,mM]) (aO.of_eq rfl))
 |4,af,hL,aa=>
  cases af;have d3:=aq aa 3 rfl;have hX:=an d3 hL;exact aA
 |5,af,hL,aa=>
  cases af;have d4:=aq aa 4 rfl;have hX:=an d4 hL;exact aA
 |6,af,hL,aa=>
  cases af;have d4:=aq aa 4 rfl;have hX:=an d4 hL;exact aA
 |7,af,hL,aa=>
  cases af;have d4:=aq aa 4 rfl;have d6:=aq aa 6 rfl;have hX:=an d4 (an d6 hL);exact aA
 |8,af,hL,aa=>
  cases af;have d4:=aq aa 4 rfl;have d7:=aq aa 7 rfl;have hX:=an d4 (an d7 hL);exact aA
 |9,af,hL,aa=>
  cases af;have d4:=aq aa 4 rfl;have d8:=aq aa 8 rfl;have hX:=an d4 (an d8 hL);exact aA
 |10,af,hL,aa=>
  cases af;have d4:=aq aa 4 rfl;have d9:=aq aa 9 rfl;have hX:=an d4 (an d9 hL);exact aA
 |11,af,hL,aa=>
  cases af;have d4:=aq aa 4 rfl;have d10:=aq aa 10 rfl
  (
   have f9:=br (V:=L) (b:=b) d4 aS (show(4,9,λL=> .bool true)∈T by rw[hT];simp);have f15:=br (V:=L) (b:=b) d10 aS (show(10,15,λL=>i64 s.cl)∈T by rw[hT];simp);have ek:aI (more L 11) (more L 11) T b=put (aI L L T b) 16 (i64 (2 ^ s.cl.toNat)):=(dM hL cD aS (show(11,16,λL=>i64 (2 ^ s.cl.toNat))∈T by rw[hT];simp)).trans (by rw[<-eL (V:=L) (V':=more L 11) (by rw[hT];simp[more])];try rfl);rw[ek];try simp only[eq_self,cond_true,cond_false,bR,bQ,bN]
   try simp only[eq_self,cond_true,cond_false,cG,cN,dN,put,Nat.reduceEqDiff,if_true,if_false,reduceIte]at f9 f15
   refine ee.on (t:=9) rfl rfl f9 ?_;refine aZ.of ?_
   (refine sX (ai @f9 (ai @f15 (ai @Int.one_mul (ai @wI @true_and)))) ?_;try exact trivial)
   first|exact aO.of_eq rfl|exact⟨by assumption,aO.of_eq rfl⟩|exact⟨ag,ag,aO.of_eq rfl⟩|(refine⟨?_, ?_⟩<;>first|exact aO.of_eq rfl|omega|rfl)|skip)
 |12,af,hL,aa=>
  cases af;have d4:=aq aa 4 rfl;have d11:=aq aa 11 rfl
  (
   have f9:=br (V:=L) (b:=b) d4 aS (show(4,9,λL=> .bool true)∈T by rw[hT];simp);have f16:=br (V:=L) (b:=b) d11 aS (show(11,16,λL=>i64 (2 ^ s.cl.toNat))∈T by rw[hT];simp);have ek:aI (more L 12) (more L 12) T b=put (aI L L T b) 17 (i64 (2 ^ s.cl.toNat - 1)):=(dM hL cD aS (show(12,17,λL=>i64 (2 ^ s.cl.toNat - 1))∈T by rw[hT];simp)).trans (by rw[<-eL (V:=L) (V':=more L 12) (by rw[hT];simp[more])];try rfl);rw[ek];try simp only[eq_self,cond_true,cond_false,bR,bQ,bN]
   try simp only[eq_self,cond_true,cond_false,cG,cN,dN,put,Nat.reduceEqDiff,if_true,if_false,reduceIte]at f9 f16
   refine ee.on (t:=9) rfl rfl f9 ?_;refine aZ.of ?_
   (refine sX (ai @f9 (ai @f16 (ai @abT @true_and))) ?_;try exact trivial)
   first|exact aO.of_eq rfl|exact⟨by assumption,aO.of_eq rfl⟩|exact⟨ag,ag,aO.of_eq rfl⟩|(refine⟨?_, ?_⟩<;>first|exact aO.of_eq rfl|omega|rfl)|skip)
 |13,af,hL,aa=>
  cases af;have d4:=aq aa 4 rfl;have d5:=aq aa 5 rfl;have d12:=aq aa 12 rfl
  (
   have f9:=br (V:=L) (b:=b) d4 aS (show(4,9,λL=> .bool true)∈T by rw[hT];simp);have f10:=br (V:=L) (b:=b) d5 aS (show(5,10,λL=>i64 set)∈T by rw[hT];simp);have f17:=br (V:=L) (b:=b) d12 aS (show(12,17,λL=>i64 (2 ^ s.cl.toNat - 1))∈T by rw[hT];simp);have ek:aI (more L 13) (more L 13) T b=put (aI L L T b) 18 (.bool true):=(dM hL cD aS (show(13,18,λL=> .bool true)∈T by rw[hT];simp)).trans (by rw[<-eL (V:=L) (V':=more L 13) (by rw[hT];simp[more])];try rfl);rw[ek];try simp only[eq_self,cond_true,cond_false,bR,bQ,bN]
   try simp only[eq_self,cond_true,cond_false,cG,cN,dN,put,Nat.reduceEqDiff,if_true,if_false,reduceIte]at f9 f10 f17
   refine ee.on (t:=9) rfl rfl f9 ?_;refine aZ.sV 6 c1 rfl (by show(18:Nat) < 20;decide) rfl (by show mM _ _ 6 [aI L L T b 10,i64 1,aI L L T b 17]=some _;rw[f10,f17];simp[vw,mM]) (aO.of_eq rfl))
 |14,af,hL,aa=>
  cases af;have d4:=aq aa 4 rfl;have d13:=aq aa 13 rfl;have hX:=an d4 (an d13 hL);exact aA
 |15,af,hL,aa=>
  cases af;have d14:=aq aa 14 rfl;have hX:=an d14 hL;exact aA
 |k + 16,af,hL,aa=>simp at af
theorem afQ (s:bh)(cost day bc set:Int)(ps:List Int)(hd:1<=s.dy/\s.dy<=4)(hw:s.wt.length<=5)(hn:0<=day/\day<=s.dy - 1)(eh:0<=bc/\bc<=(s.wt.length:Int) - 1)(bE:2<=s.cl/\s.cl<=5)(uQ:1<=set/\set<=2 ^ s.cl.toNat - 1)(M:List D)(ns k:Nat)(X:List Bx):
  aT ae 64 [.box 3 0, .box 4 0, .box 5 0, .box 6 0] (.mu (cr s cost):: .mp [(.agg [i64 day,i64 bc], .box 2 0)]:: .mu [ints ps,i64 0]:: .mu [.box 0 0]:: .mu [i64 day]:: .mu [i64 bc]:: .mu [i64 set]:: .mu [i64 day,i64 bc]::X) [cU M,aG ns,aH k] (bw (.bool true) (.mu (cr s cost):: .mp [(.agg [i64 day,i64 bc], .box 2 0)]:: .mu [ints ps,i64 0]:: .mu [.box 0 0]:: .mu [i64 day]:: .mu [i64 bc]:: .mu [i64 set]:: .mu [i64 day,i64 bc]::X) [cU M,aG ns,aH k]):=by
 have c1:=yq set 1 (2 ^ s.cl.toNat - 1);rw[decide_eq_true uQ]at c1;have c2:=Py s cost day bc hd hw hn eh M ns k;refine cV func64 ntmps64 results64 call64 rfl ay λW0 S0 M0 own β hβ=> ?_;repeat'(first|(show az _ (.region 1 _ true) _ _;refine b_ ?_)|refine aB ?_|refine aC λK hK=> ?_|(refine kA ?_;clear hK K)|(intro hg;try exact aw)|exact fin|apply ai)
 refine cI ?_;refine eI (jZ [(0, .box 3 0),(1, .box 4 0),(2, .box 5 0),(3, .box 6 0),(4, .bool false)] (by simp[put])) ?_;refine afP (by rfl) _ _ _ _ _ s cost day bc set ps M ns k X bE (RQ s bE).1 (RQ s bE).2 c1 c2 ?_;simp only[bU];repeat'(first|(show cT _ _ _ _ _;refine av ?_)|refine aB ?_|refine aC λK hK=> ?_|(refine kA ?_;clear hK K)|(intro hg;try exact aw)|exact fin|apply ai)
theorem afO (s:bh)(cost day bc set:Int)(ps:List Int)(M:List D)(ns k:Nat)(X:List Bx):
  aT ae 66 [.box 3 0, .box 7 0] (.mu (cr s cost):: .mp [(.agg [i64 day,i64 bc], .box 2 0)]:: .mu [ints ps,i64 0]:: .mu [.box 0 0]:: .mu [i64 day]:: .mu [i64 bc]:: .mu [i64 set]:: .mu [i64 day,i64 bc]::X) [cU M,aG ns,aH k] (bw (.bool true) (.mu (cr s cost):: .mp [(.agg [i64 day,i64 bc], .box 2 0)]:: .mu [ints ps,i64 0]:: .mu [.box 0 0]:: .mu [i64 day]:: .mu [i64 bc]:: .mu [i64 set]:: .mu [i64 day,i64 bc]::X) [cU M,aG ns,aH k]):=by
 refine cV func66 ntmps66 results66 call66 rfl ay λW0 S0 M0 own β hβ=> ?_;repeat'(first|(exact Nb)|(show cT _ _ _ _ _;refine av ?_)|refine aB ?_|refine aC λK hK=> ?_|(refine kA ?_;clear hK K)|(intro hg;try exact aw)|exact fin|apply ai)
theorem afN (s:bh)(cost day bc set:Int)(ps:List Int)(M:List D)(ns k:Nat)(X:List Bx):
  aT ae 67 [.box 3 0, .box 7 0] (.mu (cr s cost):: .mp [(.agg [i64 day,i64 bc], .box 2 0)]:: .mu [ints ps,i64 0]:: .mu [.box 0 0]:: .mu [i64 day]:: .mu [i64 bc]:: .mu [i64 set]:: .mu [i64 day,i64 bc]::X) [cU M,aG ns,aH k] (bw (.bool true) (.mu (cr s cost):: .mp [(.agg [i64 day,i64 bc], .box 2 0)]:: .mu [ints ps,i64 0]:: .mu [.box 0 0]:: .mu [i64 day]:: .mu [i64 bc]:: .mu [i64 set]:: .mu [i64 day,i64 bc]::X) [cU M,aG ns,aH k]):=by
 refine cV func67 ntmps67 results67 call67 rfl ay λW0 S0 M0 own β hβ=> ?_;repeat'(first|(exact Nb)|(show cT _ _ _ _ _;refine av ?_)|refine aB ?_|refine aC λK hK=> ?_|(refine kA ?_;clear hK K)|(intro hg;try exact aw)|exact fin|apply ai)
theorem afM (s:bh)(cost day bc set:Int)(ps:List Int)(hd:1<=s.dy/\s.dy<=4)(hw:s.wt.length<=5)(hn:0<=day/\day<=s.dy - 1)(eh:0<=bc/\bc<=(s.wt.length:Int) - 1)(bE:2<=s.cl/\s.cl<=5)(uQ:1<=set/\set<=2 ^ s.cl.toNat - 1)(M:List D)(ns k:Nat)(hk:k < 60):
  aT ae 28 [.box 0 0,i64 day,i64 bc,i64 set] [.mu (cr s cost), .mp [(.agg [i64 day,i64 bc], .box 2 0)], .mu [ints ps,i64 0]] [cU M,aG ns,aH k] (λd aF aL=>d=i64 0/\aF=[.mu (cr s cost), .mp [(.agg [i64 day,i64 bc], .box 2 0)], .mu [ints ps,i64 set]]/\aL=[cU M,aG ns,aH (k + 1)]):=by
 have c2:=UE s cost (.mp [(.agg [i64 day,i64 bc], .box 2 0)]) (.mu [ints ps,i64 0]) (.mu [.box 0 0]) (.mu [i64 day]) (.mu [i64 bc]) (.mu [i64 set]) (.mu [i64 day,i64 bc]) (.mp [(.agg [i64 day,i64 bc], .box 2 0)]) (.mu [ints ps,i64 0]) (.mu [.box 0 0]) (.mu [i64 day]) (.mu [i64 bc]) (.mu [i64 set]) (.mu [i64 day,i64 bc]) M ns k hk 64 66 67 [.box 3 0, .box 4 0, .box 5 0, .box 6 0] [.box 3 0, .box 7 0] [.box 3 0, .box 7 0] rfl rfl rfl (λT=>afQ s cost day bc set ps hd hw hn eh bE uQ M ns k T) (λT=>afO s cost day bc set ps M ns k T) (λT=>afN s cost day bc set ps M ns k T);refine cV func28 ntmps28 results28 call28 rfl ay λW0 S0 M0 own β hβ=> ?_;repeat'(first|(show az _ (.region 2 _ _) _ _;refine eo 9 rfl (λK1 aK=> ?_);refine av ?_)|(refine aK _ (cC c2 (by show(23:Nat) < 36;decide) rfl rfl rfl rfl ?_);clear aK K1;rintro d aF aL ⟨rfl,rfl,rfl⟩;simp only[bF,Nat.reduceAdd];refine av ?_)|(show az _ .ret _ _;refine b_ ?_)|refine aB ?_|refine aC λK hK=> ?_|(refine kA ?_;clear hK K)|(intro hg;try exact aw)|exact fin|apply ai)
 all_goals first|(show 1=aJ ae 3;simp only[go_sem];done)|rfl|(show 0 + 1 + 1<=2;decide)|skip
 refine cI ?_;refine eI (jZ [(8,i64 0)] (by simp[put])) ?_;refine eI (aO.select [0,1,2] ak (Dm (k:=3) (by rw[hβ];rfl) ak)) ?_;refine oo ?_;simp[cT,rz,vX,kS,uw,bj,put,pos,D.cP,jY,gH,fW,cr]
end Go.Proofs.YtopobgihpdaggaaGreatDoor
