import Derived.Test.YtafmfhkplgapjaaGreatDoorZ10
set_option linter.unusedVariables false
set_option linter.unusedSimpArgs false
open Go.Act renaming eval->CA,put->lK
open And renaming intro->af
open Array renaming replicate->gW
open Bool renaming and_true->yg,false_and->O2,false_eq_true->bK,false_or->JK,or_false->XS,or_true->XR,true_and->oU,true_or->O1
open Go.Code renaming wpIn->yf
open Go.Fence renaming wide->cE
open List renaming append_nil->eu,cons_append->eR,foldr->e_,getElem?_append_left->bQ,getElem?_append_right->dX,getElem?_eq_getElem->bS,getElem?_eq_none->pM,getElem?_eq_some_iff->aQ,headD_cons->iC,length_map->iB,map_append->x_,map_congr_left->oS,map_cons->ib,map_id->v8,map_map->tA,map_nil->nz,mem_append->fA,mem_cons_of_mem->dW,mem_cons_self->dI,mem_of_mem_take->x9,mem_singleton->oQ,nil_append->eI,range->ct,range_succ->Fx,replicate->cD,take_append_drop->Fw,take_length->Ci
open Nat renaming le_refl->aY,zero_add->fK,zero_le->bD
open Go.Oper renaming semAt_eq->rr,uponIn_value->Fp
open Option renaming bind_some->Cf,getD_some->e8,map_some->eH
open Option.some renaming inj->iA
open Go.Proofs.Tryz renaming call117->OC,call32->Fl,call92->Jm,call97->Jl,f177->xS,f230->Fj,func117->Oz,func32->Fi,func92->Ji,func97->Jh,ntmps117->Ov,ntmps32->Fg,ntmps90->Xp,ntmps92->Je,ntmps97->Jd,prog->aa,results117->Ot,results32->Ff,results90->Xk,results92->Jb,results97->Ja,underlying294->Oj
open Go.Proofs.Tryz
namespace Go.Proofs.YtafmfhkplgapjaaGreatDoor
set_option maxRecDepth 100000
set_option maxHeartbeats 4000000
open Go.Ab
attribute[local irreducible] av dL dY ak aH cY IA ez aP fM
theorem Y9 {ops:Array Oper}(bP:ops=dA Tryz.f32 8)(w0:World)(S0:Addr->Prop)(M0:MM)(own:Nat->Prop)(β:List Nat)(s:aJ)(nm cap:Nat)(cost:Int)(y1 y2 y3 y4 y5 y6:Bx)(ns k:Nat)(hk:k < 60)(hp:[y1,y2,y3,y4,y5,y6].map (ij 1)=[y1,y2,y3,y4,y5,y6]):
  jN ⟨aa,w0,S0,M0,none,own,β⟩ 8 ops 38 [(0,28,λL=> .box 0 0),(1,29,λL=> .box 0 0),(2,30,λL=> .box 0 0),(3,31,λL=> .box 0 29),(4,32,λL=>bif L 7 then .undef else .own 1),(5,33,λL=> .any),(6,34,λL=> .list [.any]),(7,35,λL=> .own 1),(8,36,λL=> .box 0 0),(9,37,λL=> .box 0 29)] [(1, .any),(5, .box 7 0)] (λL=>[.mu (eb s++[.aN 2 0 nm cap, .own 0, .bu 1,i64 cost,bif L 10 then .own 1 else bif L 7 then .undef else .own 1, .bool true]),y1,y2,y3,y4,y5,y6, .mu [.box 0 0]]) (λL=>[bG ns,⟨true,161,1,bif L 7 then cD k .any++[.any]else cD k .any⟩]):=by
 simp only[ib,nz,List.cons.injEq,and_true]at hp;obtain⟨p1,p2,p3,p4,p5,p6⟩:=hp;unfold ij at p1 p2 p3 p4 p5 p6;have hE:=(af @mM (af @mL (af @mN (af @mR (af @p1 (af @p2 (af @p3 (af @p4 (af @p5 @p6)))))))));simp only[dA,eH,e8,Tryz.f32,fw,Nat.reduceBEq,bK,if_false,if_true,eI,eu,eR,iC,reduceIte,eq_self]at bP;subst bP;exact jY Tryz.ty.mixed rfl [(0,[14,20]),(0,[15,20]),(1,[14,20]),(2,[3,14,20]),(3,[5,14,20]),(4,[7,14,20]),(5,[14,20]),(6,[11,14,20]),(7,[9,13,20]),(8,[1,15,20]),(9,[15,17,20]),(10,[15,19])] [] ax rfl rfl iv js iw
theorem Zc (s:aJ)(nm cap:Nat)(cost:Int)(x1 x2 x3 x4 x5 x6:Bx)(T:List Bx)(rw:List Row):aH aa 88 [.box 7 0] (.mu (ay s nm cap cost)::x1::x2::x3::x4::x5::x6:: .mu [.box 0 0]::T) rw (aT (i64 0) (.mu (ay s nm cap cost)::x1::x2::x3::x4::x5::x6:: .mu [.box 0 0]::T) rw):=by
 have c1:=Di s (.aN 2 0 nm cap) (.own 0) (.bu 1) cost (.own 1) (x1::x2::x3::x4::x5::x6:: .mu [.box 0 0]::T) rw;have c2:=rA true 1;refine cU func88 ntmps88 results88 call88 λW0 S0 M0 own β hβ=> ?_;repeat'(first|(show av _ (.region 1 _ _) _ _;refine et 1 rfl (λK1 aA=> ?_);refine aj ?_)|(refine aA _ (eZ c1 ?_);simp only[aU,Nat.reduceAdd];refine aj ?_)|(show cC _ _ _ _ _;refine aj ?_)|refine aq ?_|refine au λK hK=> ?_|refine cA (c2) ?_|(intro hg;try exact ai)|exact fin|apply af)
theorem Zb (s:aJ)(nm cap:Nat)(cost:Int)(x1 x2 x3 x4 x5 x6 y1 y2 y3 y4 y5 y6:Bx)(T:List Bx)(rw:List Row)(fc:FuncId)(cs:List D)(hc:aH aa fc cs (.mu (ay s nm cap cost)::x1::x2::x3::x4::x5::x6:: .mu [.box 0 0]:: .mu [.ag fc cs]::T) rw (aT (.bool true) (.mu (ay s nm cap cost)::y1::y2::y3::y4::y5::y6:: .mu [.box 0 0]:: .mu [.ag fc cs]::T) rw)):aH aa 90 [.box 8 0] (.mu (ay s nm cap cost)::x1::x2::x3::x4::x5::x6:: .mu [.box 0 0]:: .mu [.ag fc cs]::T) rw (aT (i64 0) (.mu (ay s nm cap cost)::y1::y2::y3::y4::y5::y6:: .mu [.box 0 0]:: .mu [.ag fc cs]::T) rw):=by
 have c2:=rA true 2;refine cU func90 Xp Xk call90 λW0 S0 M0 own β hβ=> ?_;repeat'(first|(show av _ (.region 1 _ _) _ _;refine et 1 rfl (λK1 aA=> ?_);refine aj ?_)|(refine aA _ (eZ hc ?_);simp only[aU,Nat.reduceAdd];refine aj ?_)|(show cC _ _ _ _ _;refine aj ?_)|refine aq ?_|refine au λK hK=> ?_|refine cA (c2) ?_|(intro hg;try exact ai)|exact fin|apply af)
theorem Y' (s:aJ)(nm cap:Nat)(cost:Int)(x1 x2 x3 x4 x5 x6 y1 y2 y3 y4 y5 y6:Bx)(z8 z9:Bx)(T:List Bx)(rw:List Row)(fc:FuncId)(cs:List D)(hc:aH aa fc cs (.mu (ay s nm cap cost)::x1::x2::x3::x4::x5::x6:: .mu [.box 0 0]::z8::z9:: .mu [.ag fc cs]::T) rw (aT (.bool true) (.mu (ay s nm cap cost)::y1::y2::y3::y4::y5::y6:: .mu [.box 0 0]::z8::z9:: .mu [.ag fc cs]::T) rw)):aH aa 92 [.box 10 0] (.mu (ay s nm cap cost)::x1::x2::x3::x4::x5::x6:: .mu [.box 0 0]::z8::z9:: .mu [.ag fc cs]::T) rw (aT (i64 0) (.mu (ay s nm cap cost)::y1::y2::y3::y4::y5::y6:: .mu [.box 0 0]::z8::z9:: .mu [.ag fc cs]::T) rw):=by
 have c2:=rA true 7;refine cU Ji Je Jb Jm λW0 S0 M0 own β hβ=> ?_;repeat'(first|(show av _ (.region 1 _ _) _ _;refine et 1 rfl (λK1 aA=> ?_);refine aj ?_)|(refine aA _ (eZ hc ?_);simp only[aU,Nat.reduceAdd];refine aj ?_)|(show cC _ _ _ _ _;refine aj ?_)|refine aq ?_|refine au λK hK=> ?_|refine cA (c2) ?_|(intro hg;try exact ai)|exact fin|apply af)
theorem Za (s:aJ)(nm cap:Nat)(cost:Int)(x1 x2 x3 x4 x5 x6 z1:Bx)(T:List Bx)(ns k:Nat)(hk:k < 60)(fc:FuncId)(cs:List D)(hc:aH aa fc cs (.mu (ay s nm cap cost)::x1::x2::x3::x4::x5::x6:: .mu [.box 0 0]::z1:: .mu [.ag fc cs]::T) [bG ns,az k] (aT (.bool true) (.mu (ay s nm cap cost)::x1::x2::x3::x4::x5::x6:: .mu [.box 0 0]::z1:: .mu [.ag fc cs]::T) [bG ns,az k])):aH aa 91 [.box 7 0, .box 9 0] (.mu (ay s nm cap cost)::x1::x2::x3::x4::x5::x6:: .mu [.box 0 0]::z1:: .mu [.ag fc cs]::T) [bG ns,az k] (aT (i64 0) (.mu (ay s nm cap cost)::x1::x2::x3::x4::x5::x6:: .mu [.box 0 0]::z1:: .mu [.ag fc cs]::T) [bG ns,az k]):=by
 have c2:=rA true 6;have hl:(cD k D.any).length=k:=by simp
 refine cU func91 ntmps91 results91 call91 λW0 S0 M0 own β hβ=> ?_;repeat'(first|(show av _ (.region 1 _ _) _ _;refine Xa 8 (λN s1=>nq _ N (.tmp 10) [] (some 11) s1) (λ_ _ h=>aP.vd h) rfl (by intro cl h;cases h) (λK1 aA=> ?_);(refine sX (@hl) ?_))|(refine aA _ (E5 rfl rfl ?_);clear aA K1;refine iK hc (bC rfl) rfl rfl rfl rfl ?_;rintro d aB aD ⟨rfl,rfl,rfl⟩;simp only[aU,Nat.reduceAdd];(refine sX (@hl) ?_))|(show cC _ _ _ _ _;(refine sX (@hl) ?_))|refine bh ?_|((first|refine bj λK hK=> ?_|refine bg ?_|show bb _ _ _ _ _|refine bo (c2) ?_);(refine sX (@hl) ?_))|(intro hg;try exact ai)|exact fin|apply af)
theorem Y_ (s:aJ)(nm cap:Nat)(cost:Int)(x1 x2 x3 x4 x5 x6 y1 y2 y3 y4 y5 y6:Bx)(ns k:Nat)(hk:k < 60)(fr fn fh:FuncId)(cG cJ cK:List D)(dD:a7 7 2 [y1,y2,y3,y4,y5,y6]=true)(uj:a7 8 2 [y1,y2,y3,y4,y5,y6, .mu [.box 0 0]]=true)(jF:[y1,y2,y3,y4,y5,y6].map (ij 1)=[y1,y2,y3,y4,y5,y6])
  (hr:aH aa fr cG (.mu (ay s nm cap cost)::x1::x2::x3::x4::x5::x6:: .mu [.box 0 0]:: .mu [.ag fr cG]:: .mu [.ag fn cJ]:: .mu [.ag fh cK]::[]) [bG ns,az k] (aT (.bool true) (.mu (ay s nm cap cost)::y1::y2::y3::y4::y5::y6:: .mu [.box 0 0]:: .mu [.ag fr cG]:: .mu [.ag fn cJ]:: .mu [.ag fh cK]::[]) [bG ns,az k]))
  (hn:aH aa fn cJ (.mu (ay s nm cap cost)::y1::y2::y3::y4::y5::y6:: .mu [.box 0 0]:: .mu [.ag fr cG]:: .mu [.ag fn cJ]:: .mu [.ag fh cK]::[]) [bG ns,az k] (aT (.bool true) (.mu (ay s nm cap cost)::y1::y2::y3::y4::y5::y6:: .mu [.box 0 0]:: .mu [.ag fr cG]:: .mu [.ag fn cJ]:: .mu [.ag fh cK]::[]) [bG ns,az k]))
  (hh:aH aa fh cK (.mu (ay s nm cap cost)::y1::y2::y3::y4::y5::y6:: .mu [.box 0 0]:: .mu [.ag fr cG]:: .mu [.ag fn cJ]:: .mu [.ag fh cK]::[]) [bG ns,az k] (aT (.bool true) (.mu (ay s nm cap cost)::y1::y2::y3::y4::y5::y6:: .mu [.box 0 0]:: .mu [.ag fr cG]:: .mu [.ag fn cJ]:: .mu [.ag fh cK]::[]) [bG ns,az k])):
  aH aa 32 [.box 0 0, .any, .ag fr cG, .ag fn cJ, .ag fh cK] [.mu (ay s nm cap cost),x1,x2,x3,x4,x5,x6] [bG ns,az k] (aT (i64 0) [.mu (ay s nm cap cost),y1,y2,y3,y4,y5,y6] [bG ns,az (k + 1)]):=by
 have qh:a7 7 2 [.mu (ay s nm cap cost),y1,y2,y3,y4,y5,y6]=true:=dD;have d1:=Zc s nm cap cost x1 x2 x3 x4 x5 x6 (.mu [.ag fr cG]:: .mu [.ag fn cJ]:: .mu [.ag fh cK]::[]) [bG ns,az k];have d2:=Zb s nm cap cost x1 x2 x3 x4 x5 x6 y1 y2 y3 y4 y5 y6 (.mu [.ag fn cJ]:: .mu [.ag fh cK]::[]) [bG ns,az k] fr cG hr;have d3:=Za s nm cap cost y1 y2 y3 y4 y5 y6 (.mu [.ag fr cG]) (.mu [.ag fh cK]::[]) ns k hk fn cJ hn;have d4:=Y' s nm cap cost y1 y2 y3 y4 y5 y6 y1 y2 y3 y4 y5 y6 (.mu [.ag fr cG]) (.mu [.ag fn cJ]) [] [bG ns,az k] fh cK hh;refine cU Fi Fg Ff Fl λW0 S0 M0 own β hβ=> ?_;repeat'(first|(show av _ (.loop _) _ _;refine sn 5 ?_)|refine bh ?_|((first|refine bj λK hK=> ?_|refine bg ?_|show bb _ _ _ _ _);(refine sX (af @mM (af @mN (af @mL (af @mR (@me))))) ?_))|(intro hg;try exact ai)|exact fin|apply af)
 repeat'(first|(show av _ (.region 8 _ true) _ _;refine bJ ?_)|(refine sJ ?_)|(show av _ (.region 4 _ _) _ _;refine et 1 rfl (λK1 aA=> ?_);(refine sX (af @mM (af @mN (af @mL (af @mR (@me))))) ?_))|(refine aA _ ?_;clear aA K1;(first|(refine iK d1 (bC rfl) rfl rfl rfl rfl ?_)|(refine iK d2 (bC rfl) rfl rfl rfl rfl ?_)|(refine iK d3 (bC rfl) rfl rfl rfl rfl ?_)|(refine iK d4 (bC rfl) rfl rfl rfl rfl ?_));rintro d aB aD ⟨rfl,rfl,rfl⟩;simp only[aU,Nat.reduceAdd];(refine sX (af @mM (af @mN (af @mL (af @mR (@me))))) ?_))|refine bh ?_|((first|refine bj λK hK=> ?_|refine bg ?_|show bb _ _ _ _ _);(refine sX (af @mM (af @mN (af @mL (af @mR (@me))))) ?_))|(intro hg;try exact ai)|exact fin|apply af)
 refine b_ ?_;refine nv (cR 38 [(1, .any),(5, .box 7 0)] [.mu (ay s nm cap cost),y1,y2,y3,y4,y5,y6, .mu [.box 0 0]] [bG ns,az k]) (br rfl (by simp[put]) ⟨[_,_,_],rfl⟩ ⟨[],rfl⟩) (ik rfl uj) (by rw[hβ];exact Nat.le_succ _) ?_;refine Y9 (by rfl) _ _ _ _ _ s nm cap cost y1 y2 y3 y4 y5 y6 ns k hk jF _ ?_;simp only[e_,cond_true,me];repeat'(first|(show av _ .ret _ _;refine bJ ?_)|refine bh ?_|((first|refine bj λK hK=> ?_|refine bg ?_|show bb _ _ _ _ _);(refine sX (af @mM (af @mN (af @mL (af @mR (@me))))) ?_))|(intro hg;try exact ai)|exact fin|apply af)
 refine b_ ?_;refine nv (cR 38 [(10,i64 0)] [.mu (ay s nm cap cost),y1,y2,y3,y4,y5,y6] [bG ns,az (k + 1)]) (br rfl (by simp[put]) ⟨[_],rfl⟩ ⟨[],rfl⟩) (ik rfl qh) (by rw[hβ];exact aY _) ?_;refine tp ?_;exact⟨rfl,rfl,rfl⟩
theorem PD {ops:Array Oper}(bP:ops=dA Tryz.f32 8)(w0:World)(S0:Addr->Prop)(M0:MM)(own:Nat->Prop)(β:List Nat)(s:aJ)(nm cap:Nat)(cost:Int)(y1 y2 y3 y4 y5 y6 y7 y8:Bx)(R0:Row)(k:Nat)(hk:k < 60)(hp:[y1,y2,y3,y4,y5,y6,y7,y8].map (ij 1)=[y1,y2,y3,y4,y5,y6,y7,y8]):
  jN ⟨aa,w0,S0,M0,none,own,β⟩ 8 ops 38 [(0,28,λL=> .box 0 0),(1,29,λL=> .box 0 0),(2,30,λL=> .box 0 0),(3,31,λL=> .box 0 29),(4,32,λL=>bif L 7 then .undef else .own 1),(5,33,λL=> .any),(6,34,λL=> .list [.any]),(7,35,λL=> .own 1),(8,36,λL=> .box 0 0),(9,37,λL=> .box 0 29)] [(1, .any),(5, .box 9 0)] (λL=>[.mu (eb s++[.aN 2 0 nm cap, .own 0, .bu 1,i64 cost,bif L 10 then .own 1 else bif L 7 then .undef else .own 1, .bool true]),y1,y2,y3,y4,y5,y6,y7,y8, .mu [.box 0 0]]) (λL=>[R0,⟨true,161,1,bif L 7 then cD k .any++[.any]else cD k .any⟩]):=by
 simp only[ib,nz,List.cons.injEq,and_true]at hp;obtain⟨p1,p2,p3,p4,p5,p6,p7,p8⟩:=hp;unfold ij at p1 p2 p3 p4 p5 p6 p7 p8;have hE:=(af @mM (af @mL (af @mN (af @mR (af @p1 (af @p2 (af @p3 (af @p4 (af @p5 (af @p6 (af @p7 @p8)))))))))));simp only[dA,eH,e8,Tryz.f32,fw,Nat.reduceBEq,bK,if_false,if_true,eI,eu,eR,iC,reduceIte,eq_self]at bP;subst bP;exact jY Tryz.ty.mixed rfl [(0,[14,20]),(0,[15,20]),(1,[14,20]),(2,[3,14,20]),(3,[5,14,20]),(4,[7,14,20]),(5,[14,20]),(6,[11,14,20]),(7,[9,13,20]),(8,[1,15,20]),(9,[15,17,20]),(10,[15,19])] [] ax rfl rfl iv js iw
theorem CG (s:aJ)(nm cap:Nat)(cost:Int)(x1 x2 x3 x4 x5 x6 x7 x8:Bx)(T:List Bx)(rw:List Row):aH aa 88 [.box 9 0] (.mu (ay s nm cap cost)::x1::x2::x3::x4::x5::x6::x7::x8:: .mu [.box 0 0]::T) rw (aT (i64 0) (.mu (ay s nm cap cost)::x1::x2::x3::x4::x5::x6::x7::x8:: .mu [.box 0 0]::T) rw):=by
 have c1:=Di s (.aN 2 0 nm cap) (.own 0) (.bu 1) cost (.own 1) (x1::x2::x3::x4::x5::x6::x7::x8:: .mu [.box 0 0]::T) rw;have c2:=rA true 1;refine cU func88 ntmps88 results88 call88 λW0 S0 M0 own β hβ=> ?_;repeat'(first|(show av _ (.region 1 _ _) _ _;refine et 1 rfl (λK1 aA=> ?_);refine aj ?_)|(refine aA _ (eZ c1 ?_);simp only[aU,Nat.reduceAdd];refine aj ?_)|(show cC _ _ _ _ _;refine aj ?_)|refine aq ?_|refine au λK hK=> ?_|refine cA (c2) ?_|(intro hg;try exact ai)|exact fin|apply af)
theorem Gj (s:aJ)(nm cap:Nat)(cost:Int)(x1 x2 x3 x4 x5 x6 x7 x8 y1 y2 y3 y4 y5 y6 y7 y8:Bx)(T:List Bx)(rw:List Row)(fc:FuncId)(cs:List D)(hc:aH aa fc cs (.mu (ay s nm cap cost)::x1::x2::x3::x4::x5::x6::x7::x8:: .mu [.box 0 0]:: .mu [.ag fc cs]::T) rw (aT (.bool true) (.mu (ay s nm cap cost)::y1::y2::y3::y4::y5::y6::y7::y8:: .mu [.box 0 0]:: .mu [.ag fc cs]::T) rw)):aH aa 90 [.box 10 0] (.mu (ay s nm cap cost)::x1::x2::x3::x4::x5::x6::x7::x8:: .mu [.box 0 0]:: .mu [.ag fc cs]::T) rw (aT (i64 0) (.mu (ay s nm cap cost)::y1::y2::y3::y4::y5::y6::y7::y8:: .mu [.box 0 0]:: .mu [.ag fc cs]::T) rw):=by
 have c2:=rA true 2;refine cU func90 Xp Xk call90 λW0 S0 M0 own β hβ=> ?_;repeat'(first|(show av _ (.region 1 _ _) _ _;refine et 1 rfl (λK1 aA=> ?_);refine aj ?_)|(refine aA _ (eZ hc ?_);simp only[aU,Nat.reduceAdd];refine aj ?_)|(show cC _ _ _ _ _;refine aj ?_)|refine aq ?_|refine au λK hK=> ?_|refine cA (c2) ?_|(intro hg;try exact ai)|exact fin|apply af)
theorem Y7 (s:aJ)(nm cap:Nat)(cost:Int)(x1 x2 x3 x4 x5 x6 x7 x8 y1 y2 y3 y4 y5 y6 y7 y8:Bx)(lM lL:Bx)(T:List Bx)(rw:List Row)(fc:FuncId)(cs:List D)(hc:aH aa fc cs (.mu (ay s nm cap cost)::x1::x2::x3::x4::x5::x6::x7::x8:: .mu [.box 0 0]::lM::lL:: .mu [.ag fc cs]::T) rw (aT (.bool true) (.mu (ay s nm cap cost)::y1::y2::y3::y4::y5::y6::y7::y8:: .mu [.box 0 0]::lM::lL:: .mu [.ag fc cs]::T) rw)):aH aa 92 [.box 12 0] (.mu (ay s nm cap cost)::x1::x2::x3::x4::x5::x6::x7::x8:: .mu [.box 0 0]::lM::lL:: .mu [.ag fc cs]::T) rw (aT (i64 0) (.mu (ay s nm cap cost)::y1::y2::y3::y4::y5::y6::y7::y8:: .mu [.box 0 0]::lM::lL:: .mu [.ag fc cs]::T) rw):=by
 have c2:=rA true 7;refine cU Ji Je Jb Jm λW0 S0 M0 own β hβ=> ?_;repeat'(first|(show av _ (.region 1 _ _) _ _;refine et 1 rfl (λK1 aA=> ?_);refine aj ?_)|(refine aA _ (eZ hc ?_);simp only[aU,Nat.reduceAdd];refine aj ?_)|(show cC _ _ _ _ _;refine aj ?_)|refine aq ?_|refine au λK hK=> ?_|refine cA (c2) ?_|(intro hg;try exact ai)|exact fin|apply af)
theorem Gi (s:aJ)(nm cap:Nat)(cost:Int)(x1 x2 x3 x4 x5 x6 x7 x8 z1:Bx)(T:List Bx)(R0:Row)(k:Nat)(hk:k < 60)(fc:FuncId)(cs:List D)(hc:aH aa fc cs (.mu (ay s nm cap cost)::x1::x2::x3::x4::x5::x6::x7::x8:: .mu [.box 0 0]::z1:: .mu [.ag fc cs]::T) [R0,az k] (aT (.bool true) (.mu (ay s nm cap cost)::x1::x2::x3::x4::x5::x6::x7::x8:: .mu [.box 0 0]::z1:: .mu [.ag fc cs]::T) [R0,az k])):aH aa 91 [.box 9 0, .box 11 0] (.mu (ay s nm cap cost)::x1::x2::x3::x4::x5::x6::x7::x8:: .mu [.box 0 0]::z1:: .mu [.ag fc cs]::T) [R0,az k] (aT (i64 0) (.mu (ay s nm cap cost)::x1::x2::x3::x4::x5::x6::x7::x8:: .mu [.box 0 0]::z1:: .mu [.ag fc cs]::T) [R0,az k]):=by
 have c2:=rA true 6;have hl:(cD k D.any).length=k:=by simp
 refine cU func91 ntmps91 results91 call91 λW0 S0 M0 own β hβ=> ?_;repeat'(first|(show av _ (.region 1 _ _) _ _;refine Xa 8 (λN s1=>nq _ N (.tmp 10) [] (some 11) s1) (λ_ _ h=>aP.vd h) rfl (by intro cl h;cases h) (λK1 aA=> ?_);(refine sX (@hl) ?_))|(refine aA _ (E5 rfl rfl ?_);clear aA K1;refine iK hc (bC rfl) rfl rfl rfl rfl ?_;rintro d aB aD ⟨rfl,rfl,rfl⟩;simp only[aU,Nat.reduceAdd];(refine sX (@hl) ?_))|(show cC _ _ _ _ _;(refine sX (@hl) ?_))|refine bh ?_|((first|refine bj λK hK=> ?_|refine bg ?_|show bb _ _ _ _ _|refine bo (c2) ?_);(refine sX (@hl) ?_))|(intro hg;try exact ai)|exact fin|apply af)
theorem Y5 (s:aJ)(nm cap:Nat)(cost:Int)(x1 x2 x3 x4 x5 x6 x7 x8 y1 y2 y3 y4 y5 y6 y7 y8:Bx)(R0:Row)(k:Nat)(hk:k < 60)(fr fn fh:FuncId)(cG cJ cK:List D)(dD:a7 9 2 [y1,y2,y3,y4,y5,y6,y7,y8]=true)(uj:a7 10 2 [y1,y2,y3,y4,y5,y6,y7,y8, .mu [.box 0 0]]=true)(jF:[y1,y2,y3,y4,y5,y6,y7,y8].map (ij 1)=[y1,y2,y3,y4,y5,y6,y7,y8])
  (hr:aH aa fr cG (.mu (ay s nm cap cost)::x1::x2::x3::x4::x5::x6::x7::x8:: .mu [.box 0 0]:: .mu [.ag fr cG]:: .mu [.ag fn cJ]:: .mu [.ag fh cK]::[]) [R0,az k] (aT (.bool true) (.mu (ay s nm cap cost)::y1::y2::y3::y4::y5::y6::y7::y8:: .mu [.box 0 0]:: .mu [.ag fr cG]:: .mu [.ag fn cJ]:: .mu [.ag fh cK]::[]) [R0,az k]))
  (hn:aH aa fn cJ (.mu (ay s nm cap cost)::y1::y2::y3::y4::y5::y6::y7::y8:: .mu [.box 0 0]:: .mu [.ag fr cG]:: .mu [.ag fn cJ]:: .mu [.ag fh cK]::[]) [R0,az k] (aT (.bool true) (.mu (ay s nm cap cost)::y1::y2::y3::y4::y5::y6::y7::y8:: .mu [.box 0 0]:: .mu [.ag fr cG]:: .mu [.ag fn cJ]:: .mu [.ag fh cK]::[]) [R0,az k]))
  (hh:aH aa fh cK (.mu (ay s nm cap cost)::y1::y2::y3::y4::y5::y6::y7::y8:: .mu [.box 0 0]:: .mu [.ag fr cG]:: .mu [.ag fn cJ]:: .mu [.ag fh cK]::[]) [R0,az k] (aT (.bool true) (.mu (ay s nm cap cost)::y1::y2::y3::y4::y5::y6::y7::y8:: .mu [.box 0 0]:: .mu [.ag fr cG]:: .mu [.ag fn cJ]:: .mu [.ag fh cK]::[]) [R0,az k])):
  aH aa 32 [.box 0 0, .any, .ag fr cG, .ag fn cJ, .ag fh cK] [.mu (ay s nm cap cost),x1,x2,x3,x4,x5,x6,x7,x8] [R0,az k] (aT (i64 0) [.mu (ay s nm cap cost),y1,y2,y3,y4,y5,y6,y7,y8] [R0,az (k + 1)]):=by
 have qh:a7 9 2 [.mu (ay s nm cap cost),y1,y2,y3,y4,y5,y6,y7,y8]=true:=dD;have d1:=CG s nm cap cost x1 x2 x3 x4 x5 x6 x7 x8 (.mu [.ag fr cG]:: .mu [.ag fn cJ]:: .mu [.ag fh cK]::[]) [R0,az k];have d2:=Gj s nm cap cost x1 x2 x3 x4 x5 x6 x7 x8 y1 y2 y3 y4 y5 y6 y7 y8 (.mu [.ag fn cJ]:: .mu [.ag fh cK]::[]) [R0,az k] fr cG hr;have d3:=Gi s nm cap cost y1 y2 y3 y4 y5 y6 y7 y8 (.mu [.ag fr cG]) (.mu [.ag fh cK]::[]) R0 k hk fn cJ hn;have d4:=Y7 s nm cap cost y1 y2 y3 y4 y5 y6 y7 y8 y1 y2 y3 y4 y5 y6 y7 y8 (.mu [.ag fr cG]) (.mu [.ag fn cJ]) [] [R0,az k] fh cK hh;refine cU Fi Fg Ff Fl λW0 S0 M0 own β hβ=> ?_;repeat'(first|(show av _ (.loop _) _ _;refine sn 5 ?_)|refine bh ?_|((first|refine bj λK hK=> ?_|refine bg ?_|show bb _ _ _ _ _);(refine sX (af @mM (af @mN (af @mL (af @mR (@me))))) ?_))|(intro hg;try exact ai)|exact fin|apply af)
 repeat'(first|(show av _ (.region 8 _ true) _ _;refine bJ ?_)|(refine sJ ?_)|(show av _ (.region 4 _ _) _ _;refine et 1 rfl (λK1 aA=> ?_);(refine sX (af @mM (af @mN (af @mL (af @mR (@me))))) ?_))|(refine aA _ ?_;clear aA K1;(first|(refine iK d1 (bC rfl) rfl rfl rfl rfl ?_)|(refine iK d2 (bC rfl) rfl rfl rfl rfl ?_)|(refine iK d3 (bC rfl) rfl rfl rfl rfl ?_)|(refine iK d4 (bC rfl) rfl rfl rfl rfl ?_));rintro d aB aD ⟨rfl,rfl,rfl⟩;simp only[aU,Nat.reduceAdd];(refine sX (af @mM (af @mN (af @mL (af @mR (@me))))) ?_))|refine bh ?_|((first|refine bj λK hK=> ?_|refine bg ?_|show bb _ _ _ _ _);(refine sX (af @mM (af @mN (af @mL (af @mR (@me))))) ?_))|(intro hg;try exact ai)|exact fin|apply af)
 refine b_ ?_;refine nv (cR 38 [(1, .any),(5, .box 9 0)] [.mu (ay s nm cap cost),y1,y2,y3,y4,y5,y6,y7,y8, .mu [.box 0 0]] [R0,az k]) (br rfl (by simp[put]) ⟨[_,_,_],rfl⟩ ⟨[],rfl⟩) (ik rfl uj) (by rw[hβ];exact Nat.le_succ _) ?_;refine PD (by rfl) _ _ _ _ _ s nm cap cost y1 y2 y3 y4 y5 y6 y7 y8 R0 k hk jF _ ?_;simp only[e_,cond_true,me];repeat'(first|(show av _ .ret _ _;refine bJ ?_)|refine bh ?_|((first|refine bj λK hK=> ?_|refine bg ?_|show bb _ _ _ _ _);(refine sX (af @mM (af @mN (af @mL (af @mR (@me))))) ?_))|(intro hg;try exact ai)|exact fin|apply af)
 refine b_ ?_;refine nv (cR 38 [(10,i64 0)] [.mu (ay s nm cap cost),y1,y2,y3,y4,y5,y6,y7,y8] [R0,az (k + 1)]) (br rfl (by simp[put]) ⟨[_],rfl⟩ ⟨[],rfl⟩) (ik rfl qh) (by rw[hβ];exact aY _) ?_;refine tp ?_;exact⟨rfl,rfl,rfl⟩
theorem Y8 (s:aJ)(nm cap:Nat)(cost:Int)(x1 x2 x3 x4 x5 x6 x7 x8 y1 y2 y3 y4 y5 y6 y7 y8:Bx)(T:List Bx)(rw:List Row)(fc:FuncId)(cs:List D)(hc:aH aa fc cs (.mu (ay s nm cap cost)::x1::x2::x3::x4::x5::x6::x7::x8:: .mu [.box 0 0]:: .mu [.ag fc cs]::T) rw (aT (.bool false) (.mu (ay s nm cap cost)::y1::y2::y3::y4::y5::y6::y7::y8:: .mu [.box 0 0]:: .mu [.ag fc cs]::T) rw)):aH aa 90 [.box 10 0] (.mu (ay s nm cap cost)::x1::x2::x3::x4::x5::x6::x7::x8:: .mu [.box 0 0]:: .mu [.ag fc cs]::T) rw (aT (i64 2) (.mu (ay s nm cap cost)::y1::y2::y3::y4::y5::y6::y7::y8:: .mu [.box 0 0]:: .mu [.ag fc cs]::T) rw):=by
 have c2:=rA false 2;refine cU func90 Xp Xk call90 λW0 S0 M0 own β hβ=> ?_;repeat'(first|(show av _ (.region 1 _ _) _ _;refine et 1 rfl (λK1 aA=> ?_);refine aj ?_)|(refine aA _ (eZ hc ?_);simp only[aU,Nat.reduceAdd];refine aj ?_)|(show cC _ _ _ _ _;refine aj ?_)|refine aq ?_|refine au λK hK=> ?_|refine cA (c2) ?_|(intro hg;try exact ai)|exact fin|apply af)
theorem Y6 (s:aJ)(nm cap:Nat)(cost:Int)(x1 x2 x3 x4 x5 x6 x7 x8 y1 y2 y3 y4 y5 y6 y7 y8:Bx)(lM lL:Bx)(T:List Bx)(rw:List Row)(fc:FuncId)(cs:List D)(hc:aH aa fc cs (.mu (ay s nm cap cost)::x1::x2::x3::x4::x5::x6::x7::x8:: .mu [.box 0 0]::lM::lL:: .mu [.ag fc cs]::T) rw (aT (.bool false) (.mu (ay s nm cap cost)::y1::y2::y3::y4::y5::y6::y7::y8:: .mu [.box 0 0]::lM::lL:: .mu [.ag fc cs]::T) rw)):aH aa 92 [.box 12 0] (.mu (ay s nm cap cost)::x1::x2::x3::x4::x5::x6::x7::x8:: .mu [.box 0 0]::lM::lL:: .mu [.ag fc cs]::T) rw (aT (i64 7) (.mu (ay s nm cap cost)::y1::y2::y3::y4::y5::y6::y7::y8:: .mu [.box 0 0]::lM::lL:: .mu [.ag fc cs]::T) rw):=by
 have c2:=rA false 7;refine cU Ji Je Jb Jm λW0 S0 M0 own β hβ=> ?_;repeat'(first|(show av _ (.region 1 _ _) _ _;refine et 1 rfl (λK1 aA=> ?_);refine aj ?_)|(refine aA _ (eZ hc ?_);simp only[aU,Nat.reduceAdd];refine aj ?_)|(show cC _ _ _ _ _;refine aj ?_)|refine aq ?_|refine au λK hK=> ?_|refine cA (c2) ?_|(intro hg;try exact ai)|exact fin|apply af)
theorem J4 (s:aJ)(nm cap:Nat)(cost:Int)(x1 x2 x3 x4 x5 x6 x7 x8 y1 y2 y3 y4 y5 y6 y7 y8:Bx)(R0:Row)(k:Nat)(hk:k < 60)(fr fn fh:FuncId)(cG cJ cK:List D)(dD:a7 9 2 [y1,y2,y3,y4,y5,y6,y7,y8]=true)(uj:a7 10 2 [y1,y2,y3,y4,y5,y6,y7,y8, .mu [.box 0 0]]=true)(jF:[y1,y2,y3,y4,y5,y6,y7,y8].map (ij 1)=[y1,y2,y3,y4,y5,y6,y7,y8])
  (hr:aH aa fr cG (.mu (ay s nm cap cost)::x1::x2::x3::x4::x5::x6::x7::x8:: .mu [.box 0 0]:: .mu [.ag fr cG]:: .mu [.ag fn cJ]:: .mu [.ag fh cK]::[]) [R0,az k] (aT (.bool false) (.mu (ay s nm cap cost)::y1::y2::y3::y4::y5::y6::y7::y8:: .mu [.box 0 0]:: .mu [.ag fr cG]:: .mu [.ag fn cJ]:: .mu [.ag fh cK]::[]) [R0,az k])):
  aH aa 32 [.box 0 0, .any, .ag fr cG, .ag fn cJ, .ag fh cK] [.mu (ay s nm cap cost),x1,x2,x3,x4,x5,x6,x7,x8] [R0,az k] (aT (i64 2) [.mu (ay s nm cap cost),y1,y2,y3,y4,y5,y6,y7,y8] [R0,az k]):=by
 have qh:a7 9 2 [.mu (ay s nm cap cost),y1,y2,y3,y4,y5,y6,y7,y8]=true:=dD;have d1:=CG s nm cap cost x1 x2 x3 x4 x5 x6 x7 x8 (.mu [.ag fr cG]:: .mu [.ag fn cJ]:: .mu [.ag fh cK]::[]) [R0,az k];have d2:=Y8 s nm cap cost x1 x2 x3 x4 x5 x6 x7 x8 y1 y2 y3 y4 y5 y6 y7 y8 (.mu [.ag fn cJ]:: .mu [.ag fh cK]::[]) [R0,az k] fr cG hr;refine cU Fi Fg Ff Fl λW0 S0 M0 own β hβ=> ?_;repeat'(first|(show av _ (.loop _) _ _;refine sn 5 ?_)|refine aq ?_|refine au λK hK=> ?_|(intro hg;try exact ai)|exact fin|apply af)
 repeat'(first|(show av _ .ret _ _;refine bJ ?_)|(refine sJ ?_)|(show av _ (.region 4 _ _) _ _;refine et 1 rfl (λK1 aA=> ?_);refine aj ?_)|(refine aA _ ?_;clear aA K1;(first|(refine iK d1 (bC rfl) rfl rfl rfl rfl ?_)|(refine iK d2 (bC rfl) rfl rfl rfl rfl ?_));rintro d aB aD ⟨rfl,rfl,rfl⟩;simp only[aU,Nat.reduceAdd];refine aj ?_)|refine aq ?_|refine au λK hK=> ?_|(intro hg;try exact ai)|exact fin|apply af)
 refine b_ ?_;refine nv (cR 38 [(10,i64 2)] [.mu (ay s nm cap cost),y1,y2,y3,y4,y5,y6,y7,y8] [R0,az k]) (br rfl (by simp[put]) ⟨[_,_,_,_],rfl⟩ ⟨[],rfl⟩) (ik rfl qh) (by rw[hβ];exact aY _) ?_;refine tp ?_;exact⟨rfl,rfl,rfl⟩
theorem PE (s:aJ)(nm cap:Nat)(cost:Int)(x1 x2 x3 x4 x5 x6 x7 x8 y1 y2 y3 y4 y5 y6 y7 y8:Bx)(R0:Row)(k:Nat)(hk:k < 60)(fr fn fh:FuncId)(cG cJ cK:List D)(dD:a7 9 2 [y1,y2,y3,y4,y5,y6,y7,y8]=true)(uj:a7 10 2 [y1,y2,y3,y4,y5,y6,y7,y8, .mu [.box 0 0]]=true)(jF:[y1,y2,y3,y4,y5,y6,y7,y8].map (ij 1)=[y1,y2,y3,y4,y5,y6,y7,y8])
  (hr:aH aa fr cG (.mu (ay s nm cap cost)::x1::x2::x3::x4::x5::x6::x7::x8:: .mu [.box 0 0]:: .mu [.ag fr cG]:: .mu [.ag fn cJ]:: .mu [.ag fh cK]::[]) [R0,az k] (aT (.bool true) (.mu (ay s nm cap cost)::y1::y2::y3::y4::y5::y6::y7::y8:: .mu [.box 0 0]:: .mu [.ag fr cG]:: .mu [.ag fn cJ]:: .mu [.ag fh cK]::[]) [R0,az k]))
  (hn:aH aa fn cJ (.mu (ay s nm cap cost)::y1::y2::y3::y4::y5::y6::y7::y8:: .mu [.box 0 0]:: .mu [.ag fr cG]:: .mu [.ag fn cJ]:: .mu [.ag fh cK]::[]) [R0,az k] (aT (.bool true) (.mu (ay s nm cap cost)::y1::y2::y3::y4::y5::y6::y7::y8:: .mu [.box 0 0]:: .mu [.ag fr cG]:: .mu [.ag fn cJ]:: .mu [.ag fh cK]::[]) [R0,az k]))
  (hh:aH aa fh cK (.mu (ay s nm cap cost)::y1::y2::y3::y4::y5::y6::y7::y8:: .mu [.box 0 0]:: .mu [.ag fr cG]:: .mu [.ag fn cJ]:: .mu [.ag fh cK]::[]) [R0,az k] (aT (.bool false) (.mu (ay s nm cap cost)::y1::y2::y3::y4::y5::y6::y7::y8:: .mu [.box 0 0]:: .mu [.ag fr cG]:: .mu [.ag fn cJ]:: .mu [.ag fh cK]::[]) [R0,az k])):
  aH aa 32 [.box 0 0, .any, .ag fr cG, .ag fn cJ, .ag fh cK] [.mu (ay s nm cap cost),x1,x2,x3,x4,x5,x6,x7,x8] [R0,az k] (aT (i64 7) [.mu (ay s nm cap cost),y1,y2,y3,y4,y5,y6,y7,y8] [R0,az k]):=by
 have qh:a7 9 2 [.mu (ay s nm cap cost),y1,y2,y3,y4,y5,y6,y7,y8]=true:=dD;have d1:=CG s nm cap cost x1 x2 x3 x4 x5 x6 x7 x8 (.mu [.ag fr cG]:: .mu [.ag fn cJ]:: .mu [.ag fh cK]::[]) [R0,az k];have d2:=Gj s nm cap cost x1 x2 x3 x4 x5 x6 x7 x8 y1 y2 y3 y4 y5 y6 y7 y8 (.mu [.ag fn cJ]:: .mu [.ag fh cK]::[]) [R0,az k] fr cG hr;have d3:=Gi s nm cap cost y1 y2 y3 y4 y5 y6 y7 y8 (.mu [.ag fr cG]) (.mu [.ag fh cK]::[]) R0 k hk fn cJ hn;have d4:=Y6 s nm cap cost y1 y2 y3 y4 y5 y6 y7 y8 y1 y2 y3 y4 y5 y6 y7 y8 (.mu [.ag fr cG]) (.mu [.ag fn cJ]) [] [R0,az k] fh cK hh;refine cU Fi Fg Ff Fl λW0 S0 M0 own β hβ=> ?_;repeat'(first|(show av _ (.loop _) _ _;refine sn 5 ?_)|refine aq ?_|refine au λK hK=> ?_|(intro hg;try exact ai)|exact fin|apply af)
 repeat'(first|(show av _ .ret _ _;refine bJ ?_)|(refine sJ ?_)|(show av _ (.region 4 _ _) _ _;refine et 1 rfl (λK1 aA=> ?_);refine aj ?_)|(refine aA _ ?_;clear aA K1;(first|(refine iK d1 (bC rfl) rfl rfl rfl rfl ?_)|(refine iK d2 (bC rfl) rfl rfl rfl rfl ?_)|(refine iK d3 (bC rfl) rfl rfl rfl rfl ?_)|(refine iK d4 (bC rfl) rfl rfl rfl rfl ?_));rintro d aB aD ⟨rfl,rfl,rfl⟩;simp only[aU,Nat.reduceAdd];refine aj ?_)|refine aq ?_|refine au λK hK=> ?_|(intro hg;try exact ai)|exact fin|apply af)
 refine b_ ?_;refine nv (cR 38 [(10,i64 7)] [.mu (ay s nm cap cost),y1,y2,y3,y4,y5,y6,y7,y8] [R0,az k]) (br rfl (by simp[put]) ⟨[_,_,_,_],rfl⟩ ⟨[],rfl⟩) (ik rfl qh) (by rw[hβ];exact aY _) ?_;refine tp ?_;exact⟨rfl,rfl,rfl⟩
def Is (W R p:Int):Bool:=decide (p / W=0)||decide (p / W=R - 1)||decide (p % W=0)||decide (p % W=W - 1)
def xK (W:Int)(cor:Bool)(p q:Int):Bool:=decide (dR W p q=1)||(cor&&decide (dR W p q=2)&&decide (p / W≠q / W)&&decide (p % W≠q % W))
theorem ah5 (W R p:Int)(hw:1<=W/\W<=6)(hr:1<=R/\R<=5)(hp:0<=p/\p<=29):ak aa 268 [.agg [i64 W,i64 R],i64 p] (.bool (Is W R p)):=by
 have h1:=zB hw hp;have c1:=EU W R p hw hp;have c3:=EZ W R p hw hp;have hd:Is W R p=(decide (p / W=0)||decide (p / W=R - 1)||decide (p % W=0)||decide (p % W=W - 1)):=rfl;rw[hd];generalize p / W=a1 at *;generalize p % W=a2 at *;refine cT func268 ntmps268 results268 call268 λw0 S0 M0=> ?_;repeat'(first|refine aq ?_|refine au λK hK=> ?_|refine cA (c1) ?_|refine cA (c3) ?_|(intro hg;try exact ai)|exact fin|apply af)
 all_goals(simp only[*,decide_true,decide_false,O1,XR,JK,XS])
theorem akY (W R p:Int)(cor:Bool):ak aa 269 [.agg [i64 W,i64 R],i64 p, .bool cor] (.ag 304 [.ro [i64 W,i64 R], .ro [i64 p], .ro [.bool cor]]):=by
 refine cT func269 ntmps269 results269 call269 λw0 S0 M0=> ?_;repeat'(first|(refine j6 0 _ _ rfl rfl ?_;simp only[aU,Nat.reduceAdd])|(refine j6 1 _ _ rfl rfl ?_;simp only[aU,Nat.reduceAdd])|(refine j6 2 _ _ rfl rfl ?_;simp only[aU,Nat.reduceAdd])|refine aq ?_|refine au λK hK=> ?_|(intro hg;try exact ai)|exact fin|apply af)
def jz (W:Int)(cor:Bool)(p:Int)(j:Nat):List Nat:=(ct j).filter λq=>xK W cor p (q:Nat)
theorem Lf {W:Int}{cor:Bool}{p:Int}{j:Nat}:jz W cor p (j + 1)=jz W cor p j++(if xK W cor p (j:Nat)=true then[j]else[]):=by
 simp only[jz,Fx,List.filter_append,List.filter_cons,List.filter_nil]
theorem RO {W:Int}{cor:Bool}{p:Int}{j:Nat}:∀m,j<=m->∃t,jz W cor p m=jz W cor p j++t
 |0,h=>by
  obtain rfl:j=0:=ae;exact⟨[],by simp⟩
 |m + 1,h=>by
  by_cases hj:j=m + 1
  ·subst hj;exact⟨[],by simp⟩
  ·obtain⟨t,ht⟩:=RO (W:=W) (cor:=cor) (p:=p) (j:=j) m ae;exact⟨_,by rw[Lf,ht,List.append_assoc]⟩
abbrev yE (q:Nat):List D:=[i64 (q:Nat)]
theorem ad3 {W:Int}{cor:Bool}{p:Int}{j m:Nat}(hj:j < m)(h:xK W cor p (j:Nat)=true):((jz W cor p m).map yE)[(jz W cor p j).length]? =some [i64 (j:Nat)]:=by
 obtain⟨t,ht⟩:=RO (W:=W) (cor:=cor) (p:=p) (j:=j + 1) m ae;rw[ht,Lf,if_pos h];simp
theorem Lg {W:Int}{cor:Bool}{p:Int}{m:Nat}:∀q∈jz W cor p m,q < m:=λq hq=>List.mem_range.1 (List.mem_filter.1 hq).1
theorem akZ (W R:Nat)(p:Int)(cor:Bool)(pc:List PanicEntry->Prop)(hw:1<=W/\W<=6)(hr:1<=R/\R<=5)(hp:0<=p/\p<=29):
  ON aa pc 304 [.ro [i64 W,i64 R], .ro [i64 p], .ro [.bool cor]] ((jz W cor p (W * R)).map yE):=by
 have hW:1<=(W:Int)/\(W:Int)<=6:=ae;have Ew:=tq hw hr;have hmul:(W:Int) * R=((W * R:Nat):Int):=by simp
 have im:∀j:Nat,j < W * R->xK W cor p (j:Nat)=true->((jz W cor p (W * R)).map yE)[(jz W cor p j).length]? =some [i64 (j:Nat)]:=λj hj h=>ad3 hj h;have A_:∀j:Nat,(jz W cor p (j + 1)).length=(jz W cor p j).length + (if xK W cor p (j:Nat)=true then 1 else 0):=λj=>by rw[Lf];split<;>simp
 have xh:(jz W cor p 0).length=0:=rfl;have hlen:((jz W cor p (W * R)).map yE).length=(jz W cor p (W * R)).length:=by simp
 generalize fV:(jz W cor p (W * R)).map yE=xs at *;generalize hN:W * R=N at *;refine afq func304 ntmps304 results304 call304 rfl aO λl J Jx hY=> ?_;repeat'(first
   |refine nU ?_
   |refine n3 ?_
   |refine nV ?_
   |refine nX ?_
   |refine nT ?_
   |refine nZ ?_
   |refine nW ?_
   |(refine nY ?_;(refine sX (@hmul) ?_;try exact trivial))
   |(refine gF λw0 S0 M0 oq=>kI λK hK=> ?_;(refine sX (@hmul) ?_;try exact trivial))
   |(refine gF λw0 S0 M0 oq=>mG Tryz.ty.mixed ax λK hK=> ?_;(refine sX (@hmul) ?_;try exact trivial))
   |(refine hK _ ?_;clear hK K;simp only[bT,bU,if_true,Nat.reduceEqDiff,reduceIte])
   |(show bT _ _ _ _ _;simp only[bT,bU,if_true,Nat.reduceEqDiff,reduceIte])
   |(show gv _ _ _ _;simp only[gv,bT,bU,if_true,Nat.reduceEqDiff,reduceIte])
   |(show bU _ _ _ _ _;simp only[bT,bU,if_true,Nat.reduceEqDiff,reduceIte])
   |(intro hg;first|(exfalso;omega)|(exfalso;contradiction)|skip)
   |apply af
   |(with_reducible rfl)
   |(clear hK;omega)
   |omega)
 refine Hq (ι:=Nat) (λj=>[(0, .val (.func (.yield l) #[] #[])),(1, .ro [i64 W,i64 R]),(2, .ro [i64 p]),(3, .ro [.bool cor]),(12,i64 (N:Nat)),(13,i64 (j:Nat))]) (λj=>(true,(jz W cor p j).length)) (λj=>j<=N) (λj=>N - j) (λ_ _=>rfl) 0 (bD _) (by simp[xh]) (br rfl (by try refine sX (@hmul) ?_;try simp) ⟨_,rfl⟩ ⟨_,rfl⟩) (λj hj=> ?_);by_cases aG:j < N
 ·have hq:0<=(j:Int)/\(j:Int)<=29:=ae;have c1:=BT W R p j hW hp hq;have c2:=EU W R p hW hp;have c3:=EU W R j hW hq;have c4:=EZ W R p hW hp;have c5:=EZ W R j hW hq;have og:=uA (W:=W) hW hp hq;have hy:=im j aG;have Hz:xK W cor p (j:Nat)=true->(jz W cor p (j + 1)).length=(jz W cor p j).length + 1:=λh=>by rw[A_,if_pos h]
  have HA:xK W cor p (j:Nat)=false->(jz W cor p (j + 1)).length=(jz W cor p j).length:=λh=>by rw[A_,if_neg (by rw[h];decide)];rfl
  simp only[xK]at Hz HA hy;clear A_ im fV;generalize dR W p j=d at *;generalize p / (W:Int)=a1 at *;generalize(j:Int) / (W:Int)=b1 at *;generalize p % (W:Int)=a2 at *;generalize(j:Int) % (W:Int)=b2 at *;have h6:((d=1/\True/\True/\True/\True)\/(¬d=1/\cor=true/\d=2/\¬a1=b1/\¬a2=b2))\/(¬d=1/\cor=false/\True/\True/\True)\/(¬d=1/\cor=true/\¬d=2/\True/\True)\/(¬d=1/\cor=true/\d=2/\a1=b1/\True)\/(¬d=1/\cor=true/\d=2/\¬a1=b1/\a2=b2):=by
   by_cases e1:d=1
   ·exact .inl (.inl ⟨e1,trivial,trivial,trivial,trivial⟩)
   cases cor with
   |false=>exact .inr (.inl ⟨e1,rfl,trivial,trivial,trivial⟩)
   |true=>
    by_cases e3:d=2
    ·by_cases e4:a1=b1
     ·exact .inr (.inr (.inr (.inl ⟨e1,rfl,e3,e4,trivial⟩)))
     ·by_cases e5:a2=b2
      ·exact .inr (.inr (.inr (.inr ⟨e1,rfl,e3,e4,e5⟩)))
      ·exact .inl (.inr ⟨e1,rfl,e3,e4,e5⟩)
    ·exact .inr (.inr (.inl ⟨e1,rfl,e3,trivial,trivial⟩))
  rcases h6 with h6|h6
  ·rcases h6 with⟨e1,e2,e3,e4,e5⟩|⟨e1,e2,e3,e4,e5⟩;all_goals simp only[e1,e2,e3,e4,e5,decide_true,decide_false,O1,XR,JK,XS,yg,oU,Bool.and_false,O2,ne_eq,not_true_eq_false,not_false_eq_true,if_true,if_false,bK,false_implies,true_implies,forall_const,reduceCtorEq,Int.reduceEq]at Hz HA hy
   all_goals(refine sX (af @e1 (af @e2 (af @e3 (af @e4 (af @e5 (af @decide_true (@decide_false))))))) ?_;try exact trivial)
   all_goals
    repeat'(first
      |refine nU ?_
      |refine n3 ?_
      |refine nV ?_
      |refine nX ?_
      |refine nT ?_
      |refine nZ ?_
      |refine nW ?_
      |(refine nY ?_;(refine sX (af @e1 (af @e2 (af @e3 (af @e4 (af @e5 (af @decide_true (@decide_false))))))) ?_;try exact trivial))
      |((refine bo (c1) ?_;try(refine sX (af @e1 (af @e2 (af @e3 (af @e4 (af @e5 (af @decide_true (@decide_false))))))) ?_;try exact trivial)))
      |((refine bo (c2) ?_;try(refine sX (af @e1 (af @e2 (af @e3 (af @e4 (af @e5 (af @decide_true (@decide_false))))))) ?_;try exact trivial)))
      |((refine bo (c3) ?_;try(refine sX (af @e1 (af @e2 (af @e3 (af @e4 (af @e5 (af @decide_true (@decide_false))))))) ?_;try exact trivial)))
      |((refine bo (c4) ?_;try(refine sX (af @e1 (af @e2 (af @e3 (af @e4 (af @e5 (af @decide_true (@decide_false))))))) ?_;try exact trivial)))
      |((refine bo (c5) ?_;try(refine sX (af @e1 (af @e2 (af @e3 (af @e4 (af @e5 (af @decide_true (@decide_false))))))) ?_;try exact trivial)))
      |((show IA _ (.region 5 _ _) _ _ _;refine afC hY 4 rfl λK1 aA=> ?_;(refine sX (af @e1 (af @e2 (af @e3 (af @e4 (af @e5 (af @decide_true (@decide_false))))))) ?_;try exact trivial)))
      |(refine aA _ _ rfl rfl ?_ ?_ (λb=> ?_);rotate_left;((refine sX (af @e1 (af @e2 (af @e3 (af @e4 (af @e5 (af @decide_true (@decide_false))))))) ?_;try exact trivial));((refine sX (af @e1 (af @e2 (af @e3 (af @e4 (af @e5 (af @decide_true (@decide_false))))))) ?_;try exact trivial)))
      |(refine gF λw0 S0 M0 oq=>kI λK hK=> ?_;(refine sX (af @e1 (af @e2 (af @e3 (af @e4 (af @e5 (af @decide_true (@decide_false))))))) ?_;try exact trivial))
      |(refine gF λw0 S0 M0 oq=>mG Tryz.ty.mixed ax λK hK=> ?_;(refine sX (af @e1 (af @e2 (af @e3 (af @e4 (af @e5 (af @decide_true (@decide_false))))))) ?_;try exact trivial))
      |(refine hK _ ?_;clear hK K;simp only[bT,bU,if_true,Nat.reduceEqDiff,reduceIte])
      |(show bT _ _ _ _ _;simp only[bT,bU,if_true,Nat.reduceEqDiff,reduceIte])
      |(show gv _ _ _ _;simp only[gv,bT,bU,if_true,Nat.reduceEqDiff,reduceIte])
      |(show bU _ _ _ _ _;simp only[bT,bU,if_true,Nat.reduceEqDiff,reduceIte])
      |(intro hg;first|(exfalso;omega)|(exfalso;contradiction)|skip)
      |apply af
      |(with_reducible rfl)
      |(clear hK;omega)
      |omega)
   all_goals refine aA _ _ rfl rfl hy ?_ ?_ (λch zi=> ?_) ?_
   all_goals first
    |(intro q b e;cases e;exact⟨48,rfl,rfl⟩)
    |(simp only[bT,bU,QE];exact⟨rfl,zi⟩)
    |(show bd _ _;try(refine sX (af @e1 (af @e2 (af @e3 (af @e4 (af @e5 (af @decide_true (@decide_false))))))) ?_;try exact trivial);done)
    |(clear aA K1
      try(refine sX (af @e1 (af @e2 (af @e3 (af @e4 (af @e5 (af @decide_true (@decide_false))))))) ?_;try exact trivial)
      repeat'(first
        |refine nU ?_
        |refine n3 ?_
        |refine nV ?_
        |refine nX ?_
        |refine nT ?_
        |refine nZ ?_
        |refine nW ?_
        |(refine nY ?_;(refine sX (af @e1 (af @e2 (af @e3 (af @e4 (af @e5 (af @decide_true (@decide_false))))))) ?_;try exact trivial))
        |(refine gF λw0 S0 M0 oq=>kI λK hK=> ?_;(refine sX (af @e1 (af @e2 (af @e3 (af @e4 (af @e5 (af @decide_true (@decide_false))))))) ?_;try exact trivial))
        |(refine gF λw0 S0 M0 oq=>mG Tryz.ty.mixed ax λK hK=> ?_;(refine sX (af @e1 (af @e2 (af @e3 (af @e4 (af @e5 (af @decide_true (@decide_false))))))) ?_;try exact trivial))
        |(refine hK _ ?_;clear hK K;simp only[bT,bU,if_true,Nat.reduceEqDiff,reduceIte])
        |(show bT _ _ _ _ _;simp only[bT,bU,if_true,Nat.reduceEqDiff,reduceIte])
        |(show gv _ _ _ _;simp only[gv,bT,bU,if_true,Nat.reduceEqDiff,reduceIte])
        |(show bU _ _ _ _ _;simp only[bT,bU,if_true,Nat.reduceEqDiff,reduceIte])
        |(intro hg;first|(exfalso;omega)|(exfalso;contradiction)|skip)
        |apply af
        |(with_reducible rfl)
        |(clear hK;omega)
        |omega)
     )
   all_goals exact⟨j + 1,ae,ae,by rw[Hz],br rfl (by try refine sX (af @e1 (af @e2 (af @e3 (af @e4 (af @e5 (af @decide_true (@decide_false))))))) ?_;try simp) ⟨_,rfl⟩ ⟨_,rfl⟩⟩
  ·rcases h6 with⟨e1,e2,e3,e4,e5⟩|⟨e1,e2,e3,e4,e5⟩|⟨e1,e2,e3,e4,e5⟩|⟨e1,e2,e3,e4,e5⟩;all_goals simp only[e1,e2,e3,e4,e5,decide_true,decide_false,O1,XR,JK,XS,yg,oU,Bool.and_false,O2,ne_eq,not_true_eq_false,not_false_eq_true,if_true,if_false,bK,false_implies,true_implies,forall_const,reduceCtorEq,Int.reduceEq]at Hz HA hy
   all_goals(refine sX (af @e1 (af @e2 (af @e3 (af @e4 (af @e5 (af @decide_true (@decide_false))))))) ?_;try exact trivial)
   all_goals
    repeat'(first
      |refine nU ?_
      |refine n3 ?_
      |refine nV ?_
      |refine nX ?_
      |refine nT ?_
      |refine nZ ?_
      |refine nW ?_
      |(refine nY ?_;(refine sX (af @e1 (af @e2 (af @e3 (af @e4 (af @e5 (af @decide_true (@decide_false))))))) ?_;try exact trivial))
      |((refine bo (c1) ?_;try(refine sX (af @e1 (af @e2 (af @e3 (af @e4 (af @e5 (af @decide_true (@decide_false))))))) ?_;try exact trivial)))
      |((refine bo (c2) ?_;try(refine sX (af @e1 (af @e2 (af @e3 (af @e4 (af @e5 (af @decide_true (@decide_false))))))) ?_;try exact trivial)))
      |((refine bo (c3) ?_;try(refine sX (af @e1 (af @e2 (af @e3 (af @e4 (af @e5 (af @decide_true (@decide_false))))))) ?_;try exact trivial)))
      |((refine bo (c4) ?_;try(refine sX (af @e1 (af @e2 (af @e3 (af @e4 (af @e5 (af @decide_true (@decide_false))))))) ?_;try exact trivial)))
      |((refine bo (c5) ?_;try(refine sX (af @e1 (af @e2 (af @e3 (af @e4 (af @e5 (af @decide_true (@decide_false))))))) ?_;try exact trivial)))
      |(refine gF λw0 S0 M0 oq=>kI λK hK=> ?_;(refine sX (af @e1 (af @e2 (af @e3 (af @e4 (af @e5 (af @decide_true (@decide_false))))))) ?_;try exact trivial))
      |(refine gF λw0 S0 M0 oq=>mG Tryz.ty.mixed ax λK hK=> ?_;(refine sX (af @e1 (af @e2 (af @e3 (af @e4 (af @e5 (af @decide_true (@decide_false))))))) ?_;try exact trivial))
      |(refine hK _ ?_;clear hK K;simp only[bT,bU,if_true,Nat.reduceEqDiff,reduceIte])
      |(show bT _ _ _ _ _;simp only[bT,bU,if_true,Nat.reduceEqDiff,reduceIte])
      |(show gv _ _ _ _;simp only[gv,bT,bU,if_true,Nat.reduceEqDiff,reduceIte])
      |(show bU _ _ _ _ _;simp only[bT,bU,if_true,Nat.reduceEqDiff,reduceIte])
      |(intro hg;first|(exfalso;omega)|(exfalso;contradiction)|skip)
      |apply af
      |(with_reducible rfl)
      |(clear hK;omega)
      |omega)
   all_goals exact⟨j + 1,ae,ae,by rw[HA],br rfl (by try refine sX (af @e1 (af @e2 (af @e3 (af @e4 (af @e5 (af @decide_true (@decide_false))))))) ?_;try simp) ⟨_,rfl⟩ ⟨_,rfl⟩⟩
 ·obtain rfl:j=N:=ae;refine aj ?_;repeat'(first
    |refine nU ?_
    |refine n3 ?_
    |refine nV ?_
    |refine nX ?_
    |refine nT ?_
    |refine nZ ?_
    |refine nW ?_
    |(refine nY ?_;(refine aj ?_;try exact trivial))
    |(refine gF λw0 S0 M0 oq=>kI λK hK=> ?_;(refine aj ?_;try exact trivial))
    |(refine gF λw0 S0 M0 oq=>mG Tryz.ty.mixed ax λK hK=> ?_;(refine aj ?_;try exact trivial))
    |(refine hK _ ?_;clear hK K;simp only[bT,bU,if_true,Nat.reduceEqDiff,reduceIte])
    |(show bT _ _ _ _ _;simp only[bT,bU,if_true,Nat.reduceEqDiff,reduceIte])
    |(show gv _ _ _ _;simp only[gv,bT,bU,if_true,Nat.reduceEqDiff,reduceIte])
    |(show bU _ _ _ _ _;simp only[bT,bU,if_true,Nat.reduceEqDiff,reduceIte])
    |(intro hg;first|(exfalso;omega)|(exfalso;contradiction)|skip)
    |apply af
    |(with_reducible rfl)
    |(clear hK;omega)
    |omega)
  all_goals(rw[hlen])
end Go.Proofs.YtafmfhkplgapjaaGreatDoor
namespace Go.Proofs.YtafmfhkplgapjaaGreatDoor
set_option maxRecDepth 100000
set_option maxHeartbeats 4000000
open Go.Ab Go.RowKit Go
attribute[local irreducible] av dL dY ak aH wk IA ez aP yj
theorem WH {c:Ctx}{Q:Exit->St->Prop}{N:St->Prop}{fx:Operand}{xs:List Operand}{dst:Option Tmp}{s1:St}{f:FuncId}{cs ds:List D}{bx:List Bx}{aD:List Row}{K0:D->List Bx->List Row->Prop}{Kp:List PanicEntry->List Bx->List Row->Prop}(hc:wk c.P f ds bx aD K0 Kp)(hd:bd s1 dst)
  (hx:s1.ev fx= .ag f cs)(ha:xs.map s1.ev++cs=ds)(hb:s1.bx=bx)(hr:s1.rw=aD)(hk:∀d cH fF,K0 d cH fF->N (St.put ⟨s1.n,j4 bx.length s1.sl,cH,fF⟩ dst d))(hp:∀ch cH fF,Kp ch cH fF->Q (.panic ch) ⟨s1.n,j4 bx.length s1.sl,cH,fF⟩):N6 c Q N fx xs dst s1:=by
 refine⟨hd, ?_⟩;rw[hx];refine⟨ds, ?_, ?_⟩
 ·rw[<-ha];exact E7
 ·rw[hb,hr];exact hc.mono hk hp
def si (g:Nat->List Nat->Option (List Nat))(st:Nat->Bool)(o:Option (List Nat))(q:Nat):Option (List Nat):=
 o.bind λm=>if st q=true/\q∉m then g q m else some m
def ju (E:Nat->Bool)(N:Nat->List Nat)(st:Nat->Bool):Nat->Nat->List Nat->Option (List Nat)
 |0,_,_=>none
 |f + 1,p,met=>if E p=true then none else(N p).foldl (si (ju E N st f) st) (some (met++[p]))
structure nx (n:Nat)(m:List Nat):Prop where
 lt:∀q∈m,q < n
 nd:m.Nodup
theorem RM:∀(n:Nat) (m:List Nat),m.Nodup->(∀q∈m,q < n)->m.length<=n
 |0,m,_,h=>by
  cases m with
  |nil=>exact aY _
  |cons x m=>exact absurd (h x (dI ..)) ae
 |n + 1,m,hn,h=>by
  have ih:=RM n (m.erase n) (hn.erase n) (λq hq=>by
   have h1:=h q (List.mem_of_mem_erase hq);have:q≠n:=λe=>by subst e;exact hn.not_mem_erase hq
   omega)
  rw[List.length_erase]at ih;split at ih<;>omega
theorem nx.len {n:Nat}{m:List Nat}(h:nx n m):m.length<=n:=RM n m h.nd h.lt
theorem nx.add {n p:Nat}{m:List Nat}(h:nx n m)(hp:p < n)(hm:p∉m):nx n (m++[p]):=
 ⟨λq hq=>by
         rcases fA.1 hq with hq|hq
         ·exact h.lt q hq
         ·rw[oQ]at hq;subst hq;exact hp,
  by rw[List.nodup_append];exact⟨h.nd,by simp,λa ha b hb e=>by rw[oQ]at hb;subst hb;subst e;exact hm ha⟩⟩
theorem Ii {g:Nat->List Nat->Option (List Nat)}{st:Nat->Bool}:∀l:List Nat,l.foldl (si g st) none=none
 |[]=>rfl
 |_::l=>Ii l
theorem Ih {n:Nat}{g:Nat->List Nat->Option (List Nat)}{st:Nat->Bool}(hg:∀q m m',nx n m->q < n->q∉m->g q m=some m'->nx n m'/\m.length<=m'.length):∀(l:List Nat) (m m':List Nat),(∀q∈l,q < n)->nx n m->l.foldl (si g st) (some m)=some m'->nx n m'/\m.length<=m'.length
 |[],m,m',_,hm,h=>by cases h;exact⟨hm,aY _⟩
 |q::l,m,m',hl,hm,h=>by
  simp only[List.foldl_cons,si,Cf]at h;by_cases hq:st q=true/\q∉m
  ·rw[if_pos hq]at h;cases h1:g q m with
   |none=>rw[h1,Ii]at h;cases h
   |some m1=>
    rw[h1]at h;obtain⟨h2,h3⟩:=hg q m m1 hm (hl q (dI ..)) hq.2 h1;obtain⟨h4,h5⟩:=Ih hg l m1 m' (λx hx=>hl x (dW _ hx)) h2 h;exact⟨h4,ae⟩
  ·rw[if_neg hq]at h;exact Ih hg l m m' (λx hx=>hl x (dW _ hx)) hm h
theorem NA {n:Nat}{E:Nat->Bool}{N:Nat->List Nat}{st:Nat->Bool}(hN:∀p,p < n->∀q∈N p,q < n):∀(f p:Nat) (m m':List Nat),nx n m->p < n->p∉m->ju E N st f p m=some m'->nx n m'/\m.length + 1<=m'.length
 |0,p,m,m',_,_,_,h=>by cases h
 |f + 1,p,m,m',hm,hp,rT,h=>by
  simp only[ju]at h;split at h
  ·cases h
  ·obtain⟨h1,h2⟩:=Ih (n:=n) (λq m m' h1 h2 h3 h4=>by
    obtain⟨h5,h6⟩:=NA hN f q m m' h1 h2 h3 h4;exact⟨h5,ae⟩) (N p) _ m' (hN p hp) (hm.add hp rT) h
   exact⟨h1,by simpa using h2⟩
def rN (m:List Nat):List (D×D):=m.map λ(q:Nat)=>(i64 (q:Nat), .bool true)
theorem Lk {q:Nat}:∀m:List Nat,kR (i64 (q:Nat)) (rN m)=if q∈m then some (.bool true)else none
 |[]=>rfl
 |x::m=>by
  have ih:=Lk (q:=q) m;simp only[rN,ib,kR,jl]at ih⊢;by_cases h:x=q
  ·subst h;simp
  ·have:¬((x:Int)=q):=ae;simp only[this,decide_false,cond_false];rw[ih];simp[Ne.symm h]
theorem aed {q:Nat}{m:List Nat}(h:q∈m):kR (i64 (q:Nat)) (rN m)=some (.bool true):=by rw[Lk,if_pos h]
theorem R9 {q:Nat}{m:List Nat}(h:q∉m):kR (i64 (q:Nat)) (rN m)=none:=by rw[Lk,if_neg h]
theorem aec {q:Nat}{m:List Nat}(h:q∉m):nP (i64 (q:Nat)) (.bool true) (rN m)=rN (m++[q]):=by
 rw[G9 (R9 h)];simp[rN]
theorem G_ (m:List Nat):((rN m).all λp=>decide (jB p.1=some .num))=true:=by
 simp[rN,jB]
theorem R_ (nb:Nat)(m:List Nat):((rN m).all λp=>cq nb 0 p.1&&cq nb 0 p.2)=true:=by
 simp[rN,cq]
abbrev fwR:D:= .ag 267 [.box 0 0, .box 4 0, .box 2 0, .box 1 0, .box 5 0]
abbrev zH (W R:Nat)(cor:Bool)(sf:Nat)(A B:List D)(m:List Nat):List Bx:=[.mu [i64 W,i64 R], .mu [.ag sf [.ro A, .ro B]], .mu [.bool cor], .mp (rN m), .mu [.bu 3], .mu [fwR]]
theorem Wv (W R:Nat)(cor:Bool)(sf:Nat)(A B:List D)(m:List Nat):a7 6 0 (zH W R cor sf A B m)=true:=by
 simp only[zH,a7,R_];rfl
abbrev ov (W R:Nat)(q:Nat):Bool:=Is W R (q:Nat)
abbrev mf (W R:Nat)(cor:Bool)(q:Nat):List Nat:=jz W cor (q:Nat) (W * R)
theorem Kv {p q:Prop}(k:q)(h:p=q:=by simp -implicitDefEqProofs only[go_sem,j5,aU,Nat.reduceAdd,Nat.reduceSub,Nat.reduceMul,Nat.reduceLT,Nat.reduceLeDiff,Nat.reduceEqDiff,Nat.reduceBEq,Int.reduceLT,Int.reduceLE,Int.reduceToNat,Int.reduceAdd,Int.reduceSub,Int.reduceMul,Int.reduceNeg,Int.reduceEq,reduceCtorEq,eq_self,ne_eq,not_false_eq_true,if_true,reduceIte,aec rT,R_]<;>rfl):p:=h.symm▸k
theorem aaU (W R:Nat)(cor:Bool)(sf:Nat)(A B:List D)(st:Nat->Bool)(hw:1<=W/\W<=6)(hr:1<=R/\R<=5)(rQ:∀q,q < W * R->ak aa sf [i64 (q:Nat), .ro A, .ro B] (.bool (st q))):∀(f p:Nat) (m:List Nat),p < W * R->nx (W * R) m->p∉m->W * R + 1<=m.length + f->
  wk aa 267 [i64 (p:Nat), .box 0 0, .box 4 0, .box 2 0, .box 1 0, .box 5 0] (zH W R cor sf A B m) [] (λd aB aD=>∃m',ju (ov W R) (mf W R cor) st f p m=some m'/\d= .aF []/\aB=zH W R cor sf A B m'/\aD=[])
   (λch aB aD=>ju (ov W R) (mf W R cor) st f p m=none/\wK 294 ch/\(∃m',aB=zH W R cor sf A B m')/\aD=[]):=by
 have hW:1<=(W:Int)/\(W:Int)<=6:=ae;have hR:1<=(R:Int)/\(R:Int)<=5:=ae;have Ew:=tq hw hr;intro f;induction f with
 |zero=>intro p m hp hm rT hf;have:=hm.len;omega
 |succ f ih=>
  intro p m hp hm rT hf;have TB:0<=(p:Int)/\(p:Int)<=29:=ae;have c1:=ah5 W R (p:Nat) hW hR TB;refine akG func267 ntmps267 results267 call267 rfl aO λW0 S0 M0 own β hβ=> ?_;refine Od (by rfl) ?_;cases he:Is W R (p:Nat)with
  |true=>
   have hd:ju (ov W R) (mf W R cor) st (f + 1) p m=none:=by simp only[ju,ov];rw[if_pos he]
   rw[hd];rw[he]at c1;repeat'(first|(show av _ (.region 1 _ _) _ _;refine alq (x:=(p:Nat)) 2 rfl Oj (λK1 aA=> ?_);refine aj ?_)|refine aq ?_|refine au λK hK=> ?_|refine cA (c1) ?_|(intro hg;try exact ai)|exact fin|apply af)
   refine aA _ rfl (bC rfl) (λch d hc=> ?_);clear aA K1;simp only[bH,QF];exact⟨hc,⟨m,rfl⟩,rfl⟩
  |false=>
   rw[he]at c1;have hF:ju (ov W R) (mf W R cor) st (f + 1) p m=(mf W R cor p).foldl (si (ju (ov W R) (mf W R cor) st f) st) (some (m++[p])):=by
    simp only[ju,ov];rw[if_neg (by rw[he];decide)]
   have c2:=akY W R (p:Nat) cor;have it:=akZ W R (p:Nat) cor (wK 294) hw hr TB;have U1:∀p,p < W * R->∀q∈mf W R cor p,q < W * R:=λp _ q hq=>Lg q hq;have hL:=U1 p hp;generalize H6:mf W R cor p=L at *;rw[show jz W cor (p:Nat) (W * R)=L from H6]at it;obtain⟨F,Bw⟩:∃F:Nat->Option (List Nat),F=λk=>(L.take k).foldl (si (ju (ov W R) (mf W R cor) st f) st) (some (m++[p])):=⟨_,rfl⟩;have F0:F 0=some (m++[p]):=by rw[Bw];rfl
   have Fs:∀k (hk:k < L.length),F (k + 1)=si (ju (ov W R) (mf W R cor) st f) st (F k) L[k]:=λk hk=>by
    rw[Bw];simp only;rw[List.take_succ_eq_append_getElem hk,List.foldl_append];rfl
   have FL:F L.length=ju (ov W R) (mf W R cor) st (f + 1) p m:=by rw[Bw,hF];simp only;rw[Ci]
   have D8:=hm.add hp rT;have XM:∀k m',F k=some m'->nx (W * R) m'/\m.length + 1<=m'.length:=λk m' h=>by
    rw[Bw]at h;obtain⟨h1,h2⟩:=Ih (n:=W * R) (λq m m' h1 h2 h3 h4=>by
     obtain⟨h5,h6⟩:=NA U1 f q m m' h1 h2 h3 h4;exact⟨h5,ae⟩) (L.take k) _ m' (λq hq=>hL q (x9 hq)) D8 h
    exact⟨h1,by simpa using h2⟩
   have Fn:∀k,k < L.length->F (k + 1)=none->ju (ov W R) (mf W R cor) st (f + 1) p m=none:=λk hk h=>by
    rw[<-FL,Bw]at *;simp only at h⊢;rw[Ci,show L=L.take (k + 1)++L.drop (k + 1)from(Fw ..).symm,List.foldl_append,h,Ii]
   clear Bw hF;rw[<-FL]at Fn⊢;repeat'(first|refine bh ?_|((first|refine bj λK hK=> ?_|refine bg ?_|show bb _ _ _ _ _|refine bo (c1) ?_);(refine Kv ?_))|(exact G_ _)|(intro hg;try exact ai)|exact fin|apply af)
   refine Od (c:=⟨aa,W0,S0,M0,none,own,β⟩) rfl ?_;repeat'(first|refine bh ?_|((first|refine bj λK hK=> ?_|refine bg ?_|show bb _ _ _ _ _);(refine Kv ?_))|(exact G_ _)|(intro hg;try exact ai)|exact fin|apply af)
   refine Od (c:=⟨aa,W0,S0,M0,none,own,β⟩) rfl ?_;repeat'(first|refine bh ?_|((first|refine bj λK hK=> ?_|refine bg ?_|show bb _ _ _ _ _|refine bo (c2) ?_);(refine Kv ?_))|(intro hg;try exact ai)|exact fin|apply af)
   refine aly ?_;obtain⟨M,hM⟩:∃M:Nat->List Nat,M=λk=>(F k).getD []:=⟨_,rfl⟩;have FM:∀k,(F k).isSome=true->F k=some (M k):=λk h=>by
    rw[hM];simp only
    cases hk:F k with
    |none=>rw[hk]at h;cases h
    |some x=>rfl
   have M0:M 0=m++[p]:=by rw[hM];simp only[F0];rfl
   clear hM;refine alx func267 (pc:=wK 294) (gf:=304) (cs:=[.ro [i64 W,i64 R], .ro [i64 (p:Nat)], .ro [.bool cor]]) (cm:=[.ro [i64 W,i64 R], .ro [i64 (p:Nat)], .ro [.bool cor]]) (xs:=L.map yE) (by try(refine aj ?_;try exact trivial)) (by try(refine aj ?_;try exact trivial)) it (λx hx=>by obtain⟨y,_,rfl⟩:=List.mem_map.1 hx;rfl) aO
    (cS [(0,i64 (p:Nat)),(1, .box 0 0),(2, .box 4 0),(3, .box 2 0),(4, .box 1 0),(5, .box 5 0)]) (λk=>zH W R cor sf A B (M k)) (λ_=>[]) 6 (λk=>(F k).isSome=true) (by rw[F0];rfl)
    (by rw[M0];exact Hg rfl (by try refine aj ?_;try simp) ⟨_,rfl⟩ ⟨_,rfl⟩) (uZ rfl) (λ_ _=>rfl) (λk _=>⟨λ_=> .undef,qP _ (Wv _ _ _ _ _ _ _)⟩) (by rw[hβ];exact aY _) ?_ ?_
   ·intro k x hx aW w1 S1 M1 l o1 b1 gz;rw[List.getElem?_map,Option.map_eq_some_iff]at hx;obtain⟨q,hq,rfl⟩:=hx;have kv:=(aQ.1 hq).1;have hqL:L[k]=q:=(aQ.1 hq).2;have DW:=hL q (List.mem_of_getElem? hq);have MO:=FM k aW;have om:=Fs k kv;rw[MO,hqL]at om;simp only[si,Cf]at om;obtain⟨uk,hlk⟩:=XM k _ MO;have c3:=rQ q DW;have hFn:=Fn k kv;have EH:=FM (k + 1);clear Fs FL XM Fn FM F0 it MO;generalize M k=mk at *;show av _ _ _ ⟨33,nN [20] _ _,_,_⟩;simp only[nN];by_cases aM:st q=true
    ·rw[aM]at c3;by_cases DX:q∈mk
     ·rw[if_neg (by simp[DX])]at om;have h1:=EH (by rw[om];rfl);rw[om]at h1 EH;have h2:M (k + 1)=mk:=(iA h1).symm;have e1:=aed DX;refine sX (@e1) ?_;repeat'(first|refine bh ?_|((first|refine bj λK hK=> ?_|refine bg ?_|show bb _ _ _ _ _|refine bo (c3) ?_);(refine sX (@e1) ?_))|(exact G_ _)|(intro hg;try exact ai)|exact fin|apply af)
      ·rw[om];rfl
      ·rw[h2];exact⟨rfl,λ_=> .inl rfl,⟨_,rfl⟩,⟨[],rfl⟩⟩
     ·rw[if_pos ⟨aM,DX⟩]at om;have e1:=R9 DX;have i1:=ih q mk DW uk DX ae;refine sX (@e1) ?_;repeat'(first|(show av _ (.region 6 _ _) _ _;refine Xb 2 rfl (λK1 aA=> ?_);(refine sX (@e1) ?_))|refine bh ?_|((first|refine bj λK hK=> ?_|refine bg ?_|show bb _ _ _ _ _|refine bo (c3) ?_);(refine sX (@e1) ?_))|(exact G_ _)|(intro hg;try exact ai)|exact fin|apply af)
      refine aA _ (WH i1 (bC rfl) rfl rfl rfl rfl ?_ ?_)
      ·clear aA K1;rintro d cH fF ⟨m',nc,rfl,rfl,rfl⟩;rw[nc]at om;have h1:=EH (by rw[om];rfl);rw[om]at h1;have h2:M (k + 1)=m':=(iA h1).symm;refine aj ?_;repeat'(first|refine aq ?_|refine au λK hK=> ?_|(intro hg;try exact ai)|exact fin|apply af)
       ·rw[om];rfl
       ·rw[h2];exact⟨rfl,λ_=> .inl rfl,⟨_,rfl⟩,⟨[],rfl⟩⟩
      ·clear aA K1;rintro ch cH fF ⟨hn,hc,⟨m',rfl⟩,rfl⟩;have h1:=hFn (om.trans hn);simp only[bH,cj,Qx];exact⟨hc,zH W R cor sf A B m',[],rfl,⟨λ_=> .undef,qP _ (Wv _ _ _ _ _ _ _)⟩,⟨rfl,λ_=> .inl rfl,⟨[],rfl⟩,⟨[],rfl⟩⟩,λch zi=>⟨.inr ⟨ch,rfl⟩,h1,zi,⟨m',rfl⟩,rfl⟩⟩
    ·rw[if_neg (λh=>aM h.1)]at om;have h1:=EH (by rw[om];rfl);rw[om]at h1 EH;have h2:M (k + 1)=mk:=(iA h1).symm;rw[Bool.not_eq_true]at aM;rw[aM]at c3;refine aj ?_;repeat'(first|refine aq ?_|refine au λK hK=> ?_|refine cA (c3) ?_|(intro hg;try exact ai)|exact fin|apply af)
     ·rw[om];rfl
     ·rw[h2];exact⟨rfl,λ_=> .inl rfl,⟨_,rfl⟩,⟨[],rfl⟩⟩
   ·intro aW;rw[show(L.map yE).length=L.length by simp]at aW⊢;exact⟨.inl rfl,M L.length,FM _ aW,rfl,rfl,rfl⟩
end Go.Proofs.YtafmfhkplgapjaaGreatDoor
namespace Go.Proofs.YtafmfhkplgapjaaGreatDoor
set_option maxRecDepth 100000
set_option maxHeartbeats 4000000
open Go.Ab Go.RowKit Go
attribute[local irreducible] av dL dY ak aH wk JF IA ez aP yj fB
theorem R8 (n:Nat):nx n []:=⟨by simp,by simp⟩
theorem acB (W R:Nat)(cor:Bool)(sf:Nat)(A B:List D)(st:Nat->Bool)(hw:1<=W/\W<=6)(hr:1<=R/\R<=5)(rQ:∀q,q < W * R->ak aa sf [i64 (q:Nat), .ro A, .ro B] (.bool (st q)))(p:Nat)(hp:p < W * R):
  JF aa 231 [.agg [i64 W,i64 R],i64 (p:Nat), .ag sf [.ro A, .ro B], .bool cor] (wK 294) ((ju (ov W R) (mf W R cor) st (W * R + 1) p []).map λ_=> .aF []):=by
 have i1:=aaU W R cor sf A B st hw hr rQ (W * R + 1) p [] hp (R8 _) aO aO;refine akB func231 ntmps231 results231 call231 rfl aO λW0 S0 M0=> ?_;repeat'(first|(show av _ (.region 4 _ _) _ _;refine Xb 2 rfl (λK1 aA=> ?_);refine aj ?_)|refine aq ?_|refine au λK hK=> ?_|(intro hg;try exact ai)|exact fin|apply af)
 refine aA _ (WH i1 (bC rfl) rfl rfl rfl rfl ?_ ?_)
 ·clear aA K1;rintro d cH fF ⟨m',nc,rfl,rfl,rfl⟩;refine aj ?_;exact⟨_,by rw[nc];rfl,rfl⟩
 ·clear aA K1;rintro ch cH fF ⟨hn,hc,_,_⟩;exact⟨by rw[hn];rfl,hc⟩
theorem QH (tmps:Array Value)(w:World):(results Fj tmps).run aa w= .ok (.tuple #[]) w:=by
 rw[GL,show Fj.results=#[]from rfl];simp
theorem ajk (args:Array Value)(w:World)(hn:args.size<=1):CallsDIn cE 0 aa 230 args .returning w (λe u' w'=>(∃v,e= .returned v)/\u'= .returning/\w'=w):=by
 refine callsDIn_of_wpSIn func230 rfl trivial λc0 cs hu=> ?_;refine wpSIn_seq (wpSIn_region (Kz (λ_=>trivial) ?_));have gy:recoverD (c0::cs)=none:=by simp[recoverD,hu]
 rw[gy];show Code.wpSIn _ _ _ _ _ _ _ _;refine wpSIn_of_wpIn rfl ?_;have py:Fj.ntmps=10:=rfl;generalize ha:(lK {tmps:=args++gW (Fj.ntmps - args.size) undef,defers:=[]} (some 4) .nilIface:Act)=a;have aR:a.tmps.size=10:=by rw[<-ha];simp[lK,py];omega
 have h7:a.eval (.tmp 4)= .nilIface:=by rw[<-ha];simp[lK,CA,py];omega
 have hd:a.defers=[]:=by rw[<-ha];rfl
 refine wpIn_block (wpIn_seq (wpIn_region_lit (wS rfl ⟨λ_ _=>trivial, ?_⟩)));rw[rr _ _ _ (by intro cl h;cases h),eq_nil h7,Fp];show yf _ _ _ _ _ _ _;have h9:(a.put (some 6) (.bool true)).eval (.tmp 6)= .bool true:=by simp[lK,CA,aR]
 refine wpIn_cond_split h9 (λ_=> ?_) (λh=>by cases h);refine wpIn_region_lit (wS rfl ⟨λ_ _=>trivial, ?_⟩);have h4:(execOp (a.put (some 6) (.bool true)).eval ⟨some 1, .assign (.tmp 4),20, "chart.go:272",#[],none⟩).run aa w= .ok (.value ((a.put (some 6) (.bool true)).eval (.tmp 4))) w:=by simp[execOp]
 rw[rr _ _ _ (by intro cl h;cases h),h4,Fp];unfold wpListIn;simp only[Exit.inBlock,bodyPostS];refine⟨hd,c0.mode,rfl, .tuple #[],QH _ _,⟨_,rfl⟩,hu,trivial⟩
theorem ahX {a:Act}{w:World}{x:Operand}{t:TypeId}{v:Value}(ha:a.eval x= .iface t v){dst:Option Tmp}{ty:TypeId}{pos:String}{aft:Array Edge}:(execOp a.eval ⟨dst, .binOp .eql 20 x (.const .nilIface) 20,ty,pos,aft,none⟩).run aa w= .ok (.value (.bool false)) w:=by
 have h1:a.eval (.const Value.nilIface)= .nilIface:=rfl;simp[execOp,ha,h1,eqGuard,run_eql_held_nil (P:=aa) w 20 t v S_]
theorem abT {P:Program}{t:TypeId}(h:cI P t=some true)(x:Value)(u:TypeId)(w:World):(Instr.typeAssert (.iface t x) u t true).run P w= .ok (.tuple #[x, .bool true]) w:=by
 unfold cI at h;split at h<;>first|(cases h;done)|(rename_i hu;simp[Instr.typeAssert,run_underlying hu])
theorem abI {l1 l2:List Deferred}{c:Ctx}{s:St}{a:Act}{w:World}{x:Operand}{b:Bool}(h:RX l1 l2 c s a w)(hs:s.ev x= .bool b):a.eval x= .bool b:=by
 obtain⟨_,g,hg⟩:=h;have hv:=hg.ev x;rw[hs]at hv;exact hv.asBool
theorem ajl (W0:World)(S0:Addr->Prop)(M0:MM)(cu:Nat->Prop)(XV:List Nat)(st:St)(a:Act)(W:World)(g:Gh)(ch:List PanicEntry)(zi:wK 294 ch)(p1:Value)(X:List D)
  (hg:RG ⟨aa,W0,S0,M0,none,cu,XV⟩ st a W g)(fQ:st.bx=[.mu X, .mu [.bool false]])(ml:st.rw=[])(h1:Rel W g p1 (.box 1 0)):
  CallsDIn cE 0 aa 230 #[p1] (.panicking ch) W (λe u' w'=>(∃v,e= .returned v)/\(∃Wi,u'= .panicking Wi/\settle u'= .returning)/\
   ∃s2 a2 g2 x,s2.bx=[.mu X, .mu [.bool false], .mu [i64 x]]/\s2.rw=[]/\RG ⟨aa,W,g.S,g.M,none,λb=>W.heap.size<=b\/(cu b/\dp W b),g.β⟩ s2 a2 w' g2):=by
 obtain⟨x,rfl⟩:=zi;refine callsDIn_of_wpSIn func230 rfl trivial λc0 cs hu=> ?_;refine wpSIn_seq (wpSIn_region (Kz (λ_=>trivial) ?_));have gy:recoverD (c0::cs)=some (.iface 294 (.agg #[.int .i64 x]),{c0 with mode:= .panicking [{v:= .iface 294 (.agg #[.int .i64 x]),recovered:=true}]}::cs):=by simp[recoverD,hu]
 rw[gy];show Code.wpSIn _ _ _ _ _ _ _ _;refine wpSIn_of_wpIn rfl ?_;have py:Fj.ntmps=10:=rfl;generalize ha:(lK {tmps:=#[p1]++gW (Fj.ntmps - #[p1].size) undef,defers:=[]} (some 4) (.iface 294 (.agg #[.int .i64 x])):Act)=a0;have aR:a0.tmps.size=10:=by rw[<-ha];simp[lK,py]
 have h5:a0.eval (.tmp 4)= .iface 294 (.agg #[.int .i64 x]):=by rw[<-ha];simp[lK,CA,py]
 have hd:a0.defers=[]:=by rw[<-ha];rfl
 have hp:a0.tmps.getD 0 undef=p1:=by rw[<-ha];simp[lK,py]
 refine wpIn_block (wpIn_seq (wpIn_region_lit (wS rfl ⟨λ_ _=>trivial, ?_⟩)));rw[rr _ _ _ (by intro cl h;cases h),ahX h5,Fp];show yf _ _ _ _ _ _ _;have h7:(a0.put (some 6) (.bool false)).eval (.tmp 6)= .bool false:=by simp[lK,CA,aR]
 refine wpIn_cond_split h7 (λh=>by cases h) (λ_=> ?_);refine wpIn_seq (wpIn_region_lit (wS rfl ⟨λ_ _=>trivial, ?_⟩));have h5':(a0.put (some 6) (.bool false)).eval (.tmp 4)= .iface 294 (.agg #[.int .i64 x]):=by
  have:=h5;simp[lK,CA,aR]at this⊢;exact this
 have nk:(execOp (a0.put (some 6) (.bool false)).eval ⟨some 7, .typeAssert (.tmp 4) 20 294 true,0, "chart.go:272",#[],none⟩).run aa W= .ok (.value (.tuple #[.agg #[.int .i64 x], .bool true])) W:=by
  simp[execOp,h5',abT XX]
 rw[rr _ _ _ (by intro cl h;cases h),nk,Fp];generalize Bt:(a0.put (some 6) (.bool false)).put (some 7) (.tuple #[.agg #[.int .i64 x], .bool true])=a1;have yV:a1.tmps.size=10:=by rw[<-Bt];simp[lK,aR]
 have ng:a1.defers=[]:=by rw[<-Bt];exact hd
 have aK:=hg.zz (a':=a1) (n:=10) (sl:=λk=>match k with|0=> .box 1 0|7=> .aF [.agg [i64 x], .bool true]|_=> .undef) ng yV (λk=>by
  have Bf:∀k,k≠6->k≠7->a1.tmps.getD k undef=a0.tmps.getD k undef:=λk h9 nk=>by
   rw[<-Bt];simp[lK,Array.getElem?_setIfInBounds,Ne.symm h9,Ne.symm nk]
  split
  ·rw[Bf 0 aE aE,hp];exact h1
  ·have:a1.tmps.getD 7 undef= .tuple #[.agg #[.int .i64 x], .bool true]:=by rw[<-Bt];simp[lK,aR]
   rw[this];refine .aF _ _ _ rfl (λq d hd=> ?_)
   match q,hd with
   |0,hd=>cases hd;exact .agg _ _ _ rfl (λq hq=>by
     match q,hq with
     |0,_=>rfl
     |q + 1,hq=>simp at hq) (λq d hd=>by
     match q,hd with
     |0,hd=>cases hd;exact .int _ _ _)
   |1,hd=>cases hd;exact .bool _ _
  ·exact .undef _ _)
 rw[fQ,ml]at aK;have fO:RX [] [] ⟨aa,W,g.S,g.M,none,λb=>W.heap.size<=b\/(cu b/\dp W b),g.β⟩ _ a1 W:=⟨ng,g,by
  have:({a1 with defers:=[]}:Act)=a1:=by rw[<-ng]
  rw[this];exact aK⟩
 generalize ed:(λk=>match k with|0=>D.box 1 0|7=> .aF [.agg [i64 x], .bool true]|_=> .undef:Nat->D)=dq at fO;have s0:dq 0= .box 1 0:=congrFun ed.symm 0;have s7:dq 7= .aF [.agg [i64 x], .bool true]:=congrFun ed.symm 7;refine Aw (rest:=[]) (K:=λs'=>s'=_) (λs2' a2 w2 cV e2=> ?_) [_,_] _ a1 W rfl fO (by
  refine sX (af @Oj (af @s0 (@s7))) ?_;exact rfl)
 subst e2;unfold wpListIn;show yf _ _ _ _ _ _ _;have H_:=abI cV (x:= .tmp 8) (b:=true) rfl;refine wpIn_cond_split H_ (λ_=> ?_) (λh=>by cases h);refine wpIn_seq (wpIn_region_lit ?_);refine Aw (rest:=[]) (K:=λs'=>s'=_) (λs3' a3 w3 jV e3=> ?_) [_,_] _ a2 w2 rfl cV (by
  refine sX (af @Oj (af @s0 (@s7))) ?_;exact rfl)
 subst e3;unfold wpListIn;show yf _ _ _ _ _ _ _;refine wpIn_region_lit ?_;refine Aw (rest:=[]) (K:=λs'=>s'=_) (λs4' a4 w4 lP e4=> ?_) [_] _ a3 w3 rfl jV (by
  refine sX (af @Oj (af @s0 (@s7))) ?_;exact rfl)
 subst e4;unfold wpListIn;obtain⟨HV,g4,uo⟩:=lP;have e4:({a4 with defers:=[]}:Act)=a4:=by rw[<-HV]
 rw[e4]at uo;simp only[Exit.inBlock,bodyPostS];exact⟨HV, .panicking [{v:= .iface 294 (.agg #[.int .i64 x]),recovered:=true}],rfl, .tuple #[],QH _ _,⟨_,rfl⟩,⟨_,rfl,rfl⟩,_,a4,g4,x,rfl,rfl,uo⟩
def rC (W R:Nat)(p:Nat)(sf:Nat)(A B:List D)(cor:Bool):St:=cR 19 [(1,i64 (p:Nat)),(2, .ag sf [.ro A, .ro B]),(3, .bool cor),(4, .box 0 0),(8, .box 1 0)] [.mu [i64 W,i64 R], .mu [.bool false]] []
theorem QR (W R:Nat)(p:Nat)(sf:Nat)(A B:List D)(cor:Bool):(rC W R p sf A B cor).named:=ik rfl rfl
noncomputable def IG:Code:=match xS.body with|some (.seq _ (.seq _ r))=>r|_=> .skip
def EM (W R:Nat)(v:Bool)(e:Exit)(s8:St):Prop:=
 s8.rw=[]/\s8.sl 8= .box 1 0/\(∀m,Names 2 0 (s8.sl m))/\((e= .ret/\s8.bx=[.mu [i64 W,i64 R], .mu [.bool v]])\/(v=false/\s8.bx=[.mu [i64 W,i64 R], .mu [.bool false]]/\∃ch,e= .panic ch/\wK 294 ch))
theorem aj4 (W R p:Nat)(sf:Nat)(A B:List D)(cor v:Bool)(hB:∀(l1 l2:List Deferred) (w0:World) (S0:Addr->Prop) (M0:MM) (own:Nat->Prop) (β:List Nat),β.length=2->
  fB l1 l2 ⟨aa,w0,S0,M0,none,own,β⟩ IG (EM W R v) (rC W R p sf A B cor)):ak aa 177 [.agg [i64 W,i64 R],i64 (p:Nat), .ag sf [.ro A, .ro B], .bool cor] (.bool v):=by
 have Mt:=call177;unfold ak;refine⟨Mt,λS M w args hT hS hM hl bw=> ?_⟩;refine(callsIn_wide (n:=0)).1 (callsIn_of_wp_marks func177 rfl trivial ?_);have hr:=Xw (P:=aa) (n:=19) hT hS hM hl aO bw;have py:xS.ntmps=19:=rfl;rw[py];generalize({tmps:=args.toArray++gW (19 - args.toArray.size) undef,defers:=[]}:Act)=a0 at hr⊢;refine wpIn_seq (W7 (c:=⟨aa,w,S,M,none,λb=>w.heap.size<=b,[]⟩) (Q:=λe s=>e= .normal/\Le s (rC W R p sf A B cor)) hr (kI λK hK=> ?_) ?_)
 ·refine aj ?_;exact hK _ ⟨rfl,br (l:=[(1,i64 (p:Nat)),(2, .ag sf [.ro A, .ro B]),(3, .bool cor),(4, .box 0 0),(8, .box 1 0)]) rfl (by try refine aj ?_;try simp) ⟨_,rfl⟩ ⟨_,rfl⟩⟩
 rintro e a2 w2 s1 fO ⟨rfl,D_⟩
 replace cV:=fO.le D_ (QR _ _ _ _ _ _ _) (bD _)
 clear D_ s1 hr fO;show yf _ _ _ _ _ _ _;obtain⟨l,eN⟩:∃l,a2.defers=l:=⟨_,rfl⟩;have LR:RX l l ⟨aa,w,S,M,none,λb=>w.heap.size<=b,[]⟩ (rC W R p sf A B cor) a2 w2:=⟨eN,by
  have:({a2 with defers:=l}:Act)=a2:=by rw[<-eN]
  rw[this];exact cV⟩
 clear cV;refine wpIn_seq (wpIn_region_lit ?_);refine Aw (rest:=[_]) (K:=λs'=>s'=_) (λs3 a3 w3 LQ e3=> ?_) [_] _ a2 w2 rfl LR (by
  simp only[rC,cR,e_];refine aj ?_;exact rfl)
 subst e3;refine wS rfl ⟨λ_ _=>trivial, ?_⟩;obtain⟨xr,g3,de⟩:=LQ;have h9:=de.ev (.tmp 9);change Rel w3 g3 (a3.eval (.tmp 9)) (.ag 230 [.box 1 0])at h9
 generalize LX:a3.eval (.tmp 9)=v9 at h9;cases h9 with
 |ag _ _ vs _ jn uh=>
 obtain⟨vs⟩:=vs;obtain⟨p1,rfl⟩:∃p1,vs=[p1]:=by
  match vs,jn with
  |[a],_=>exact⟨a,rfl⟩
 have pw:Rel w3 g3 p1 (.box 1 0):=uh 0 _ rfl;clear uh jn;obtain⟨dd,pB⟩:∃dd:Deferred,dd={target:= .fn (.func 230) #[p1],args:=#[]}:=⟨_,rfl⟩;have L5:(Oper.semAt cE.round a3.eval ⟨none, .defer ⟨.value (.tmp 9),#[],#[]⟩,0, "chart.go:271",#[{on:=0,ground:=Go.Ground.data}],none⟩).run aa w3= .ok (.defer dd) w3:=by
  rw[show cE.round=none from rfl,Oper.semAt_none,pB];simp[execOp,resolve,LX,Deferred.ofValue]
 rw[L5,Oper.uponIn_defer];unfold wpListIn;show yf _ _ _ _ _ _ _;have qb:g3.β.length=2:=de.lβ;have lu:=de.zz (a':={a3 with defers:=[]}) rfl de.sz de.sl;have DO:RX (dd::l) [] ⟨aa,w3,g3.S,g3.M,none,λb=>w3.heap.size<=b\/(w.heap.size<=b/\dp w3 b),g3.β⟩ _ {a3 with defers:=dd::a3.defers} w3:=⟨by rw[xr],g3,lu⟩;generalize({a3 with defers:=dd::a3.defers}:Act)=a4 at DO;have hinv:∀w:World,(invoke dd.target dd.args).run aa w= .ok (.enter 230 #[p1]) w:=λw=>by
  rw[pB];simp[invoke,call230]
 have L_:∀m,Names 2 0 (put (put (put (put (put (put dJ 8 (D.box 1 0)) 4 (D.box 0 0)) 3 (D.bool cor)) 2 (D.ag sf [.ro A, .ro B])) 1 (i64 (p:Nat))) 9 (D.ag 230 [D.box 1 0]) m):=
  uZ (l:=[(9,D.ag 230 [D.box 1 0]),(1,i64 (p:Nat)),(2, .ag sf [.ro A, .ro B]),(3, .bool cor),(4, .box 0 0),(8, .box 1 0)]) rfl
 have fin:∀(s8:St) (a8:Act) (w8:World) (g8:Gh),RG ⟨aa,w3,g3.S,g3.M,none,λb=>w3.heap.size<=b\/(w.heap.size<=b/\dp w3 b),g3.β⟩ s8 {a8 with defers:=[]} w8 g8->
   (mQ aa s8 xS.results.toList λds=>ds=[.bool v])->
   LeavesInM cE 0 aa xS a8.tmps (λe' w'=>∃v' S' M',e'= .returned v'/\Grow w S M w' S' M'/\Go.Ab.Good w' S'/\Rel w' ⟨S',[],[],M'⟩ v' (.bool v)) l .returning w8:=λs8 a8 w8 g8 h8 iY=>by
  have hb:=PN (a':={a8 with defers:=l}) (de.yL h8 L_) h8.sz h8.sl rfl;exact AL (c:=⟨aa,w,S,M,none,λb=>w.heap.size<=b,[]⟩) (fn:=xS) (ds:=[.bool v]) l {a8 with defers:=l} w8 hb rfl iY (λv' w9 h9 hv=>⟨v',g8.S,g8.M,rfl,
   ⟨⟨h9.below.os,h9.below.tape,h9.below.output,h9.below.size,λk hk hn=>h9.below.block k hk (λh=>h.elim (λh=>absurd (show w.heap.size<=k from h) (Nat.not_le_of_lt hk)) hn)⟩,h9.S0,h9.en,h9.df.m0,h9.df.gw,h9.df.bO⟩,h9.ba,hv⟩)
 have LP:=DO.le (s':=rC W R p sf A B cor) (br (l:=[(1,i64 (p:Nat)),(2, .ag sf [.ro A, .ro B]),(3, .bool cor),(4, .box 0 0),(8, .box 1 0)]) rfl (by simp[put]) ⟨_,rfl⟩ ⟨_,rfl⟩) (QR _ _ _ _ _ _ _) (by show g3.β.length<=2;omega);refine WZ LP (hB _ _ _ _ _ _ _ qb) ?_;have iY:∀(s8:St) (b:Bool) (t:List Bx),s8.sl 8= .box 1 0->s8.bx=[.mu [i64 W,i64 R], .mu [.bool b]]++t->b=v->mQ aa s8 xS.results.toList λds=>ds=[.bool v]:=λs8 b t h8 hb hbv=>by
  subst hbv;show mQ aa s8 [.cell 8 4] _;simp only[mQ,tP,h8];rw[hb]
  (refine aj ?_;try exact trivial)
 rintro e a8 w8 s8 ⟨HU,g8,vv⟩ ⟨afZ,Tv,uj,⟨rfl,HZ⟩|⟨rfl,HZ,ch,rfl,iG⟩⟩
 ·show LeavesInM _ _ _ _ _ _ _ _ _;rw[HU];refine⟨by simp, .inr ⟨λh=>(by cases h), .func 230,#[p1],230,#[p1],by rw[pB],hinv _,λ_ _=>trivial, ?_⟩⟩;refine(ajk #[p1] w8 aO).mono ?_;rintro e u' w9 ⟨⟨v',rfl⟩,rfl,rfl⟩;exact fin s8 a8 _ g8 vv (iY s8 v [] Tv (by rw[HZ];rfl) rfl)
 ·show LeavesInM _ _ _ _ _ _ _ _ _;rw[HU];refine⟨by simp, .inr ⟨λh=>(by cases h), .func 230,#[p1],230,#[p1],by rw[pB],hinv _,λ_ _=>trivial, ?_⟩⟩;have kp:fL w3 g3 w8 g8:=⟨λy hy=>vv.df.jA y hy,vv.S0,vv.df.gD,λr b hb=>by
   have:=(aQ.1 hb).1;rw[de.lρ]at this;simp at this,vv.df.m0⟩
  refine(ajl w3 g3.S g3.M _ g3.β _ _ w8 g8 ch iG p1 [i64 W,i64 R] vv HZ afZ (pw.aZ kp)).mono ?_;rintro e u' w9 ⟨⟨v',rfl⟩,⟨Wi,rfl,hse⟩,s9,a9,g9,x,hb9,hw9,hg9⟩;have hb:=vv.yL hg9 (by rw[HZ];exact uj);show LeavesInM _ _ _ _ _ _ _ (settle _) _;rw[hse];exact fin _ a8 _ g9 hb (iY _ false [.mu [i64 x]] Tv (by rw[hb9];rfl) rfl)
attribute[local irreducible] EM
def lC (W R:Nat)(cor:Bool)(st:Nat->Bool)(p:Nat):Bool:=st p&&(ju (ov W R) (mf W R cor) st (W * R + 1) p []).isSome
theorem aj3 (W R:Nat)(cor:Bool)(sf:Nat)(A B:List D)(st:Nat->Bool)(hw:1<=W/\W<=6)(hr:1<=R/\R<=5)(rQ:∀q,q < W * R->ak aa sf [i64 (q:Nat), .ro A, .ro B] (.bool (st q)))(p:Nat)(hp:p < W * R):
  ak aa 177 [.agg [i64 W,i64 R],i64 (p:Nat), .ag sf [.ro A, .ro B], .bool cor] (.bool (lC W R cor st p)):=by
 have c1:=rQ p hp;have c2:=acB W R cor sf A B st hw hr rQ p hp;refine aj4 W R p sf A B cor _ λl1 l2 o8 S0 M0 own β hβ=> ?_;unfold lC;cases aM:st p with
 |false=>
  rw[aM]at c1;simp only[IG,xS,rC,cR,e_,O2];repeat'(first
    |refine oE ?_
    |refine oJ ?_
    |refine oD ?_
    |refine oI ?_
    |refine oF ?_
    |(refine bo (c1) ?_;try(refine aj ?_;try exact trivial))
    |((first|refine oG ax λK hK=> ?_|refine oH ?_);(refine aj ?_;try exact trivial))
    |((first|(refine hK _ ?_;clear hK K)|show bH _ _ _ _|show cj _ _ _ _);simp only[bH,cj,if_true,Nat.reduceEqDiff,reduceIte])
    |(intro hg;first|(exfalso;omega)|(exfalso;contradiction)|skip)
    |apply af
    |(with_reducible rfl)
    |(clear hK;omega)
    |omega)
  unfold EM;exact⟨rfl,rfl,uZ (l:=[(13, .bool true),(12, .bool false),(11,i64 (p:Nat)),(10, .ag sf [.ro A, .ro B]),(1,i64 (p:Nat)),(2, .ag sf [.ro A, .ro B]),(3, .bool cor),(4, .box 0 0),(8, .box 1 0)]) rfl, .inl ⟨rfl,rfl⟩⟩
 |true=>
  rw[aM]at c1;simp only[oU];have dD:∀m,Names 2 0 (cS [(17, .bool cor),(16, .ag sf [.ro A, .ro B]),(15,i64 (p:Nat)),(14, .agg [i64 W,i64 R]),(13, .bool false),(12, .bool true),(11,i64 (p:Nat)),(10, .ag sf [.ro A, .ro B]),(1,i64 (p:Nat)),(2, .ag sf [.ro A, .ro B]),(3, .bool cor),(4, .box 0 0),(8, .box 1 0)] m):=uZ rfl;cases hd:ju (ov W R) (mf W R cor) st (W * R + 1) p []with
  |none=>
   rw[hd]at c2;simp only[IG,xS,rC,cR,e_,Option.isSome_none];repeat'(first
     |(show fB _ _ _ (.region 4 _ _) _ _;refine W5 4 rfl c2 ax ax (λK1 aA=> ?_);(refine aj ?_;try exact trivial))
     |refine oE ?_
     |refine oJ ?_
     |refine oD ?_
     |refine oI ?_
     |refine oF ?_
     |(refine bo (c1) ?_;try(refine aj ?_;try exact trivial))
     |((first|refine oG ax λK hK=> ?_|refine oH ?_);(refine aj ?_;try exact trivial))
     |((first|(refine hK _ ?_;clear hK K)|show bH _ _ _ _|show cj _ _ _ _);simp only[bH,cj,if_true,Nat.reduceEqDiff,reduceIte])
     |(intro hg;first|(exfalso;omega)|(exfalso;contradiction)|skip)
     |apply af
     |(with_reducible rfl)
     |(clear hK;omega)
     |omega)
   refine aA _ ⟨rfl,by show(18:Nat) < 19;decide,λd hd=>(by cases hd),λ_ ch hc=> ?_⟩;simp only[bH,cj];unfold EM;exact⟨rfl,rfl,dD, .inr ⟨rfl,rfl,ch,rfl,hc⟩⟩
  |some m=>
   rw[hd]at c2;simp only[IG,xS,rC,cR,e_,Option.isSome_some];repeat'(first
     |(show fB _ _ _ (.region 4 _ _) _ _;refine W5 4 rfl c2 ax ax (λK1 aA=> ?_);(refine aj ?_;try exact trivial))
     |refine oE ?_
     |refine oJ ?_
     |refine oD ?_
     |refine oI ?_
     |refine oF ?_
     |(refine bo (c1) ?_;try(refine aj ?_;try exact trivial))
     |((first|refine oG ax λK hK=> ?_|refine oH ?_);(refine aj ?_;try exact trivial))
     |((first|(refine hK _ ?_;clear hK K)|show bH _ _ _ _|show cj _ _ _ _);simp only[bH,cj,if_true,Nat.reduceEqDiff,reduceIte])
     |(intro hg;first|(exfalso;omega)|(exfalso;contradiction)|skip)
     |apply af
     |(with_reducible rfl)
     |(clear hK;omega)
     |omega)
   refine aA _ ⟨rfl,by show(18:Nat) < 19;decide,λd hd=> ?_,λhn=>(by cases hn)⟩;cases hd;clear aA K1;refine aj ?_;repeat'(first
     |refine oE ?_
     |refine oJ ?_
     |refine oD ?_
     |refine oI ?_
     |refine oF ?_
     |((first|refine oG ax λK hK=> ?_|refine oH ?_);(refine aj ?_;try exact trivial))
     |((first|(refine hK _ ?_;clear hK K)|show bH _ _ _ _|show cj _ _ _ _);simp only[bH,cj,if_true,Nat.reduceEqDiff,reduceIte])
     |(intro hg;first|(exfalso;omega)|(exfalso;contradiction)|skip)
     |apply af
     |(with_reducible rfl)
     |(clear hK;omega)
     |omega)
   unfold EM;exact⟨rfl,rfl,uZ (l:=[(18, .aF []),(17, .bool cor),(16, .ag sf [.ro A, .ro B]),(15,i64 (p:Nat)),(14, .agg [i64 W,i64 R]),(13, .bool false),(12, .bool true),(11,i64 (p:Nat)),(10, .ag sf [.ro A, .ro B]),(1,i64 (p:Nat)),(2, .ag sf [.ro A, .ro B]),(3, .bool cor),(4, .box 0 0),(8, .box 1 0)]) rfl, .inl ⟨rfl,rfl⟩⟩
end Go.Proofs.YtafmfhkplgapjaaGreatDoor
namespace Go.Proofs.YtafmfhkplgapjaaGreatDoor
set_option maxRecDepth 100000
set_option maxHeartbeats 4000000
open Go.Ab
attribute[local irreducible] av dL dY ak aH cY IA ez aP fM
abbrev wD (pt:Nat)(lv:Int)(hi:Bool):List D:=[i64 (pt:Nat),i64 lv, .bool hi]
def iN (V:List Int)(lv:Int)(hi:Bool)(q:Nat):Bool:=decide (lv<=nth V q) == hi
theorem ajj (V:List Int)(pt:Nat)(lv:Int)(hi:Bool)(q:Nat)(hq:q < V.length)(hV:V.length<=1000):ak aa 178 [i64 (q:Nat), .ro [ints V], .ro (wD pt lv hi)] (.bool (iN V lv hi q)):=by
 unfold iN;refine cT func178 ntmps178 results178 call178 λw0 S0 M0=> ?_;repeat'(first|refine aq ?_|refine au λK hK=> ?_|((show aa.underlying _=_;kernel_rfl))|(intro hg;try exact ai)|exact fin|apply af)
theorem NQ (W R:Nat)(sl:Int)(S:List aS)(hw:1<=W/\W<=6)(hr:1<=R/\R<=5)(pt:Nat)(lv:Int)(hi:Bool)(V:List Int)(hV:V.length=W * R)(hp:pt < W * R):
  ak aa 124 [.agg (fy W R sl S), .agg (wD pt lv hi),ints V] (.bool (lC W R (!hi) (iN V lv hi) pt)):=by
 have Ew:=tq hw hr;have c1:=aj3 W R (!hi) 178 [ints V] (wD pt lv hi) (iN V lv hi) hw hr (λq hq=>ajj V pt lv hi q ae ae) pt hp;refine cT func124 ntmps124 results124 call124 λw0 S0 M0=> ?_;repeat'(first|(refine j6 2 _ _ rfl rfl ?_;simp only[aU,Nat.reduceAdd])|(refine j6 1 _ _ rfl rfl ?_;simp only[aU,Nat.reduceAdd])|refine aq ?_|refine au λK hK=> ?_|refine cA (c1) ?_|(intro hg;try exact ai)|exact fin|apply af)
abbrev pZ (W sl:Int)(S:List aS)(n:Nat):List Int:=(ct n).map λ(q:Nat)=>eU W sl S q S.length
abbrev qk (W sl:Int)(S:List aS)(n:Nat):List Int:=(ct n).map λ(q:Nat)=>eW W sl S q S.length
theorem Sl (W sl:Int)(S:List aS)(n:Nat):D.list (nQ W sl S n)=ints (pZ W sl S n):=by
 simp only[nQ,pZ,ints,tA];rfl
theorem Ug (W sl:Int)(S:List aS)(n:Nat):D.list (q8 W sl S n)=ints (qk W sl S n):=by
 simp only[q8,qk,ints,tA];rfl
def As (W sl:Int)(S:List aS)(pt:Nat)(lv:Int)(hi:Bool)(q:Nat):Int:=
 if hi=true then max (eU W sl S q S.length) (lv - sl * dR W (pt:Nat) (q:Nat))else min (eW W sl S q S.length) (lv - 1 + sl * dR W (pt:Nat) (q:Nat))
def ma (W sl:Int)(S:List aS)(pt:Nat)(lv:Int)(hi:Bool)(n:Nat):List Int:=(ct n).map (As W sl S pt lv hi)
theorem abd (W sl:Int)(S:List aS)(pt:Nat)(lv:Int)(hi:Bool)(n:Nat):(ma W sl S pt lv hi (n + 1)).map (D.int .i64)=(ma W sl S pt lv hi n).map (D.int .i64)++[i64 (As W sl S pt lv hi n)]:=by
 simp only[ma,Fx,x_,ib,nz]
def zE (W sl:Int)(S:List aS)(pt:Nat)(lv:Int)(hi:Bool):Bool:=if hi=true then decide (lv<=eW W sl S (pt:Nat) S.length)else decide (eU W sl S (pt:Nat) S.length < lv)
def pa (W R:Nat)(sl:Int)(S:List aS)(pt:Nat)(lv:Int)(hi:Bool):Bool:=zE W sl S pt lv hi&&lC W R (!hi) (iN (ma W sl S pt lv hi (W * R)) lv hi) pt
theorem G3 {f:Nat->Int}{n q:Nat}(h:q < n):nth ((ct n).map f) q=f q:=by simp[nth,h]
theorem aji (W R:Nat)(sl:Int)(S:List aS)(h:dB W R sl S)(pt:Nat)(lv:Int)(hi:Bool)(hp:pt < W * R)(hl:1<=lv/\lv<=99999):
  ak aa 123 [.agg (fy W R sl S), .agg (wD pt lv hi)] (.aF [if zE W sl S pt lv hi=true then ints (ma W sl S pt lv hi (W * R))else .list [], .bool (pa W R sl S pt lv hi)]):=by
 have hn:=h.n;have hw:=h.w;have hr:=h.r;have Ew:=tq h.w h.r;have ce:=NP W R sl S h;rw[Sl,Ug]at ce;have hA:(pZ W sl S (W * R)).length=W * R:=by simp
 have hB:(qk W sl S (W * R)).length=W * R:=by simp
 have nA:∀q,q < W * R->nth (pZ W sl S (W * R)) q=eU W sl S q S.length:=λq hq=>G3 hq;have nB:∀q,q < W * R->nth (qk W sl S (W * R)) q=eW W sl S q S.length:=λq hq=>G3 hq;have hs:=abd W sl S pt lv hi;have ed:∀n,(ma W sl S pt lv hi n).length=n:=λn=>by simp[ma]
 have HB:ma W sl S pt lv hi 0=[]:=rfl;have cc:=NQ W R sl S hw hr pt lv hi (ma W sl S pt lv hi (W * R)) (ed _) hp;unfold pa;generalize pZ W sl S (W * R)=A at *;generalize qk W sl S (W * R)=B at *;generalize hN:W * R=N at *;refine cT func123 ntmps123 results123 call123 λw0 S0 M0=> ?_;repeat'(first|refine aq ?_|refine au λK hK=> ?_|refine cA (ce) ?_|(intro hg;try exact ai)|exact fin|apply af)
 refine I3 7 3 1 rfl ?_;refine dn (ι:=Nat) (λp=>[(2, .box 0 0),(3, .box 1 0),(6, .box 2 0),(7, .own 0),(15,i64 (N:Nat)),(16,i64 (p:Nat))]) (λ_=>[.mu (fy W R sl S), .mu (wD pt lv hi), .mu [ints A,ints B]]) (λp=>[⟨true,3,1,(ma W sl S pt lv hi p).map (D.int .i64)⟩])
  (λp=>p<=N) (λp=>N - p) (λ_ _=>⟨rfl,rfl⟩) 0 (bD _) (by rw[HB];exact br rfl (by try refine aj ?_;try simp[hA]) ⟨_,rfl⟩ ⟨_,rfl⟩) (λp hpN=> ?_)
 by_cases aG:p < N
 ·have hq:0<=(p:Int)/\(p:Int)<=29:=ae;have mZ:0<=(pt:Int)/\(pt:Int)<=29:=ae;have UT:1<=(W:Int)/\(W:Int)<=6:=ae;have hd:=uA (W:=W) UT mZ hq;have hm:=RV h.s.1 h.s.2 hd.1 hd.2;have c1:=BT W R (pt:Nat) (p:Nat) UT mZ hq;have bA:=AM h hq S.length (aY _);have bB:=Ef h hq S.length (aY _);have qA:=nA p aG;have kB:=nB p aG;have kU:=ed p;have mi:=hs p;have AZ:As W sl S pt lv hi p=if hi=true then max (eU W sl S p S.length) (lv - sl * dR W (pt:Nat) (p:Nat))else min (eW W sl S p S.length) (lv - 1 + sl * dR W (pt:Nat) (p:Nat)):=rfl
  rw[<-qA]at bA AZ;rw[<-kB]at bB AZ;have c2:=MZ (nth A p) (lv - sl * dR W (pt:Nat) (p:Nat));have c3:=Wg (nth B p) (lv - 1 + sl * dR W (pt:Nat) (p:Nat));generalize dR W (pt:Nat) (p:Nat)=d at *;cases hi with
  |true=>
   rw[if_pos rfl]at AZ;refine aj ?_;repeat'(first|refine aq ?_|refine au λK hK=> ?_|refine cA (c1) ?_|refine cA (c2) ?_|refine cA (c3) ?_|(intro hg;try exact ai)|exact fin|apply af)
   all_goals exact⟨p + 1,ae,ae,br rfl (by try refine aj ?_;try simp[hA]) ⟨_,rfl⟩ ⟨[],by rw[mi,AZ];rfl⟩⟩
  |false=>
   rw[if_neg aE]at AZ;refine aj ?_;repeat'(first|refine aq ?_|refine au λK hK=> ?_|refine cA (c1) ?_|refine cA (c3) ?_|(intro hg;try exact ai)|exact fin|apply af)
   all_goals exact⟨p + 1,ae,ae,br rfl (by try refine aj ?_;try simp[hA]) ⟨_,rfl⟩ ⟨[],by rw[mi,AZ];rfl⟩⟩
 ·obtain rfl:p=N:=ae;have qA:=nA pt hp;have kB:=nB pt hp;have kU:=ed p;have uu:zE W sl S pt lv hi=if hi=true then decide (lv<=nth B pt)else decide (nth A pt < lv):=by rw[qA,kB];rfl
  generalize zE W sl S pt lv hi=C at *;clear nA nB hs ed HB;generalize ma W sl S pt lv hi p=X at *;generalize lC W R (!hi) (iN X lv hi) pt=V at *;cases hi with
  |true=>
   rw[if_pos rfl]at uu;by_cases hb:lv<=nth B pt
   ·rw[decide_eq_true hb]at uu;subst uu;refine aj ?_;repeat'(first|refine aq ?_|refine au λK hK=> ?_|refine cA (cc) ?_|(intro hg;try exact ai)|exact fin|apply af)
    all_goals trace_state
   ·rw[decide_eq_false hb]at uu;subst uu;refine aj ?_;repeat'(first|refine aq ?_|refine au λK hK=> ?_|refine cA (cc) ?_|(intro hg;try exact ai)|exact fin|apply af)
    all_goals trace_state
  |false=>
   rw[if_neg aE]at uu;by_cases hb:nth A pt < lv
   ·rw[decide_eq_true hb]at uu;subst uu;refine aj ?_;repeat'(first|refine aq ?_|refine au λK hK=> ?_|refine cA (cc) ?_|(intro hg;try exact ai)|exact fin|apply af)
    all_goals trace_state
   ·rw[decide_eq_false hb]at uu;subst uu;refine aj ?_;repeat'(first|refine aq ?_|refine au λK hK=> ?_|refine cA (cc) ?_|(intro hg;try exact ai)|exact fin|apply af)
    all_goals trace_state
def wq (W R:Nat)(sl:Int)(S:List aS)(pt:Nat)(lv:Int)(hi:Bool):Int:=
 if pa W R sl S pt lv hi=true then
  (if iN (if hi=true then pZ W sl S (W * R)else qk W sl S (W * R)) lv hi pt=true/\lC W R (!hi) (iN (if hi=true then qk W sl S (W * R)else pZ W sl S (W * R)) lv hi) pt=true then 3 else 2)
 else 1
theorem VZ (W R:Nat)(sl:Int)(S:List aS)(h:dB W R sl S)(pt:Nat)(lv:Int)(hi:Bool)(hp:pt < W * R)(hl:1<=lv/\lv<=99999):
  ak aa 97 [.agg (fy W R sl S), .agg (wD pt lv hi)] (i64 (wq W R sl S pt lv hi)):=by
 have hw:=h.w;have hr:=h.r;have ce:=NP W R sl S h;rw[Sl,Ug]at ce;have hA:(pZ W sl S (W * R)).length=W * R:=by simp
 have hB:(qk W sl S (W * R)).length=W * R:=by simp
 have c1:=aji W R sl S h pt lv hi hp hl;have c2:=NQ W R sl S hw hr pt lv hi (pZ W sl S (W * R)) hA hp;have c3:=NQ W R sl S hw hr pt lv hi (qk W sl S (W * R)) hB hp;have Ew:=tq h.w h.r;unfold wq;generalize pZ W sl S (W * R)=A at *;generalize qk W sl S (W * R)=B at *;generalize zE W sl S pt lv hi=C at *;generalize ints (ma W sl S pt lv hi (W * R))=X at *;generalize pa W R sl S pt lv hi=V at *;have hAp:pt < A.length:=ae;have hBp:pt < B.length:=ae;obtain⟨Y,hY⟩:∃Y:D,Y=if C=true then X else .list []:=⟨_,rfl⟩
 rw[<-hY]at c1;cases V with
 |false=>
  rw[if_neg aE];refine cT Jh Jd Ja Jl λw0 S0 M0=> ?_;repeat'(first|refine aq ?_|refine au λK hK=> ?_|refine cA (ce) ?_|refine cA (c1) ?_|(intro hg;try exact ai)|exact fin|apply af)
 |true=>
  rw[if_pos rfl];cases hi with
  |true=>
   simp only[if_true];have hs:iN A lv true pt=(decide (lv<=nth A pt) == true):=rfl;rw[hs];clear hs;generalize lC W R (!true) (iN B lv true) pt=G at *;generalize lC W R (!true) (iN A lv true) pt=G' at *;cases G with
   |true=>
    refine cT Jh Jd Ja Jl λw0 S0 M0=> ?_;repeat'(first|refine aq ?_|refine au λK hK=> ?_|refine cA (ce) ?_|refine cA (c1) ?_|refine cA (c3) ?_|((show aa.underlying _=_;kernel_rfl))|(intro hg;try exact ai)|exact fin|apply af)
    all_goals simp_all
   |false=>
    refine cT Jh Jd Ja Jl λw0 S0 M0=> ?_;repeat'(first|refine aq ?_|refine au λK hK=> ?_|refine cA (ce) ?_|refine cA (c1) ?_|refine cA (c3) ?_|((show aa.underlying _=_;kernel_rfl))|(intro hg;try exact ai)|exact fin|apply af)
    all_goals simp_all
  |false=>
   simp only[if_false,bK];have hs:iN B lv false pt=(decide (lv<=nth B pt) == false):=rfl;rw[hs];clear hs;generalize lC W R (!false) (iN B lv false) pt=G' at *;generalize lC W R (!false) (iN A lv false) pt=G at *;cases G with
   |true=>
    refine cT Jh Jd Ja Jl λw0 S0 M0=> ?_;repeat'(first|refine aq ?_|refine au λK hK=> ?_|refine cA (ce) ?_|refine cA (c1) ?_|refine cA (c2) ?_|((show aa.underlying _=_;kernel_rfl))|(intro hg;try exact ai)|exact fin|apply af)
    all_goals simp_all
   |false=>
    refine cT Jh Jd Ja Jl λw0 S0 M0=> ?_;repeat'(first|refine aq ?_|refine au λK hK=> ?_|refine cA (ce) ?_|refine cA (c1) ?_|refine cA (c2) ?_|((show aa.underlying _=_;kernel_rfl))|(intro hg;try exact ai)|exact fin|apply af)
    all_goals simp_all
abbrev JQ:D:= .agg [i64 0,i64 0,i64 0, .val (.slice none 0 0),i64 0,i64 0]
theorem ajo (W R:Nat)(sl:Int)(S:List aS)(h:dB W R sl S)(hc:fp W sl S)(f:Nat)(A B:List D)(b:Bool)(hf:ak aa f [.agg (fy W R sl S), .ro A, .ro B] (.bool b)):ak aa 117 [.agg (cx W R sl S), .ag f [.ro A, .ro B]] (.aF [if b=true then .agg (fy W R sl S)else JQ,i64 (if b=true then 0 else 2)]):=by
 have c1:=Iz W R sl S h;have c2:=NO W R sl S;have c4:=Wn W R sl S h hc;cases b with
 |true=>
  refine cT Oz Ov Ot OC λw0 S0 M0=> ?_;repeat'(first|refine aq ?_|refine au λK hK=> ?_|refine cA (c1) ?_|refine cA (c2) ?_|refine cA (hf) ?_|refine cA (c4) ?_|(intro hg;try exact ai)|exact fin|apply af)
  all_goals rfl
 |false=>
  refine cT Oz Ov Ot OC λw0 S0 M0=> ?_;repeat'(first|refine aq ?_|refine au λK hK=> ?_|refine cA (c1) ?_|refine cA (c2) ?_|refine cA (hf) ?_|refine cA (c4) ?_|(intro hg;try exact ai)|exact fin|apply af)
  all_goals rfl
theorem akd (W R:Nat)(sl:Int)(S:List aS)(C:List D)(hC:C.all D.one=true)(hw:1<=W/\W<=6)(hr:1<=R/\R<=5)(pt lv:Int)(hi:Bool):ak aa 121 [.agg C, .ro [i64 pt,i64 lv, .bool hi], .ro (cx W R sl S)] (.bool (decide (0<=pt/\pt<=(W:Int) * R - 1)&&decide (1<=lv/\lv<=99999))):=by
 have h2:=tq hw hr;have h3:(W:Int) * R=((W * R:Nat):Int):=by simp
 have c1:=BQ pt 0 ((W:Int) * R - 1);have c2:=BQ lv 1 99999;generalize decide (0<=pt/\pt<=(W:Int) * R - 1)=x at *;generalize decide (1<=lv/\lv<=99999)=y at *;cases x with
 |false=>
  refine cT func121 ntmps121 results121 call121 λw0 S0 M0=> ?_;repeat'(first|refine aq ?_|refine au λK hK=> ?_|refine cA (c1) ?_|refine cA (c2) ?_|(intro hg;try exact ai)|exact fin|apply af)
  all_goals first|exact hC|simp_all
 |true=>
  refine cT func121 ntmps121 results121 call121 λw0 S0 M0=> ?_;repeat'(first|refine aq ?_|refine au λK hK=> ?_|refine cA (c1) ?_|refine cA (c2) ?_|(intro hg;try exact ai)|exact fin|apply af)
  all_goals first|exact hC|simp_all
def uz (W R:Nat)(pt lv:Int):Bool:=decide (0<=pt/\pt<=(W:Int) * R - 1)&&decide (1<=lv/\lv<=99999)
theorem Wj (W R:Nat)(sl:Int)(S:List aS)(h:dB W R sl S)(hc:fp W sl S)(pt lv:Int)(hi:Bool):ak aa 96 [.agg (cx W R sl S), .agg [i64 pt,i64 lv, .bool hi]] (.aF [if uz W R pt lv=true then .agg (fy W R sl S)else JQ,i64 (if uz W R pt lv=true then 0 else 2)]):=by
 have c1:=ajo W R sl S h hc 121 [i64 pt,i64 lv, .bool hi] (cx W R sl S) (uz W R pt lv) (akd W R sl S (fy W R sl S) rfl h.w h.r pt lv hi);cases hf:uz W R pt lv with
 |true=>
  simp only[hf,if_true]at c1⊢;refine cT func96 ntmps96 results96 call96 λw0 S0 M0=> ?_;repeat'(first|(refine j6 1 _ _ rfl rfl ?_;simp only[aU,Nat.reduceAdd])|(refine j6 0 _ _ rfl rfl ?_;simp only[aU,Nat.reduceAdd])|refine aq ?_|refine au λK hK=> ?_|refine cA (c1) ?_|(intro hg;try exact ai)|exact fin|apply af)
 |false=>
  simp only[hf,if_false,bK]at c1⊢;refine cT func96 ntmps96 results96 call96 λw0 S0 M0=> ?_;repeat'(first|(refine j6 1 _ _ rfl rfl ?_;simp only[aU,Nat.reduceAdd])|(refine j6 0 _ _ rfl rfl ?_;simp only[aU,Nat.reduceAdd])|refine aq ?_|refine au λK hK=> ?_|refine cA (c1) ?_|(intro hg;try exact ai)|exact fin|apply af)
  all_goals rfl
def iE (W R:Nat)(sl:Int)(S:List aS)(pt lv:Int)(hi:Bool):Int×Int:=if uz W R pt lv=true then(wq W R sl S pt.toNat lv hi,0)else(0,2)
theorem Nf {W R:Nat}{pt lv:Int}(h:uz W R pt lv=true):(pt.toNat < W * R/\pt=(pt.toNat:Nat))/\1<=lv/\lv<=99999:=by
 simp only[uz,Bool.and_eq_true,decide_eq_true_eq]at h;have h3:(W:Int) * R=((W * R:Nat):Int):=by simp
 omega
theorem aeo (W R:Nat)(sl:Int)(S:List aS)(h:dB W R sl S)(hc:fp W sl S)(pt lv:Int):ak aa 50 [.agg (cx W R sl S),i64 pt,i64 lv] (.aF [i64 (iE W R sl S pt lv false).1,i64 (iE W R sl S pt lv false).2]):=by
 have c1:=Wj W R sl S h hc pt lv false;cases hf:uz W R pt lv with
 |true=>
  obtain⟨⟨h1,h2⟩,h3⟩:=Nf hf;have c2:=VZ W R sl S h pt.toNat lv false h1 h3;simp only[wD]at c2;rw[<-h2]at c2;simp only[hf,if_true]at c1;simp only[iE,hf,if_true];refine cT func50 ntmps50 results50 call50 λw0 S0 M0=> ?_;repeat'(first|refine aq ?_|refine au λK hK=> ?_|refine cA (c1) ?_|refine cA (c2) ?_|(intro hg;try exact ai)|exact fin|apply af)
 |false=>
  simp only[hf,if_false,bK]at c1;simp only[iE,hf,if_false,bK];refine cT func50 ntmps50 results50 call50 λw0 S0 M0=> ?_;repeat'(first|refine aq ?_|refine au λK hK=> ?_|refine cA (c1) ?_|(intro hg;try exact ai)|exact fin|apply af)
  all_goals rfl
theorem agw (W R:Nat)(sl:Int)(S:List aS)(h:dB W R sl S)(hc:fp W sl S)(pt lv:Int):ak aa 51 [.agg (cx W R sl S),i64 pt,i64 lv] (.aF [i64 (iE W R sl S pt lv true).1,i64 (iE W R sl S pt lv true).2]):=by
 have c1:=Wj W R sl S h hc pt lv true;cases hf:uz W R pt lv with
 |true=>
  obtain⟨⟨h1,h2⟩,h3⟩:=Nf hf;have c2:=VZ W R sl S h pt.toNat lv true h1 h3;simp only[wD]at c2;rw[<-h2]at c2;simp only[hf,if_true]at c1;simp only[iE,hf,if_true];refine cT func51 ntmps51 results51 call51 λw0 S0 M0=> ?_;repeat'(first|refine aq ?_|refine au λK hK=> ?_|refine cA (c1) ?_|refine cA (c2) ?_|(intro hg;try exact ai)|exact fin|apply af)
 |false=>
  simp only[hf,if_false,bK]at c1;simp only[iE,hf,if_false,bK];refine cT func51 ntmps51 results51 call51 λw0 S0 M0=> ?_;repeat'(first|refine aq ?_|refine au λK hK=> ?_|refine cA (c1) ?_|(intro hg;try exact ai)|exact fin|apply af)
  all_goals rfl
theorem C7 {n nr:Nat}{σ τ:Nat->Option Nat}(hσ:∀i,i < n->σ i=some i)(hτ:∀i,i < nr->τ i=some i){d:D}(h:Names n nr d):d.rn σ τ=d:=by
 have key:∀cs:List D,(∀d∈cs,d.rn σ τ=d)->nK σ τ cs=cs:=λcs h=>by
  rw[AA];exact(oS (g:=id) h).trans (v8 _)
 induction h with
 |agg cs h ih=>simp only[D.rn];rw[key cs ih]
 |aF cs h ih=>simp only[D.rn];rw[key cs ih]
 |ag f cs h ih=>simp only[D.rn];rw[key cs ih]
 |cL f cs h ih=>simp only[D.rn];rw[key cs ih]
 |box i off h=>simp only[D.rn,hσ i h]
 |aN i off n c h=>simp only[D.rn,hσ i h]
 |bu i h=>simp only[D.rn,hσ i h]
 |own i h=>simp only[D.rn,hτ i h]
 |_=>simp only[D.rn]
theorem ab6 {n nr:Nat}{σ τ:Nat->Option Nat}(hσ:∀i,i < n->σ i=some i)(hτ:∀i,i < nr->τ i=some i){x:Bx}(h:x.Ld n nr):dZ σ τ x=x:=by
 cases x with
 |mu cs=>
  simp only[dZ,AA]
  congr 1
  exact(oS (g:=id) λd hd=>C7 hσ hτ (h d hd)).trans (v8 _)
 |mp es=>
  simp only[dZ]
  congr 1
  refine(oS (g:=id) λe he=> ?_).trans (v8 _);obtain⟨h1,h2⟩:=h e he;have h0:∀i,i < 0->τ i=some i:=λi hi=>absurd hi (Nat.not_lt_zero i);rw[C7 hσ h0 h1,C7 hσ h0 h2];rfl
 |_=>rfl
theorem Q_:∀(k m i:Nat),pos (List.range' m k) m i=if m<=i/\i < m + k then some i else none
 |0,m,i=>by
  have:¬(m<=i/\i < m + 0):=ae;rw[if_neg this];rfl
 |k + 1,m,i=>by
  rw[List.range'_succ];simp only[pos];by_cases h:m=i
  ·subst h;simp
  ·have:(m == i)=false:=by simp[h]
   rw[this,cond_false,Q_ k (m + 1) i];by_cases h2:m + 1<=i/\i < m + 1 + k
   ·rw[if_pos h2,if_pos ae]
   ·rw[if_neg h2,if_neg ae]
theorem KP (n i:Nat):pos (ct n) 0 i=if i < n then some i else none:=by
 rw[List.range_eq_range',Q_];by_cases h:i < n
 ·rw[if_pos h,if_pos ae]
 ·rw[if_neg h,if_neg ae]
theorem Qe {α:Type}(A B:List α):nI (ct A.length) (A++B)=A:=by
 have hi:∀i∈ct A.length,i < (A++B).length:=λi h=>by simp at h⊢;omega
 refine List.ext_getElem? λj=> ?_;by_cases hj:j < A.length
 ·have hl:j < (nI (ct A.length) (A++B)).length:=by rw[CV hi];simpa using hj
  obtain⟨i,h1,h2⟩:=CW hi (bS hl);rw[List.getElem?_range hj]at h1;cases h1;rw[bS hl,<-h2,bQ hj]
 ·rw[pM (by rw[CV hi];simpa using hj),pM ae]
theorem VG {α:Type}{A T E:List α}(h:A.length<=E.length):jK (ct A.length) (A++T) E=E.take A.length++T++E.drop A.length:=by
 unfold jK;rw[List.length_range]
 congr 1
 refine List.ext_getElem? λj=> ?_;rw[EN,fK,KP];by_cases hj:j < A.length
 ·have hE:j < E.length:=ae;rw[if_pos hj,bQ hj,bQ (by simp;omega),bS hj,List.getElem?_take_of_lt hj,bS hE];simp only[eH,bS hE]
 ·rw[if_neg hj,dX ae,dX (by simp;omega),List.length_take,Nat.min_eq_left h];simp
theorem gC {P:Program}{f:FuncId}{ds:List D}{bs es:List Bx}{rw fF:List Row}{d0:D}{nr:Nat}(tl:List Bx)(h:aH P f ds bs rw (aT d0 es fF))(hl:es.length=bs.length:=by rfl)
  (hb:a7 bs.length nr bs=true:=by simp only[a7,bE];rfl)(he:a7 bs.length nr es=true:=by simp only[a7,bE];rfl)(hd:cq bs.length nr d0=true:=by rfl)(kW:(ds.all λd=>cq bs.length nr d)=true:=by rfl)(qc:tl.map (iU (bs.length + tl.length) (ct rw.length))=tl:=by rfl)
  (hr:nr<=rw.length/\rw.length<=fF.length:=by exact⟨Nat.le_refl _,Nat.le_refl _⟩):aH P f ds (bs++tl) rw (aT d0 (es++tl) fF):=by
 have hp:∀i,i < bs.length->pos (ct bs.length) 0 i=some i:=λi hi=>by rw[KP,if_pos hi]
 have hq:∀i,i < nr->pos (ct rw.length) 0 i=some i:=λi hi=>by rw[KP,if_pos ae]
 have hu:∀N i,i < bs.length->up (ct bs.length) N i=some i:=λN i hi=>by simp[up,o9,hi]
 have hv:∀N i,i < nr->up (ct rw.length) N i=some i:=λN i hi=>by simp[up,o9,show i < rw.length from ae]
 have Ur:∀{σ τ:Nat->Option Nat},(∀i,i < bs.length->σ i=some i)->(∀i,i < nr->τ i=some i)->∀X:List Bx,a7 bs.length nr X=true->X.map (dZ σ τ)=X:=λhσ hτ X hX=>
  (oS (g:=id) λx hx=>by
   obtain⟨j,hj⟩:=List.getElem?_of_mem hx;exact ab6 hσ hτ (qP X hX j x hj)).trans (v8 _)
 refine(h.uw (ct bs.length) (ct rw.length) (bR:=ds) (B:=bs++tl) (RW:=rw) List.nodup_range List.nodup_range (λi hi=>by simp at hi⊢;omega) (λi hi=>by simpa using hi) ?_ ?_ ?_ ?_).mono ?_
 ·rw[Qe,Ur hp hq bs hb]
 ·have:=Qe rw [];rwa [eu]at this
 ·exact(oS (g:=id) λd dN=>C7 hp hq (t_ d (List.all_eq_true.1 kW d dN))).trans (v8 _)
 ·rintro d aB aD ⟨rfl,rfl,rfl⟩;rw[List.length_range];exact hr.2
 ·rintro d B' Ce ⟨d',aB,aD,⟨rfl,rfl,rfl⟩,_,rfl,rfl,rfl⟩;refine⟨C7 (hu _) (hv _) (t_ _ hd), ?_, ?_⟩
  ·rw[Ur (hu _) (hv _) _ he,x_,List.length_append,qc];have:=VG (A:=bs.map (iU (bs.length + tl.length) (ct rw.length))) (T:=tl) (E:=aB) (by rw[iB];omega);rw[iB]at this;rw[this,List.take_of_length_le ae,List.drop_eq_nil_of_le ae,eu]
  ·have:=VG (A:=rw) (T:=[]) (E:=aD) hr.2
   rwa [eu,eu,Fw]at this
theorem Su {p:Nat->Prop}(h:∃n,p n):∃n,p n/\∀m,m < n->¬p m:=by
 obtain⟨n,hn⟩:=h;induction n using Nat.strongRecOn with
 |_ n ih=>
  by_cases hm:∃m,m < n/\p m
  ·obtain⟨m,h1,h2⟩:=hm;exact ih m h1 h2
  ·exact⟨n,hn,λm h1 h2=>hm ⟨m,h1,h2⟩⟩
def ri (W sl:Int)(a b:aS):Bool:=decide (b.hi < a.lo - sl * dR W a.p b.p)||decide (a.hi < b.lo - sl * dR W a.p b.p)
theorem adV (W sl:Int)(S:List aS):fp W sl S↔∀i k,i < k->k < S.length->ri W sl (nth S i) (nth S k)=false:=by
 unfold fp ri;simp only[Bool.or_eq_false_iff,decide_eq_false_iff_not,Int.not_lt]
theorem akr (W R:Nat)(sl:Int)(S:List aS)(h:dB W R sl S)(i k:Nat)(xk:i < k)(hk:k < S.length):ak aa 226 [.agg (fy W R sl S),dU (nth S i),dU (nth S k)] (.bool (ri W sl (nth S i) (nth S k))):=by
 have h1:=u_ h (i:=i) ae;have h2:=u_ h hk;have c1:=BT W R (nth S i).p (nth S k).p (by have:=h.w;omega) h1 h2;have h4:=yx h h1 hk;have h5:=(h.a i ae).2;have h6:=(h.a k hk).2;have h7:=uA (W:=W) (a:=(nth S i).p) (b:=(nth S k).p) (by have:=h.w;omega) h1 h2;unfold ri;by_cases e1:(nth S k).hi < (nth S i).lo - sl * dR W (nth S i).p (nth S k).p
 ·refine cT func226 ntmps226 results226 call226 λw0 S0 M0=> ?_;repeat'(first|refine aq ?_|refine au λK hK=> ?_|refine cA (c1) ?_|(intro hg;try exact ai)|exact fin|apply af)
  all_goals(first|(simp only[decide_eq_true e1,O1])|skip)
 ·refine cT func226 ntmps226 results226 call226 λw0 S0 M0=> ?_;repeat'(first|refine aq ?_|refine au λK hK=> ?_|refine cA (c1) ?_|(intro hg;try exact ai)|exact fin|apply af)
  all_goals(first|(simp only[decide_eq_false e1,JK])|skip)
theorem ako (W R:Nat)(sl:Int)(S:List aS)(h:dB W R sl S)(hc:¬fp W sl S):∃i0 k0:Nat,ak aa 171 [.agg (fy W R sl S)] (.aF [i64 (i0:Nat),i64 (k0:Nat), .bool true]):=by
 have hn:=h.n;obtain⟨i0,⟨k1,cX⟩,HO⟩:∃i,(∃k,i < k/\k < S.length/\ri W sl (nth S i) (nth S k)=true)/\∀m,m < i->¬∃k,m < k/\k < S.length/\ri W sl (nth S m) (nth S k)=true:=Su (by
  apply Classical.byContradiction;intro ga;refine hc ((adV W sl S).2 λi k h1 h2=> ?_);cases hb:ri W sl (nth S i) (nth S k)with
  |false=>rfl
  |true=>exact absurd ⟨i,k,h1,h2,hb⟩ ga)
 obtain⟨k0,⟨vr,kv,bf⟩,xe⟩:=Su (p:=λk=>i0 < k/\k < S.length/\ri W sl (nth S i0) (nth S k)=true) ⟨k1,cX⟩;clear cX;have agk:∀i k,i < i0->i < k->k < S.length->ri W sl (nth S i) (nth S k)=false:=λi k h1 h2 h3=>by
  cases hb:ri W sl (nth S i) (nth S k)with
  |false=>rfl
  |true=>exact absurd ⟨k,h2,h3,hb⟩ (HO i h1)
 have agj:∀k,i0 < k->k < k0->ri W sl (nth S i0) (nth S k)=false:=λk h1 h2=>by
  cases hb:ri W sl (nth S i0) (nth S k)with
  |false=>rfl
  |true=>exact absurd ⟨h1,ae,hb⟩ (xe k h2)
 clear xe HO;refine⟨i0,k0, ?_⟩;refine cT func171 ntmps171 results171 call171 λw0 S0 M0=> ?_;repeat'(first|refine aq ?_|refine au λK hK=> ?_|(intro hg;try exact ai)|exact fin|apply af)
 refine dn (ι:=Nat) (λi=>[(1, .box 0 0),(10, .list (S.map dU)),(11,i64 S.length),(12,i64 i)]) (λ_=>[.mu (fy W R sl S)]) (λ_=>[]) (λi=>i<=i0) (λi=>i0 - i) (λ_ _=>⟨rfl,rfl⟩) 0 (bD _) bY (λi hi=> ?_);have aG:i < S.length:=ae;refine aj ?_;repeat'(first|refine aq ?_|refine au λK hK=> ?_|(intro hg;try exact ai)|exact fin|apply af)
 refine dn (ι:=Nat) (λk=>[(1, .box 0 0),(5,i64 i),(6, .box 1 0),(7,i64 k),(10, .list (S.map dU)),(11,i64 S.length),(12,i64 i)]) (λ_=>[.mu (fy W R sl S), .mu [i64 (nth S i).p,i64 (nth S i).lo,i64 (nth S i).hi]]) (λ_=>[]) (λk=>i < k/\k<=S.length/\(i=i0->k<=k0)) (λk=>S.length - k) (λ_ _=>⟨rfl,rfl⟩) (i + 1) ⟨ae,ae,λe=>by omega⟩ bY (λk ⟨cX,hk,ze⟩=> ?_);by_cases zd:k < S.length
 ·have c1:=akr W R sl S h i k cX zd;by_cases gR:i=i0/\k=k0
  ·obtain⟨rfl,rfl⟩:=gR;rw[bf]at c1;refine aj ?_;repeat'(first|refine aq ?_|refine au λK hK=> ?_|refine cA (c1) ?_|(intro hg;try exact ai)|exact fin|apply af)
   all_goals first|rfl|skip
  ·have hf:ri W sl (nth S i) (nth S k)=false:=by
    by_cases he:i=i0
    ·subst he;have:=ze rfl;exact agj k cX ae
    ·exact agk i k ae cX zd
   rw[hf]at c1;refine aj ?_;repeat'(first|refine aq ?_|refine au λK hK=> ?_|refine cA (c1) ?_|(intro hg;try exact ai)|exact fin|apply af)
   all_goals first|exact⟨k + 1,⟨ae,ae,λe=>by have:=ze e;omega⟩,ae,bY⟩|skip
 ·obtain rfl:k=S.length:=ae;have bz:i≠i0:=λe=>by have:=ze e;omega
  refine aj ?_;repeat'(first|refine aq ?_|refine au λK hK=> ?_|(intro hg;try exact ai)|exact fin|apply af)
  all_goals first|exact⟨i + 1,ae,ae,bY⟩|skip
theorem ajn (W R:Nat)(sl:Int)(S:List aS)(h:dB W R sl S)(hc:¬fp W sl S):ak aa 117 [.agg (cx W R sl S), .ag 118 []] (.aF [JQ,i64 7]):=by
 have c1:=Iz W R sl S h;have c2:=NO W R sl S;have c3:=Wr (fy W R sl S) rfl;obtain⟨i0,k0,c4⟩:=ako W R sl S h hc;refine cT Oz Ov Ot OC λw0 S0 M0=> ?_;repeat'(first|refine aq ?_|refine au λK hK=> ?_|refine cA (c1) ?_|refine cA (c2) ?_|refine cA (c3) ?_|refine cA (c4) ?_|(intro hg;try exact ai)|exact fin|apply af)
 all_goals rfl
theorem ai0 (W R:Nat)(sl:Int)(S:List aS)(h:dB W R sl S)(hc:¬fp W sl S):ak aa 93 [.agg (cx W R sl S)] (.aF [.agg [i64 0, .val (.slice none 0 0)],i64 7]):=by
 have c1:=ajn W R sl S h hc;refine cT func93 ntmps93 results93 call93 λw0 S0 M0=> ?_;repeat'(first|refine aq ?_|refine au λK hK=> ?_|refine cA (c1) ?_|(intro hg;try exact ai)|exact fin|apply af)
 all_goals rfl
theorem Yr {ops:Array Oper}(bP:ops=dA Tryz.f94 2)(w0:World)(S0:Addr->Prop)(e9:MM)(own:Nat->Prop)(β:List Nat)(s:aJ)(R0:Row)(n cap na:Nat)(cost day pt lo hi W R sl:Int)(cs Z4:List D)(S:List aS)(aw:cs.map (gY 2)=cs)(hZ:Z4.map (gY 2)=Z4)(hS:S.length<=100)(hc:aH aa 120 [.list (S.map dU)] [.mu (ay s n cap cost), .mp [], .mu cs, .mu [i64 lo,i64 hi], .mu Z4, .mu [i64 W,i64 R,i64 sl, .list (S.map dU)]] [R0,az na] (λd aB aD=>d= .own 2/\aB=[.mu (ay s n cap cost), .mp [], .mu cs, .mu [i64 lo,i64 hi], .mu Z4, .mu [i64 W,i64 R,i64 sl, .list (S.map dU)]]/\aD=[R0,az na,⟨true,51,3,S.map dU⟩])):
  jN ⟨aa,w0,S0,e9,none,own,β⟩ 2 ops 27 [(0,17,λL=> .box 5 3),(1,18,λL=> .list (S.map dU)),(2,19,λL=>bif L 7 then .undef else .own 2),(3,20,λL=>i64 pt),(4,21,λL=> .agg [i64 lo,i64 hi]),(5,22,λL=> .agg [i64 pt,i64 lo,i64 hi]),(6,23,λL=> .list [.agg [i64 pt,i64 lo,i64 hi]]),(7,24,λL=> .own 2),(8,25,λL=> .box 5 3)] [(0, .box 0 0),(1,i64 day),(2,i64 pt),(7, .box 3 0),(8, .box 4 0),(9, .box 5 0)] (λL=>[.mu (ay s n cap cost), .mp [], .mu cs, .mu [i64 lo,i64 hi], .mu Z4, .mu [i64 W,i64 R,i64 sl,bif L 9 then .own 2 else .list (S.map dU)]]) (λL=>[R0,az na]++bif L 2 then[⟨true,51,3,bif L 7 then S.map dU++[.agg [i64 pt,i64 lo,i64 hi]]else S.map dU⟩]else[]):=by
 have hE:=(af @aw @hZ);simp only[dA,eH,e8,Tryz.f94,fw,Nat.reduceBEq,bK,if_false,if_true,eI,eu,eR,iC,reduceIte,eq_self]at bP;subst bP;exact jY Tryz.ty.mixed rfl [(0,[4,14,18]),(1,[1,4,14,18]),(2,[3,14,18]),(3,[4,14,18]),(3,[5,14,18]),(4,[4,14,18]),(4,[5,14,18]),(5,[4,7,9,14,18]),(5,[5,7,9,14,18]),(6,[4,11,14,18]),(6,[5,11,14,18]),(7,[5,13,18]),(8,[5,15,18]),(9,[5,15,17])] [] ax rfl rfl iv js iw
theorem JU (s:aJ)(R0:Row)(n cap na:Nat)(cost day pt lo hi:Int)(cs U:List D)(W R:Nat)(sl:Int)(S:List aS)(aw:∀d∈cs,Names 0 0 d)(hd:cs.drop (day.toNat * 4)=cx W R sl S++U)(bf:cs.length=cap * 4)(hn:n<=cap)(dH:n<=100)(vA:0<=day/\day < n)(hS:S.length<=12):
  aH aa 94 [.box 0 0,i64 day,i64 pt, .agg [i64 lo,i64 hi]] [.mu (ay s n cap cost), .mp [], .mu cs] [R0,az na] (aT (.agg (cx W R sl (S++[⟨pt,lo,hi⟩]))) [.mu (ay s n cap cost), .mp [], .mu cs] [R0,az na]):=by
 have iG:cs.map (gY 2)=cs:=u7 aw;have bE:∀nb nr,bN nb nr cs=true:=λnb nr=>ec λd hd=>eG (aw d hd);refine lD ?_ rfl (by simp only[a7,bE];rfl) (aY _);refine cU func94 ntmps94 results94 call94 λW0 S0 M0 own β hβ=> ?_;have wX:β.length=3:=by rw[hβ];rfl
 have dN:cs.drop (0 + day.toNat * 4)=i64 (W:Nat)::i64 (R:Nat)::i64 sl:: .list (S.map dU)::U:=by rw[fK];exact hd
 repeat'(first|(show av _ (.region 2 _ true) _ _;refine bJ ?_)|refine bh ?_|((first|refine bj λK hK=> ?_|refine bg ?_|show bb _ _ _ _ _);(refine sX (@dN) ?_))|(intro hg;try exact ai)|exact fin|apply af)
 refine b_ ?_;refine nv (cR 27 [(0, .box 0 0),(1,i64 day),(2,i64 pt),(7, .box 3 0),(8, .box 4 0),(9, .box 5 0)] [.mu (ay s n cap cost), .mp [], .mu cs, .mu [i64 lo,i64 hi], .mu [i64 0,i64 0,i64 0, .val (.slice none 0 0)], .mu (cx W R sl S)] [R0,az na]) (br rfl (by simp[put]) ⟨[],rfl⟩ ⟨[],rfl⟩) (ik rfl (by simp only[a7,bE];rfl)) (by show β.length<=6;omega) ?_;refine Yr (by rfl) W0 S0 M0 own β s R0 n cap na cost day pt lo hi W R sl cs [i64 0,i64 0,i64 0, .val (.slice none 0 0)] S iG rfl ae ((aiJ S ae _ _ (by simp only[ib,nz,ij,List.length_cons,List.length_nil,fK,Nat.reduceAdd,iG];rfl)).mono (λd aB aD h=>h)) _ ?_;simp only[e_,cond_true,cj,bH,eR,eI];have hm:(S++[(⟨pt,lo,hi⟩:aS)]).map dU=S.map dU++[.agg [i64 pt,i64 lo,i64 hi]]:=by rw[x_];rfl
 rw[<-hm];refine ep (bX.freeze 5 (cs:=[i64 (W:Nat),i64 (R:Nat),i64 sl, .own 2]) (cm:=cx W R sl (S++[⟨pt,lo,hi⟩])) rfl rfl) ?_;simp only[List.set];repeat'(first|(show av _ .ret _ _;refine bJ ?_)|refine aq ?_|refine au λK hK=> ?_|(intro hg;try exact ai)|exact fin|apply af)
 refine b_ ?_;refine tp ?_;show cC _ _ _ _ _;refine aj ?_;exact⟨rfl,⟨_,rfl⟩,⟨_,rfl⟩⟩
theorem KO (s:aJ)(R0:Row)(n cap na:Nat)(cost day pt lo hi:Int)(cs U:List D)(W R:Nat)(sl:Int)(S:List aS)(aw:∀d∈cs,Names 0 0 d)(hd:cs.drop (day.toNat * 4)=cx W R sl S++U)(bf:cs.length=cap * 4)(hn:n<=cap)(dH:n<=100)(vA:0<=day/\day < n)(hS:S.length<=12)
  (hM:dB W R sl (S++[⟨pt,lo,hi⟩]))(hC:fp W sl (S++[⟨pt,lo,hi⟩])):
  aH aa 39 [.box 0 0,i64 day,i64 pt, .agg [i64 lo,i64 hi]] [.mu (ay s n cap cost), .mp [], .mu cs] [R0,az na] (aT (.bool true) [.mu (ay s n cap cost), .mp [], .mu cs] [R0,az na]):=by
 have bE:∀nb nr,bN nb nr cs=true:=λnb nr=>ec λd hd=>eG (aw d hd);have bE:∀nb nr,bN nb nr cs=true:=λnb nr=>ec λd hd=>eG (aw d hd);have c1:=gC (nr:=2) [.mu [i64 lo,i64 hi]] (JU s R0 n cap na cost day pt lo hi cs U W R sl S aw hd bf hn dH vA hS);have c2:=VS W R sl _ hM hC;refine lD ?_ rfl (by simp only[a7,bE];rfl) (aY _);refine cU func39 ntmps39 results39 call39 λW0 S0 M0 own β hβ=> ?_;repeat'(first|(show av _ (.region 1 _ _) _ _;refine et 4 rfl (λK1 aA=> ?_);refine aj ?_)|(refine aA _ (eZ c1 ?_);simp only[aU,Nat.reduceAdd];refine aj ?_)|(show cC _ _ _ _ _;refine aj ?_)|(exact⟨_,rfl⟩)|refine aq ?_|refine au λK hK=> ?_|refine cA (c2) ?_|(intro hg;try exact ai)|exact fin|apply af)
 all_goals first|exact⟨[],rfl⟩|exact⟨_,rfl⟩
theorem Q9 (s:aJ)(R0:Row)(n cap na:Nat)(cost day pt lo hi:Int)(cs U:List D)(W R:Nat)(sl:Int)(S:List aS)(aw:∀d∈cs,Names 0 0 d)(hd:cs.drop (day.toNat * 4)=cx W R sl S++U)(bf:cs.length=cap * 4)(hn:n<=cap)(dH:n<=100)(vA:0<=day/\day < n)(hS:S.length<=12)
  (hM:dB W R sl (S++[⟨pt,lo,hi⟩]))(hC:¬fp W sl (S++[⟨pt,lo,hi⟩])):
  aH aa 39 [.box 0 0,i64 day,i64 pt, .agg [i64 lo,i64 hi]] [.mu (ay s n cap cost), .mp [], .mu cs] [R0,az na] (aT (.bool false) [.mu (ay s n cap cost), .mp [], .mu cs] [R0,az na]):=by
 have bE:∀nb nr,bN nb nr cs=true:=λnb nr=>ec λd hd=>eG (aw d hd);have bE:∀nb nr,bN nb nr cs=true:=λnb nr=>ec λd hd=>eG (aw d hd);have c1:=gC (nr:=2) [.mu [i64 lo,i64 hi]] (JU s R0 n cap na cost day pt lo hi cs U W R sl S aw hd bf hn dH vA hS);have c2:=ai0 W R sl _ hM hC;refine lD ?_ rfl (by simp only[a7,bE];rfl) (aY _);refine cU func39 ntmps39 results39 call39 λW0 S0 M0 own β hβ=> ?_;repeat'(first|(show av _ (.region 1 _ _) _ _;refine et 4 rfl (λK1 aA=> ?_);refine aj ?_)|(refine aA _ (eZ c1 ?_);simp only[aU,Nat.reduceAdd];refine aj ?_)|(show cC _ _ _ _ _;refine aj ?_)|(exact⟨_,rfl⟩)|refine aq ?_|refine au λK hK=> ?_|refine cA (c2) ?_|(intro hg;try exact ai)|exact fin|apply af)
 all_goals first|exact⟨[],rfl⟩|exact⟨_,rfl⟩|rfl
theorem ac' {ops:Array Oper}(bP:ops=dA Tryz.f40 1)(w0:World)(S0:Addr->Prop)(e9:MM)(own:Nat->Prop)(β:List Nat)(s:aJ)(R0:Row)(n cap na:Nat)(cost day pt lo hi:Int)(cs:List D)(m0 m1 m2:Int)(m3:List D)(vA:0<=day/\day < n)(hn:n<=cap)(dH:n<=100)(bf:cs.length=cap * 4)(hc:aH aa 94 [.box 0 0,i64 day,i64 pt, .agg [i64 lo,i64 hi]] [.mu (ay s n cap cost), .mp [], .mu cs, .mu [i64 lo,i64 hi]] [R0,az na] (aT (.agg [i64 m0,i64 m1,i64 m2, .list m3]) [.mu (ay s n cap cost), .mp [], .mu cs, .mu [i64 lo,i64 hi]] [R0,az na])):
  jN ⟨aa,w0,S0,e9,none,own,β⟩ 1 ops 19 [(0,8,λL=> .box 0 0),(1,9,λL=> .box 0 0),(2,10,λL=> .box 0 25),(3,11,λL=> .aN 2 0 n cap),(4,12,λL=>i64 day),(5,13,λL=> .box 0 0),(6,14,λL=>i64 day),(7,15,λL=>i64 pt),(8,16,λL=> .agg [i64 lo,i64 hi]),(9,17,λL=> .agg [i64 m0,i64 m1,i64 m2, .list m3]),(10,18,λL=> .box 2 (0 + day.toNat * 4))] [(0, .box 0 0),(1,i64 day),(2,i64 pt),(7, .box 3 0)] (λL=>[.mu (ay s n cap cost), .mp [], .mu (bif L 11 then cs.take (0 + day.toNat * 4)++[i64 m0,i64 m1,i64 m2, .list m3]++cs.drop (0 + day.toNat * 4 + 4)else cs), .mu [i64 lo,i64 hi]]) (λL=>[R0,az na]):=by
 simp only[dA,eH,e8,Tryz.f40,fw,Nat.reduceBEq,bK,if_false,if_true,eI,eu,eR,iC,reduceIte,eq_self]at bP;subst bP;exact jY Tryz.ty.mixed rfl [(0,[22]),(1,[1,22]),(2,[3,22]),(3,[5,22]),(4,[22]),(5,[22]),(6,[22]),(7,[22]),(8,[22]),(9,[11,13,15,17,22]),(10,[7,9,22]),(11,[19,21])] [] ax rfl rfl iv js iw
theorem KC (s:aJ)(R0:Row)(n cap na:Nat)(cost day pt lo hi:Int)(cs U:List D)(W R:Nat)(sl:Int)(S:List aS)(aw:∀d∈cs,Names 0 0 d)(hd:cs.drop (day.toNat * 4)=cx W R sl S++U)(bf:cs.length=cap * 4)(hn:n<=cap)(dH:n<=100)(vA:0<=day/\day < n)(hS:S.length<=12):
  aH aa 40 [.box 0 0,i64 day,i64 pt, .agg [i64 lo,i64 hi]] [.mu (ay s n cap cost), .mp [], .mu cs] [R0,az na] (aT (.aF []) [.mu (ay s n cap cost), .mp [], .mu (cs.take (day.toNat * 4)++cx W R sl (S++[⟨pt,lo,hi⟩])++U)] [R0,az na]):=by
 have bE:∀nb nr,bN nb nr cs=true:=λnb nr=>ec λd hd=>eG (aw d hd);have hU:cs.drop (0 + day.toNat * 4 + 4)=U:=by rw[fK,<-List.drop_drop,hd];rfl
 have mv:∀d∈cs.take (day.toNat * 4)++cx W R sl (S++[⟨pt,lo,hi⟩])++U,Names 0 0 d:=λd h=>by
  rcases fA.1 h with h|h
  ·rcases fA.1 h with h|h
   ·exact aw d (x9 h)
   ·simp only[cx,List.mem_cons,List.not_mem_nil,or_false]at h;rcases h with rfl|rfl|rfl|rfl<;>constructor
  ·rw[<-hU]at h;exact aw d (List.mem_of_mem_drop h)
 have bE:∀nb nr,bN nb nr cs=true:=λnb nr=>ec λd hd=>eG (aw d hd);have c1:=gC (nr:=2) [.mu [i64 lo,i64 hi]] (JU s R0 n cap na cost day pt lo hi cs U W R sl S aw hd bf hn dH vA hS);refine lD ?_ rfl (by simp only[a7,ec λd hd=>eG (mv d hd)];rfl) (aY _);refine cU func40 ntmps40 results40 call40 λW0 S0 M0 own β hβ=> ?_;repeat'(first|(show av _ (.region 1 _ true) _ _;refine bJ ?_)|refine aq ?_|refine au λK hK=> ?_|(intro hg;try exact ai)|exact fin|apply af)
 refine b_ ?_;refine nv (cR 19 [(0, .box 0 0),(1,i64 day),(2,i64 pt),(7, .box 3 0)] [.mu (ay s n cap cost), .mp [], .mu cs, .mu [i64 lo,i64 hi]] [R0,az na]) (br rfl (by simp[put]) ⟨[],rfl⟩ ⟨[],rfl⟩) (ik rfl (by simp only[a7,bE];rfl)) (by show β.length<=4;rw[hβ];exact Nat.le_succ 3) ?_;refine ac' (by rfl) W0 S0 M0 own β s R0 n cap na cost day pt lo hi cs _ _ _ _ vA hn dH bf c1 _ ?_;simp only[e_,cond_true,cj,bH];show cC _ _ _ _ _;refine aj ?_;rw[hU,fK];refine⟨rfl,⟨_,rfl⟩,⟨[],rfl⟩⟩
end Go.Proofs.YtafmfhkplgapjaaGreatDoor
