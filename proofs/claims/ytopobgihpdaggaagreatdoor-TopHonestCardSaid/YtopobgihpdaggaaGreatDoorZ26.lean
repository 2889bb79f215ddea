import Derived.Test.YtopobgihpdaggaaGreatDoorZ25
set_option linter.unusedVariables false
set_option linter.unusedSimpArgs false
open And renaming intro->ai
open Bool renaming false_eq_true->cJ
open List renaming append_nil->bN,cons_append->bR,foldr->bU,forall_mem_cons->jf,headD_cons->iy,map_cons->jI,map_nil->pq,mem_map_of_mem->gP,nil_append->bQ,not_mem_nil->fu,replicate->bP
open Nat renaming le_refl->cx
open Option renaming getD_some->fV,map_some->eW
open Go.Proofs.Tryz renaming f205->Ce,prog->ae
open Go.Proofs.Tryz
namespace Go.Proofs.YtopobgihpdaggaaGreatDoor
set_option maxRecDepth 100000
set_option maxHeartbeats 4000000
open Go.Ab
attribute[local irreducible] az dI dR ax aT IA fP aZ gZ
theorem acC (bx:List Bx)(rw:List Row)(g:List ByteArray)(m:Nat):iU bx rw (bW g::bP m .undef)=some (bW g::bP m .undef):=C2 λd hd=>by
 rcases List.mem_cons.1 hd with rfl|hd
 ·rfl
 ·rw[(List.mem_replicate.1 hd).2];rfl
theorem Uc (s:bh)(n cap ns na ks:Nat)(cost dy:Int)(cs U:List D)(W R:Nat)(sl:Int)(S:List dJ)(g:List ByteArray)(y x:Int)(bD:s.bf.length<=100)(hk:ks < s.bf.length)(iC:0<=s.dy/\s.dy<=100)(hr:0<=dy/\dy<=s.dy - 1)(aE:∀d∈cs,Names 0 0 d)(hd:cs.drop (dy.toNat * 4)=i64 (W:Nat)::i64 (R:Nat)::i64 sl:: .list (S.map ft)::U)(bE:cs.length=cap * 4)(hn:n<=cap)(eh:n<=100)(mf:dy < n)(hS:S.length < 12):
  aT ae 262 [.box 3 0, .box 5 0] [.mu (aP s n cap cost), .mp [], .mu cs, .mu [.box 0 0], .mu [i64 (ks:Nat)], .mu [i64 dy], .mu [.list [bW g]], .mu [i64 y,i64 x], .mu [.bool true]] [aG ns,aH na] (bw (.bool true) [.mu (aP s n cap cost), .mp [], .mu cs, .mu [.box 0 0], .mu [i64 (ks:Nat)], .mu [i64 dy], .mu [.list [bW g]], .mu [i64 y,i64 x], .mu [.bool true]] [aG ns,aH na]):=by
 have c1:=NR s n cap cost dy cs U _ _ _ S [aG ns,aH na] hd bE hn eh ⟨hr.1,mf⟩ (.mu [.box 0 0]:: .mu [i64 (ks:Nat)]:: .mu [i64 dy]:: .mu [.list [bW g]]:: .mu [i64 y,i64 x]:: .mu [.bool true]::[]);rw[decide_eq_true ag]at c1;refine cV func262 ntmps262 results262 call262 rfl ay λW0 S0 M0 own β hβ=> ?_;repeat'(first|(show az _ (.region 1 _ _) _ _;refine eo 2 rfl (λK1 aK=> ?_);refine av ?_)|(refine aK _ (cC c1 (by simp[bp]) rfl rfl rfl rfl ?_);clear aK K1;rintro d aF aL ⟨rfl,rfl,rfl⟩;simp only[bF,Nat.reduceAdd];refine av ?_)|(show cT _ _ _ _ _;refine av ?_)|refine aB ?_|refine aC λK hK=> ?_|(refine kA ?_;clear hK K)|(intro hg;try exact aw)|exact fin|apply ai)
theorem Ua {ops:Array Oper}(cj:ops=dK Tryz.f263 1)(w0:World)(S0:Addr->Prop)(eG:MM)(own:Nat->Prop)(β:List Nat)(s:bh)(n cap ns na ks:Nat)(cost dy:Int)(cs:List D)(g:List ByteArray)(y x:Int)(hk:ks < s.bf.length)(fY:s.bf.length<=100)(hc:aT ae 256 [.box 0 0,i64 dy,i64 (nth s.bf ks).2, .agg [i64 y,i64 x]] [.mu (aP s n cap cost), .mp [], .mu cs, .mu [.box 0 0], .mu [i64 (ks:Nat)], .mu [i64 dy], .mu [.list [bW g]], .mu [i64 y,i64 x], .mu [.bool true]] [aG ns,aH na] (bw (.bool true) [.mu (aP s n cap cost), .mp [], .mu cs, .mu [.box 0 0], .mu [i64 (ks:Nat)], .mu [i64 dy], .mu [.list [bW g]], .mu [i64 y,i64 x], .mu [.bool true]] [aG ns,aH na]))
  {Q:Exit->St->Prop}{T:dX}(hQ:Q .normal ⟨22,((T.foldr (λe f=>put f e.2.1 (e.2.2 λ_=>true)) (bj [(0, .box 8 0),(1, .box 3 0),(2, .box 5 0),(3, .box 4 0),(4, .box 7 0),(5, .bool false)]))),(λ(L:Nat->Bool)=>[.mu (aP s n cap cost), .mp [], .mu cs, .mu [.box 0 0], .mu [i64 (ks:Nat)], .mu [i64 dy], .mu [.list [bW g]], .mu [i64 y,i64 x], .mu [.bool true]]) (λ_=>true),(λ(L:Nat->Bool)=>[aG ns,aH na]) (λ_=>true)⟩)(hT:T=[(0,6,λL=> .bool true),(1,7,λL=> .bool true),(2,8,λL=> .box 0 0),(3,9,λL=>i64 dy),(4,10,λL=> .box 0 0),(5,11,λL=> .box 0 0),(6,12,λL=> .box 0 0),(7,13,λL=> .box 0 0),(8,14,λL=> .list (s.bf.map k9)),(9,15,λL=>i64 (ks:Nat)),(10,16,λL=> .ro (zu (nth s.bf ks))),(11,17,λL=> .ro [i64 (nth s.bf ks).2]),(12,18,λL=>i64 (nth s.bf ks).2),(13,19,λL=> .agg [i64 y,i64 x]),(14,20,λL=> .bool true),(15,21,λL=> .bool true),(16,5,λL=> .bool true)]:=by rfl):
  az ⟨ae,w0,S0,eG,none,own,β⟩ (.region 1 ops true) Q ⟨22,bj [(0, .box 8 0),(1, .box 3 0),(2, .box 5 0),(3, .box 4 0),(4, .box 7 0),(5, .bool false)],(λ(L:Nat->Bool)=>[.mu (aP s n cap cost), .mp [], .mu cs, .mu [.box 0 0], .mu [i64 (ks:Nat)], .mu [i64 dy], .mu [.list [bW g]], .mu [i64 y,i64 x], .mu [.bool true]]) (λ_=>false),(λ(L:Nat->Bool)=>[aG ns,aH na]) (λ_=>false)⟩:=by
 simp only[dK,eW,fV,Tryz.f263,fB,Nat.reduceBEq,cJ,if_false,if_true,bQ,bN,bR,iy,reduceIte,eq_self]at cj;subst cj;have ba:T.map (·.1)=[0,1,2,3,4,5,6,7,8,9,10,11,12,13,14,15,16]:=by rw[hT];rfl
 have cQ:T.map (·.2.1)=[6,7,8,9,10,11,12,13,14,15,16,17,18,19,20,21,5]:=by rw[hT];rfl
 have cD:(T.map (·.1)).Nodup:=by rw[ba];decide
 have aS:(T.map (·.2.1)).Nodup:=by rw[cQ];decide
 obtain⟨b,hb⟩:∃b:Nat->D,b=bj [(0, .box 8 0),(1, .box 3 0),(2, .box 5 0),(3, .box 4 0),(4, .box 7 0),(5, .bool false)]:=⟨_,rfl⟩;rw[<-hb];have h0:aI (λ_=>false) (λ_=>false) T b=b:=gR (λ_ _=>rfl);rw[<-h0];refine Ey (c:=⟨ae,w0,S0,eG,none,own,β⟩) Tryz.ty.mixed rfl aj 22 T b (λL=>[.mu (aP s n cap cost), .mp [], .mu cs, .mu [.box 0 0], .mu [i64 (ks:Nat)], .mu [i64 dy], .mu [.list [bW g]], .mu [i64 y,i64 x], .mu [.bool true]]) (λL=>[aG ns,aH na]) (λL k op hC af hL aa=> ?_) (λL hL=> ?_);rotate_left
 ·have bu:∀x∈T.map (·.1),x < 17:=by rw[ba];decide
  rw[gS (λe he=>hL _ (bu _ (gP (f:=(·.1)) he)))];rw[hT,hb];simp only[bU,eq_self];simp only[hT,bU,cond_true]at hQ;exact hQ
 match k,af,hL,aa with
 |0,af,hL,aa=>
  cases af;have hX:=hL;exact aA
 |1,af,hL,aa=>
  cases af;have d0:=aq aa 0 rfl;have hX:=an d0 hL;exact aA
 |2,af,hL,aa=>
  cases af;have d1:=aq aa 1 rfl;have hX:=an d1 hL;exact aA
 |3,af,hL,aa=>
  cases af;have d1:=aq aa 1 rfl;have hX:=an d1 hL;exact aA
 |4,af,hL,aa=>
  cases af;have d1:=aq aa 1 rfl;have hX:=an d1 hL;exact aA
 |5,af,hL,aa=>
  cases af;have d1:=aq aa 1 rfl;have d4:=aq aa 4 rfl;have hX:=an d1 (an d4 hL);exact aA
 |6,af,hL,aa=>
  cases af;have d1:=aq aa 1 rfl;have d5:=aq aa 5 rfl;have hX:=an d1 (an d5 hL);exact aA
 |7,af,hL,aa=>
  cases af;have d1:=aq aa 1 rfl;have d6:=aq aa 6 rfl;have hX:=an d1 (an d6 hL);exact aA
 |8,af,hL,aa=>
  cases af;have d1:=aq aa 1 rfl;have d7:=aq aa 7 rfl;have hX:=an d1 (an d7 hL);exact aA
 |9,af,hL,aa=>
  cases af;have d1:=aq aa 1 rfl;have hX:=an d1 hL;exact aA
 |10,af,hL,aa=>
  cases af;have d1:=aq aa 1 rfl;have d8:=aq aa 8 rfl;have d9:=aq aa 9 rfl;have hX:=an d1 (an d8 (an d9 hL));exact aA
 |11,af,hL,aa=>
  cases af;have d1:=aq aa 1 rfl;have d10:=aq aa 10 rfl;have hX:=an d1 (an d10 hL);exact aA
 |12,af,hL,aa=>
  cases af;have d1:=aq aa 1 rfl;have d11:=aq aa 11 rfl;have hX:=an d1 (an d11 hL);exact aA
 |13,af,hL,aa=>
  cases af;have d1:=aq aa 1 rfl;have hX:=an d1 hL;exact aA
 |14,af,hL,aa=>
  cases af;have d1:=aq aa 1 rfl;have d2:=aq aa 2 rfl;have d3:=aq aa 3 rfl;have d12:=aq aa 12 rfl;have d13:=aq aa 13 rfl
  (
   have f7:=br (V:=L) (b:=b) d1 aS (show(1,7,λL=> .bool true)∈T by rw[hT];simp);have f8:=br (V:=L) (b:=b) d2 aS (show(2,8,λL=> .box 0 0)∈T by rw[hT];simp);have f9:=br (V:=L) (b:=b) d3 aS (show(3,9,λL=>i64 dy)∈T by rw[hT];simp);have f18:=br (V:=L) (b:=b) d12 aS (show(12,18,λL=>i64 (nth s.bf ks).2)∈T by rw[hT];simp);have f19:=br (V:=L) (b:=b) d13 aS (show(13,19,λL=> .agg [i64 y,i64 x])∈T by rw[hT];simp);have ek:aI (more L 14) (more L 14) T b=put (aI L L T b) 20 (.bool true):=(dM hL cD aS (show(14,20,λL=> .bool true)∈T by rw[hT];simp)).trans (by rw[<-eL (V:=L) (V':=more L 14) (by rw[hT];simp[more])];try rfl);rw[ek];try simp only[eq_self,cond_true,cond_false,bR,bQ,bN]
   try simp only[eq_self,cond_true,cond_false,cG,cN,dN,put,Nat.reduceEqDiff,if_true,if_false,reduceIte]at f7 f8 f9 f18 f19
   refine ee.on (t:=7) rfl rfl f7 ?_;refine aZ.rF (cC hc (by show(20:Nat) < 22;decide) rfl (by show[aI L L T b 8,aI L L T b 9,aI L L T b 18,aI L L T b 19]=_;rw[f8,f9,f18,f19]) rfl rfl ?_);rintro d aF aL ⟨rfl,rfl,rfl⟩;rw[tH (rv (by rw[hb];exact sM rfl) (by rw[hT];simp only[jf,fu,false_implies,implies_true,and_true];(repeat' apply ai)<;>exact λ_=>rfl))];exact aO.of_eq rfl)
 |15,af,hL,aa=>
  cases af;have d1:=aq aa 1 rfl;have d14:=aq aa 14 rfl;have hX:=an d1 (an d14 hL);exact aA
 |16,af,hL,aa=>
  cases af;have d15:=aq aa 15 rfl;have hX:=an d15 hL;exact aA
 |k + 17,af,hL,aa=>simp at af
theorem Ub (s:bh)(n cap ns na ks:Nat)(cost dy:Int)(cs U:List D)(W R:Nat)(sl:Int)(S:List dJ)(g:List ByteArray)(y x:Int)(bD:s.bf.length<=100)(hk:ks < s.bf.length)(iC:0<=s.dy/\s.dy<=100)(hr:0<=dy/\dy<=s.dy - 1)(aE:∀d∈cs,Names 0 0 d)(hc:aT ae 256 [.box 0 0,i64 dy,i64 (nth s.bf ks).2, .agg [i64 y,i64 x]] [.mu (aP s n cap cost), .mp [], .mu cs, .mu [.box 0 0], .mu [i64 (ks:Nat)], .mu [i64 dy], .mu [.list [bW g]], .mu [i64 y,i64 x], .mu [.bool true]] [aG ns,aH na] (bw (.bool true) [.mu (aP s n cap cost), .mp [], .mu cs, .mu [.box 0 0], .mu [i64 (ks:Nat)], .mu [i64 dy], .mu [.list [bW g]], .mu [i64 y,i64 x], .mu [.bool true]] [aG ns,aH na])):
  aT ae 263 [.box 8 0, .box 3 0, .box 5 0, .box 4 0, .box 7 0] [.mu (aP s n cap cost), .mp [], .mu cs, .mu [.box 0 0], .mu [i64 (ks:Nat)], .mu [i64 dy], .mu [.list [bW g]], .mu [i64 y,i64 x], .mu [.bool true]] [aG ns,aH na] (bw (.bool true) [.mu (aP s n cap cost), .mp [], .mu cs, .mu [.box 0 0], .mu [i64 (ks:Nat)], .mu [i64 dy], .mu [.list [bW g]], .mu [i64 y,i64 x], .mu [.bool true]] [aG ns,aH na]):=by
 refine cV func263 ntmps263 results263 call263 rfl ay λW0 S0 M0 own β hβ=> ?_;repeat'(first|(show az _ (.region 1 _ true) _ _;refine b_ ?_)|refine aB ?_|refine aC λK hK=> ?_|(refine kA ?_;clear hK K)|(intro hg;try exact aw)|exact fin|apply ai)
 refine cI ?_;refine eI (jZ [(0, .box 8 0),(1, .box 3 0),(2, .box 5 0),(3, .box 4 0),(4, .box 7 0),(5, .bool false)] (by simp[put])) ?_;refine Ua (by rfl) W0 S0 M0 own β s n cap ns na ks cost dy cs g y x hk bD hc ?_;simp only[bU,cond_true,dn,cF];repeat'(first|(show cT _ _ _ _ _;refine av ?_)|refine aB ?_|refine aC λK hK=> ?_|(refine kA ?_;clear hK K)|(intro hg;try exact aw)|exact fin|apply ai)
theorem T7 {ops:Array Oper}(cj:ops=dK Ce 5)(w0:World)(S0:Addr->Prop)(eG:MM)(own:Nat->Prop)(β:List Nat)(s:bh)(n cap ns na ks cp:Nat)(cost dy:Int)(cs UU:List D)(g:List ByteArray)(r6:1<=cp)(ck:ax ae 259 [bW g] (bW g))
  {Q:Exit->St->Prop}{T:dX}(hQ:Q .normal ⟨85,((T.foldr (λe f=>put f e.2.1 (e.2.2 λ_=>true)) (bj [(4, .box 3 0),(5, .box 4 0),(6, .box 5 0),(9, .box 7 0),(10,i64 0),(19,i64 1),(20,i64 0)]))),(λ(L:Nat->Bool)=>[.mu (aP s n cap cost), .mp [], .mu cs, .mu [.box 0 0], .mu [i64 (ks:Nat)], .mu [i64 dy], .mu (bW g::UU), .mu [.a_ 6 0 1 cp]]) (λ_=>true),(λ(L:Nat->Bool)=>[aG ns,aH na]) (λ_=>true)⟩)(hT:T=[(0,23,λL=> .a_ 6 0 1 cp),(1,24,λL=>i64 0),(2,25,λL=> .a_ 6 0 1 cp),(3,26,λL=>i64 0),(4,27,λL=> .box 6 0),(5,28,λL=>bW g),(6,29,λL=>bW g),(7,30,λL=> .box 6 0)]:=by rfl):
  az ⟨ae,w0,S0,eG,none,own,β⟩ (.region 5 ops true) Q ⟨85,bj [(4, .box 3 0),(5, .box 4 0),(6, .box 5 0),(9, .box 7 0),(10,i64 0),(19,i64 1),(20,i64 0)],(λ(L:Nat->Bool)=>[.mu (aP s n cap cost), .mp [], .mu cs, .mu [.box 0 0], .mu [i64 (ks:Nat)], .mu [i64 dy], .mu (bW g::UU), .mu [.a_ 6 0 1 cp]]) (λ_=>false),(λ(L:Nat->Bool)=>[aG ns,aH na]) (λ_=>false)⟩:=by
 simp only[dK,eW,fV,Ce,fB,Nat.reduceBEq,cJ,if_false,if_true,bQ,bN,bR,iy,reduceIte,eq_self]at cj;subst cj;have ba:T.map (·.1)=[0,1,2,3,4,5,6,7]:=by rw[hT];rfl
 have cQ:T.map (·.2.1)=[23,24,25,26,27,28,29,30]:=by rw[hT];rfl
 have cD:(T.map (·.1)).Nodup:=by rw[ba];decide
 have aS:(T.map (·.2.1)).Nodup:=by rw[cQ];decide
 obtain⟨b,hb⟩:∃b:Nat->D,b=bj [(4, .box 3 0),(5, .box 4 0),(6, .box 5 0),(9, .box 7 0),(10,i64 0),(19,i64 1),(20,i64 0)]:=⟨_,rfl⟩;rw[<-hb];have h0:aI (λ_=>false) (λ_=>false) T b=b:=gR (λ_ _=>rfl);rw[<-h0];refine la (c:=⟨ae,w0,S0,eG,none,own,β⟩) Tryz.ty.mixed rfl aj 85 T b (λL=>[.mu (aP s n cap cost), .mp [], .mu cs, .mu [.box 0 0], .mu [i64 (ks:Nat)], .mu [i64 dy], .mu (bW g::UU), .mu [.a_ 6 0 1 cp]]) (λL=>[aG ns,aH na]) (λL k op hC af hL aa=> ?_) (λL hL=> ?_);rotate_left
 ·have bu:∀x∈T.map (·.1),x < 9:=by rw[ba];decide
  rw[gS (λe he=>hL _ (bu _ (gP (f:=(·.1)) he)))];rw[hT,hb];simp only[bU,eq_self];simp only[hT,bU,cond_true]at hQ;exact hQ
 match k,af,hL,aa with
 |0,af,hL,aa=>
  cases af;have hX:=hL;exact aA
 |1,af,hL,aa=>
  cases af;have hX:=hL;exact aA
 |2,af,hL,aa=>
  cases af;have hX:=hL;exact aA
 |3,af,hL,aa=>
  cases af;have hX:=hL;exact aA
 |4,af,hL,aa=>
  cases af;have d2:=aq aa 2 rfl;have d3:=aq aa 3 rfl;have hX:=an d2 (an d3 hL);exact aA
 |5,af,hL,aa=>
  cases af;have d4:=aq aa 4 rfl;have hX:=an d4 hL;exact aA
 |6,af,hL,aa=>
  cases af;have d5:=aq aa 5 rfl
  (
   have f28:=br (V:=L) (b:=b) d5 aS (show(5,28,λL=>bW g)∈T by rw[hT];simp);have ek:aI (more L 6) (more L 6) T b=put (aI L L T b) 29 (bW g):=(dM hL cD aS (show(6,29,λL=>bW g)∈T by rw[hT];simp)).trans (by rw[<-eL (V:=L) (V':=more L 6) (by rw[hT];simp[more])];try rfl);rw[ek];try simp only[eq_self,cond_true,cond_false,bR,bQ,bN]
   try simp only[eq_self,cond_true,cond_false,cG,cN,dN,put,Nat.reduceEqDiff,if_true,if_false,reduceIte]at f28
   refine aZ.rE rfl ?_
   (refine sX @f28 ?_;try exact trivial)
   refine bl ck ?_
   (refine av ?_;try exact trivial)
   exact aO.of_eq rfl)
 |7,af,hL,aa=>
  cases af;have d0:=aq aa 0 rfl;have d1:=aq aa 1 rfl;have hX:=an d0 (an d1 hL);exact aA
 |8,af,hL,aa=>
  cases af;have d6:=aq aa 6 rfl;have d7:=aq aa 7 rfl;have hX:=an d6 (an d7 hL);exact aA
 |k + 9,af,hL,aa=>simp at af
theorem T9 {ops:Array Oper}(cj:ops=dK Ce 12)(w0:World)(S0:Addr->Prop)(eG:MM)(own:Nat->Prop)(β:List Nat)(s:bh)(n cap ns na ks:Nat)(cost dy:Int)(cs eE:List D)(g:List ByteArray)(y x:Int)(hk:ks < s.bf.length)(fY:s.bf.length<=100)(hc:aT ae 257 [.box 0 0,i64 dy,i64 (nth s.bf ks).2, .agg [i64 y,i64 x]] [.mu (aP s n cap cost), .mp [], .mu cs, .mu [.box 0 0], .mu [i64 (ks:Nat)], .mu [i64 dy], .mu [.list [bW g]], .mu [i64 y,i64 x], .mu [.bool true]] [aG ns,aH na] (bw (.aQ []) [.mu (aP s n cap cost), .mp [], .mu eE, .mu [.box 0 0], .mu [i64 (ks:Nat)], .mu [i64 dy], .mu [.list [bW g]], .mu [i64 y,i64 x], .mu [.bool true]] [aG ns,aH na]))
  {Q:Exit->St->Prop}{T:dX}(hQ:Q .normal ⟨85,((T.foldr (λe f=>put f e.2.1 (e.2.2 λ_=>true)) (bj [(4, .box 3 0),(5, .box 4 0),(6, .box 5 0),(9, .box 6 0),(11, .box 7 0),(12, .box 8 0)]))),(λ(L:Nat->Bool)=>[.mu (aP s n cap cost), .mp [], .mu (bif L 12 then eE else cs), .mu [.box 0 0], .mu [i64 (ks:Nat)], .mu [i64 dy], .mu [.list [bW g]], .mu [i64 y,i64 x], .mu [.bool true]]) (λ_=>true),(λ(L:Nat->Bool)=>[aG ns,aH na]) (λ_=>true)⟩)(hT:T=[(0,45,λL=> .box 0 0),(1,46,λL=>i64 dy),(2,47,λL=> .box 0 0),(3,48,λL=> .box 0 0),(4,49,λL=> .box 0 0),(5,50,λL=> .box 0 0),(6,51,λL=> .list (s.bf.map k9)),(7,52,λL=>i64 (ks:Nat)),(8,53,λL=> .ro (zu (nth s.bf ks))),(9,54,λL=> .ro [i64 (nth s.bf ks).2]),(10,55,λL=>i64 (nth s.bf ks).2),(11,56,λL=> .agg [i64 y,i64 x]),(12,57,λL=> .aQ [])]:=by rfl):
  az ⟨ae,w0,S0,eG,none,own,β⟩ (.region 12 ops true) Q ⟨85,bj [(4, .box 3 0),(5, .box 4 0),(6, .box 5 0),(9, .box 6 0),(11, .box 7 0),(12, .box 8 0)],(λ(L:Nat->Bool)=>[.mu (aP s n cap cost), .mp [], .mu (bif L 12 then eE else cs), .mu [.box 0 0], .mu [i64 (ks:Nat)], .mu [i64 dy], .mu [.list [bW g]], .mu [i64 y,i64 x], .mu [.bool true]]) (λ_=>false),(λ(L:Nat->Bool)=>[aG ns,aH na]) (λ_=>false)⟩:=by
 simp only[dK,eW,fV,Ce,fB,Nat.reduceBEq,cJ,if_false,if_true,bQ,bN,bR,iy,reduceIte,eq_self]at cj;subst cj;have ba:T.map (·.1)=[0,1,2,3,4,5,6,7,8,9,10,11,12]:=by rw[hT];rfl
 have cQ:T.map (·.2.1)=[45,46,47,48,49,50,51,52,53,54,55,56,57]:=by rw[hT];rfl
 have cD:(T.map (·.1)).Nodup:=by rw[ba];decide
 have aS:(T.map (·.2.1)).Nodup:=by rw[cQ];decide
 obtain⟨b,hb⟩:∃b:Nat->D,b=bj [(4, .box 3 0),(5, .box 4 0),(6, .box 5 0),(9, .box 6 0),(11, .box 7 0),(12, .box 8 0)]:=⟨_,rfl⟩;rw[<-hb];have h0:aI (λ_=>false) (λ_=>false) T b=b:=gR (λ_ _=>rfl);rw[<-h0];refine la (c:=⟨ae,w0,S0,eG,none,own,β⟩) Tryz.ty.mixed rfl aj 85 T b (λL=>[.mu (aP s n cap cost), .mp [], .mu (bif L 12 then eE else cs), .mu [.box 0 0], .mu [i64 (ks:Nat)], .mu [i64 dy], .mu [.list [bW g]], .mu [i64 y,i64 x], .mu [.bool true]]) (λL=>[aG ns,aH na]) (λL k op hC af hL aa=> ?_) (λL hL=> ?_);rotate_left
 ·have bu:∀x∈T.map (·.1),x < 13:=by rw[ba];decide
  rw[gS (λe he=>hL _ (bu _ (gP (f:=(·.1)) he)))];rw[hT,hb];have cB:L 12=true:=hL 12 ak;simp only[bU,cB];simp only[hT,bU,cond_true]at hQ;exact hQ
 match k,af,hL,aa with
 |0,af,hL,aa=>
  cases af;have cB:=au hC hL 12 [] rfl;have hX:=an cB hL;exact aA
 |1,af,hL,aa=>
  cases af;have cB:=au hC hL 12 [] rfl;have hX:=an cB hL;exact aA
 |2,af,hL,aa=>
  cases af;have cB:=au hC hL 12 [10,9,8,6,5,4,3] rfl;have hX:=an cB hL;exact aA
 |3,af,hL,aa=>
  cases af;have d2:=aq aa 2 rfl;have cB:=au hC hL 12 [10,9,8,6,5,4] rfl;have hX:=an d2 (an cB hL);exact aA
 |4,af,hL,aa=>
  cases af;have d3:=aq aa 3 rfl;have cB:=au hC hL 12 [10,9,8,6,5] rfl;have hX:=an d3 (an cB hL);exact aA
 |5,af,hL,aa=>
  cases af;have d4:=aq aa 4 rfl;have cB:=au hC hL 12 [10,9,8,6] rfl;have hX:=an d4 (an cB hL);exact aA
 |6,af,hL,aa=>
  cases af;have d5:=aq aa 5 rfl;have cB:=au hC hL 12 [10,9,8] rfl;have hX:=an d5 (an cB hL);exact aA
 |7,af,hL,aa=>
  cases af;have cB:=au hC hL 12 [10,9,8] rfl;have hX:=an cB hL;exact aA
 |8,af,hL,aa=>
  cases af;have d6:=aq aa 6 rfl;have d7:=aq aa 7 rfl;have cB:=au hC hL 12 [10,9] rfl;have hX:=an d6 (an d7 (an cB hL));exact aA
 |9,af,hL,aa=>
  cases af;have d8:=aq aa 8 rfl;have cB:=au hC hL 12 [10] rfl;have hX:=an d8 (an cB hL);exact aA
 |10,af,hL,aa=>
  cases af;have d9:=aq aa 9 rfl;have cB:=au hC hL 12 [] rfl;have hX:=an d9 (an cB hL);exact aA
 |11,af,hL,aa=>
  cases af;have cB:=au hC hL 12 [] rfl;have hX:=an cB hL;exact aA
 |12,af,hL,aa=>
  cases af;have d0:=aq aa 0 rfl;have d1:=aq aa 1 rfl;have d10:=aq aa 10 rfl;have d11:=aq aa 11 rfl;have cB:L 12=false:=hL
  (
   have f45:=br (V:=L) (b:=b) d0 aS (show(0,45,λL=> .box 0 0)∈T by rw[hT];simp);have f46:=br (V:=L) (b:=b) d1 aS (show(1,46,λL=>i64 dy)∈T by rw[hT];simp);have f55:=br (V:=L) (b:=b) d10 aS (show(10,55,λL=>i64 (nth s.bf ks).2)∈T by rw[hT];simp);have f56:=br (V:=L) (b:=b) d11 aS (show(11,56,λL=> .agg [i64 y,i64 x])∈T by rw[hT];simp);have g12:more L 12 12=true:=rfl;have ek:aI (more L 12) (more L 12) T b=put (aI L L T b) 57 (.aQ []):=(dM hL cD aS (show(12,57,λL=> .aQ [])∈T by rw[hT];simp)).trans (by rw[<-eL (V:=L) (V':=more L 12) (by rw[hT];simp[more])];try rfl);rw[ek];try simp only[cB,g12,cond_true,cond_false,bR,bQ,bN]
   try simp only[cB,g12,cond_true,cond_false,cG,cN,dN,put,Nat.reduceEqDiff,if_true,if_false,reduceIte]at f45 f46 f55 f56
   refine aZ.sW (cC hc (by show(57:Nat) < 85;decide) rfl (by show[aI L L T b 45,aI L L T b 46,aI L L T b 55,aI L L T b 56]=_;rw[f45,f46,f55,f56]) rfl rfl ?_);rintro d aF aL ⟨rfl,rfl,rfl⟩;rw[tH (rv (by rw[hb];exact sM rfl) (by rw[hT];simp only[jf,fu,false_implies,implies_true,and_true];(repeat' apply ai)<;>exact λ_=>rfl))];exact aO.of_eq rfl)
 |k + 13,af,hL,aa=>simp at af
theorem T8 {ops:Array Oper}(cj:ops=dK Ce 13)(w0:World)(S0:Addr->Prop)(eG:MM)(own:Nat->Prop)(β:List Nat)(s:bh)(n cap ns na ks:Nat)(cost dy cw:Int)(cs:List D)(g:List ByteArray)(y x:Int)(gV:s.fl.length<=3)(ck:ax ae 88 [.agg [i64 s.to,i64 s.tf,i64 s.tm],i64 (s.fl.length + 1),i64 1] (.aQ [i64 cw,i64 0]))
  {Q:Exit->St->Prop}{T:dX}(hQ:Q .normal ⟨85,((T.foldr (λe f=>put f e.2.1 (e.2.2 λ_=>true)) (bj [(4, .box 3 0),(5, .box 4 0),(6, .box 5 0),(9, .box 6 0),(11, .box 7 0),(12, .box 8 0)]))),(λ(L:Nat->Bool)=>[.mu (aP s n cap cost), .mp [], .mu cs, .mu [.box 0 0], .mu [i64 (ks:Nat)], .mu [i64 dy], .mu [.list [bW g]], .mu [i64 y,i64 x], .mu [.bool true]]) (λ_=>true),(λ(L:Nat->Bool)=>[aG ns,aH na]) (λ_=>true)⟩)(hT:T=[(0,59,λL=> .box 0 0),(1,60,λL=> .box 0 0),(2,61,λL=> .box 0 0),(3,62,λL=> .box 0 4),(4,63,λL=> .agg [i64 s.to,i64 s.tf,i64 s.tm]),(5,64,λL=> .box 0 0),(6,65,λL=> .box 0 0),(7,66,λL=> .box 0 0),(8,67,λL=> .box 0 1),(9,68,λL=> .box 0 1),(10,69,λL=> .list (s.fl.map jy)),(11,70,λL=>i64 s.fl.length),(12,71,λL=>i64 (s.fl.length + 1)),(13,72,λL=> .list [bW g]),(14,73,λL=>i64 1),(15,74,λL=> .aQ [i64 cw,i64 0]),(16,58,λL=> .aQ [i64 cw,i64 0]),(17,75,λL=>i64 cw),(18,76,λL=>i64 0),(19,14,λL=>i64 cw),(20,15,λL=>i64 0)]:=by rfl):
  az ⟨ae,w0,S0,eG,none,own,β⟩ (.region 13 ops true) Q ⟨85,bj [(4, .box 3 0),(5, .box 4 0),(6, .box 5 0),(9, .box 6 0),(11, .box 7 0),(12, .box 8 0)],(λ(L:Nat->Bool)=>[.mu (aP s n cap cost), .mp [], .mu cs, .mu [.box 0 0], .mu [i64 (ks:Nat)], .mu [i64 dy], .mu [.list [bW g]], .mu [i64 y,i64 x], .mu [.bool true]]) (λ_=>false),(λ(L:Nat->Bool)=>[aG ns,aH na]) (λ_=>false)⟩:=by
 simp only[dK,eW,fV,Ce,fB,Nat.reduceBEq,cJ,if_false,if_true,bQ,bN,bR,iy,reduceIte,eq_self]at cj;subst cj;have ba:T.map (·.1)=[0,1,2,3,4,5,6,7,8,9,10,11,12,13,14,15,16,17,18,19,20]:=by rw[hT];rfl
 have cQ:T.map (·.2.1)=[59,60,61,62,63,64,65,66,67,68,69,70,71,72,73,74,58,75,76,14,15]:=by rw[hT];rfl
 have cD:(T.map (·.1)).Nodup:=by rw[ba];decide
 have aS:(T.map (·.2.1)).Nodup:=by rw[cQ];decide
 obtain⟨b,hb⟩:∃b:Nat->D,b=bj [(4, .box 3 0),(5, .box 4 0),(6, .box 5 0),(9, .box 6 0),(11, .box 7 0),(12, .box 8 0)]:=⟨_,rfl⟩;rw[<-hb];have h0:aI (λ_=>false) (λ_=>false) T b=b:=gR (λ_ _=>rfl);rw[<-h0];refine la (c:=⟨ae,w0,S0,eG,none,own,β⟩) Tryz.ty.mixed rfl aj 85 T b (λL=>[.mu (aP s n cap cost), .mp [], .mu cs, .mu [.box 0 0], .mu [i64 (ks:Nat)], .mu [i64 dy], .mu [.list [bW g]], .mu [i64 y,i64 x], .mu [.bool true]]) (λL=>[aG ns,aH na]) (λL k op hC af hL aa=> ?_) (λL hL=> ?_);rotate_left
 ·have bu:∀x∈T.map (·.1),x < 21:=by rw[ba];decide
  rw[gS (λe he=>hL _ (bu _ (gP (f:=(·.1)) he)))];rw[hT,hb];simp only[bU,eq_self];simp only[hT,bU,cond_true]at hQ;exact hQ
 match k,af,hL,aa with
 |0,af,hL,aa=>
  cases af;have hX:=hL;exact aA
 |1,af,hL,aa=>
  cases af;have d0:=aq aa 0 rfl;have hX:=an d0 hL;exact aA
 |2,af,hL,aa=>
  cases af;have d1:=aq aa 1 rfl;have hX:=an d1 hL;exact aA
 |3,af,hL,aa=>
  cases af;have d2:=aq aa 2 rfl;have hX:=an d2 hL;exact aA
 |4,af,hL,aa=>
  cases af;have d3:=aq aa 3 rfl;have hX:=an d3 hL;exact aA
 |5,af,hL,aa=>
  cases af;have hX:=hL;exact aA
 |6,af,hL,aa=>
  cases af;have d5:=aq aa 5 rfl;have hX:=an d5 hL;exact aA
 |7,af,hL,aa=>
  cases af;have d6:=aq aa 6 rfl;have hX:=an d6 hL;exact aA
 |8,af,hL,aa=>
  cases af;have d7:=aq aa 7 rfl;have hX:=an d7 hL;exact aA
 |9,af,hL,aa=>
  cases af;have d8:=aq aa 8 rfl;have hX:=an d8 hL;exact aA
 |10,af,hL,aa=>
  cases af;have d9:=aq aa 9 rfl;have hX:=an d9 hL;exact aA
 |11,af,hL,aa=>
  cases af;have d10:=aq aa 10 rfl;have hX:=an d10 hL;exact aA
 |12,af,hL,aa=>
  cases af;have d11:=aq aa 11 rfl;have hX:=an d11 hL;exact aA
 |13,af,hL,aa=>
  cases af;have hX:=hL;exact aA
 |14,af,hL,aa=>
  cases af;have d13:=aq aa 13 rfl;have hX:=an d13 hL;exact aA
 |15,af,hL,aa=>
  cases af;have d4:=aq aa 4 rfl;have d12:=aq aa 12 rfl;have d14:=aq aa 14 rfl
  (
   have f63:=br (V:=L) (b:=b) d4 aS (show(4,63,λL=> .agg [i64 s.to,i64 s.tf,i64 s.tm])∈T by rw[hT];simp);have f71:=br (V:=L) (b:=b) d12 aS (show(12,71,λL=>i64 (s.fl.length + 1))∈T by rw[hT];simp);have f73:=br (V:=L) (b:=b) d14 aS (show(14,73,λL=>i64 1)∈T by rw[hT];simp);have ek:aI (more L 15) (more L 15) T b=put (aI L L T b) 74 (.aQ [i64 cw,i64 0]):=(dM hL cD aS (show(15,74,λL=> .aQ [i64 cw,i64 0])∈T by rw[hT];simp)).trans (by rw[<-eL (V:=L) (V':=more L 15) (by rw[hT];simp[more])];try rfl);rw[ek];try simp only[eq_self,cond_true,cond_false,bR,bQ,bN]
   try simp only[eq_self,cond_true,cond_false,cG,cN,dN,put,Nat.reduceEqDiff,if_true,if_false,reduceIte]at f63 f71 f73
   refine aZ.rE rfl ?_
   (refine sX (ai @f63 (ai @f71 @f73)) ?_;try exact trivial)
   refine bl ck ?_
   (refine av ?_;try exact trivial)
   exact aO.of_eq rfl)
 |16,af,hL,aa=>
  cases af;have d15:=aq aa 15 rfl;have hX:=an d15 hL;exact aA
 |17,af,hL,aa=>
  cases af;have d16:=aq aa 16 rfl;have hX:=an d16 hL;exact aA
 |18,af,hL,aa=>
  cases af;have d16:=aq aa 16 rfl;have hX:=an d16 hL;exact aA
 |19,af,hL,aa=>
  cases af;have d17:=aq aa 17 rfl;have hX:=an d17 hL;exact aA
 |20,af,hL,aa=>
  cases af;have d18:=aq aa 18 rfl;have hX:=an d18 hL;exact aA
 |k + 21,af,hL,aa=>simp at af
theorem T_ (s:bh)(n cap ns na ks:Nat)(cost dy:Int)(cs U:List D)(W R:Nat)(sl:Int)(S:List dJ)(g:List ByteArray)(y x:Int)(bD:s.bf.length<=100)(hk:ks < s.bf.length)(iC:0<=s.dy/\s.dy<=100)(hr:0<=dy/\dy<=s.dy - 1)(aE:∀d∈cs,Names 0 0 d)(hd:cs.drop (dy.toNat * 4)=i64 (W:Nat)::i64 (R:Nat)::i64 sl:: .list (S.map ft)::U)(bE:cs.length=cap * 4)(hn:n<=cap)(eh:n<=100)(mf:dy < n)(hS:S.length < 12)(l:List (List Int))(hl:l.length=2)(qQ:0 < (nth l 0).length/\(nth l 0).length<=100000)(kZ:0 < (nth l 1).length/\(nth l 1).length<=100000)(fH:nth (nth l 0) 0=y)(G':nth (nth l 1) 0=x)(iB:y < x)(hy:0<=y/\x<=99999)(hg:g.length<=100)(cw:Int)(hcw:0<=cw/\cw<=1000000000000)(hco:0<=cost/\cost<=1000000000000)(gV:s.fl.length<=3)(DB:na < 60)
  (hM:jH W R sl (S++[⟨(nth s.bf ks).2,y,x⟩]))(hC:rb W sl (S++[⟨(nth s.bf ks).2,y,x⟩]))(ck:ax ae 261 [.agg (nG s.fl s.tu s.mo), .list [bW g]] (.aQ [.list (l.map ints), .int .i64 0]))(cc:ax ae 88 [.agg [i64 s.to,i64 s.tf,i64 s.tm],i64 (s.fl.length + 1),i64 1] (.aQ [i64 cw,i64 0])):
  aT ae 205 [.box 0 0,i64 (ks:Nat),i64 dy, .list [bW g]] [.mu (aP s n cap cost), .mp [], .mu cs] [aG ns,aH na] (bw (i64 0) [.mu (aP s n cap (cost + cw)), .mp [], .mu (cs.take (dy.toNat * 4)++eQ W R sl (S++[⟨(nth s.bf ks).2,y,x⟩])++U)] [aG ns,aH (na + 1)]):=by
 have dC:∀nb nr,db nb nr cs=true:=λnb nr=>iz λd hd=>jA (aE d hd);have yJ:cs.map (gI 1)=cs:=Aw aE;have q1:=mr (nr:=2) [.mu [.box 0 0], .mu [.aD 260 [.box 3 0, .box 4 0, .box 5 0, .box 6 0, .box 7 0, .box 8 0]], .mu [.aD 262 [.box 3 0, .box 5 0]], .mu [.aD 263 [.box 8 0, .box 3 0, .box 5 0, .box 4 0, .box 7 0]]] (Ue s n cap ns na ks cost dy cs U W R sl S g y x bD hk iC hr aE 0 0 false l hl qQ kZ fH G' iB ag ck) rfl (by simp only[bZ,dC];rfl) (by simp only[bZ,dC];rfl) rfl rfl rfl;have q2:=mr (nr:=2) [.mu [.box 0 0], .mu [.aD 260 [.box 3 0, .box 4 0, .box 5 0, .box 6 0, .box 7 0, .box 8 0]], .mu [.aD 262 [.box 3 0, .box 5 0]], .mu [.aD 263 [.box 8 0, .box 3 0, .box 5 0, .box 4 0, .box 7 0]]] (Uc s n cap ns na ks cost dy cs U W R sl S g y x bD hk iC hr aE hd bE hn eh mf hS) rfl (by simp only[bZ,dC];rfl) (by simp only[bZ,dC];rfl) rfl rfl rfl;have p0:=mr (nr:=2) [.mu [.box 0 0], .mu [i64 (ks:Nat)], .mu [i64 dy], .mu [.list [bW g]], .mu [i64 y,i64 x], .mu [.bool true]] (Oj s n cap ns na cost dy (nth s.bf ks).2 y x cs U W R sl S aE hd bE hn eh ⟨hr.1,mf⟩ ag hM hC) rfl (by simp only[bZ,dC];rfl) (by simp only[bZ,dC];rfl) rfl rfl rfl;have q3:=mr (nr:=2) [.mu [.box 0 0], .mu [.aD 260 [.box 3 0, .box 4 0, .box 5 0, .box 6 0, .box 7 0, .box 8 0]], .mu [.aD 262 [.box 3 0, .box 5 0]], .mu [.aD 263 [.box 8 0, .box 3 0, .box 5 0, .box 4 0, .box 7 0]]] (Ub s n cap ns na ks cost dy cs U W R sl S g y x bD hk iC hr aE p0) rfl (by simp only[bZ,dC];rfl) (by simp only[bZ,dC];rfl) rfl rfl rfl;have c1:=UI s n cap cost (.mp []) (.mu cs) (.mu [.box 0 0]) (.mu [i64 (ks:Nat)]) (.mu [i64 dy]) (.mu [.list [bW g]]) (.mu [i64 0,i64 0]) (.mu [.bool false]) (.mp []) (.mu cs) (.mu [.box 0 0]) (.mu [i64 (ks:Nat)]) (.mu [i64 dy]) (.mu [.list [bW g]]) (.mu [i64 y,i64 x]) (.mu [.bool true]) ns na DB 260 262 263 [.box 3 0, .box 4 0, .box 5 0, .box 6 0, .box 7 0, .box 8 0] [.box 3 0, .box 5 0] [.box 8 0, .box 3 0, .box 5 0, .box 4 0, .box 7 0] (by simp only[bZ,dC];rfl) (by simp only[bZ,dC];rfl) (by simp only[jI,pq,iT,yJ];rfl) q1 q2 q3;have nf:=Rw (pt:=(nth s.bf ks).2) (lo:=y) (hi:=x) aE hd;have c2:=N5 s n cap ns (na + 1) cost dy (nth s.bf ks).2 y x cs U W R sl S aE hd bE hn eh ⟨hr.1,mf⟩ ag;generalize cs.take (dy.toNat * 4)++eQ W R sl (S++[⟨(nth s.bf ks).2,y,x⟩])++U=eE at nf c2⊢;have rW:∀nb nr,db nb nr eE=true:=λnb nr=>iz λd hd=>jA (nf d hd);have c2:=mr (nr:=2) [.mu [.box 0 0], .mu [i64 (ks:Nat)], .mu [i64 dy], .mu [.list [bW g]], .mu [i64 y,i64 x], .mu [.bool true]] c2 rfl (by simp only[bZ,dC];rfl) (by simp only[bZ,rW];rfl) rfl rfl rfl;have c3:=aee g ag;refine og ?_ rfl (by simp only[bZ,rW];rfl) (cx _);refine cV func205 ntmps205 results205 call205 rfl ay λW0 S0 M0 own β hβ=> ?_;repeat'(first|(show az _ (.region 1 _ _) _ _;refine eo 1 rfl (λK1 aK=> ?_);refine av ?_)|(refine aK _ (cC (aej g [.mu (aP s n cap cost), .mp [], .mu cs, .mu [.box 0 0], .mu [i64 (ks:Nat)], .mu [i64 dy]] [aG ns,aH na]) (by show(17:Nat) < 85;decide) rfl rfl rfl rfl ?_);clear aK K1;rintro d aF aL ⟨m',cp,r6,rfl,rfl,rfl⟩;simp only[bF,Nat.reduceAdd];refine av ?_)|(show az _ (.loop _) _ _;refine lJ 2 ?_)|(refine lp ?_)|(show az _ (.region 5 _ true) _ _;refine b_ ?_)|refine aB ?_|refine aC λK hK=> ?_|(refine kA ?_;clear hK K)|(intro hg;try exact aw)|exact fin|apply ai)
 refine cI ?_;refine eI (jZ [(4, .box 3 0),(5, .box 4 0),(6, .box 5 0),(9, .box 7 0),(10,i64 0),(19,i64 1),(20,i64 0)] (by simp[put])) ?_;refine T7 (by rfl) W0 S0 M0 own β s n cap ns na ks cp cost dy cs (bP m' .undef) g r6 c3 ?_;simp only[bU,cond_true,dn,cF,bR,bQ];repeat'(first|(refine lp ?_)|(show az _ (.region 7 _ _) _ _;refine b_ ?_)|refine aB ?_|refine aC λK hK=> ?_|(refine kA ?_;clear hK K)|(intro hg;try exact aw)|exact fin|apply ai)
 all_goals refine cI ?_
 refine eI (jZ [(4, .box 3 0),(5, .box 4 0),(6, .box 5 0),(9, .box 7 0)] (by simp[put])) ?_;refine eI (aO.freeze 6 rfl (acC _ _ _ _)) ?_;refine eI (aO.R5 7 0 6 (ys:=[bW g]) (U:=bP m' .undef) (cap:=cp) (sz:=1) rfl rfl rfl (QH g) r6) ?_;refine eI (An [0,1,2,3,4,5,7] (l':=[(4, .box 3 0),(5, .box 4 0),(6, .box 5 0),(9, .box 6 0)]) (aF:=[.mu (aP s n cap cost), .mp [], .mu cs, .mu [.box 0 0], .mu [i64 (ks:Nat)], .mu [i64 dy], .mu [.list [bW g]]]) ak (Dm (k:=3) (by rw[hβ];rfl) ak) rfl ?_) ?_
 ·have e:fW (pos [0,1,2,3,4,5,7] 0) cs=cs:=As aE;simp only[jY,List.set,jI,pq,List.getElem?_cons_zero,List.getElem?_cons_succ,gH,e];rfl
 simp only[cG,cN];repeat'(first|(show az _ (.region 12 _ true) _ _;refine b_ ?_)|(show az _ (.region 9 _ _) _ _;refine eo 9 rfl (λK1 aK=> ?_);refine av ?_)|(refine aK _ (cC c1 (by show(41:Nat) < 85;decide) rfl rfl rfl rfl ?_);clear aK K1;rintro d aF aL ⟨rfl,rfl,rfl⟩;simp only[bF,Nat.reduceAdd];refine av ?_)|refine aB ?_|refine aC λK hK=> ?_|(refine kA ?_;clear hK K)|(intro hg;try exact aw)|exact fin|apply ai)
 all_goals refine cI ?_
 refine eI (jZ [(4, .box 3 0),(5, .box 4 0),(6, .box 5 0),(9, .box 6 0),(11, .box 7 0),(12, .box 8 0)] (by simp[put])) ?_;refine T9 (by rfl) W0 S0 M0 own β s n cap ns (na + 1) ks cost dy cs eE g y x hk bD c2 ?_;simp only[bU,cond_true,dn,cF];repeat'(first|(show az _ (.region 13 _ true) _ _;refine b_ ?_)|refine aB ?_|refine aC λK hK=> ?_|(refine kA ?_;clear hK K)|(intro hg;try exact aw)|exact fin|apply ai)
 all_goals refine cI ?_
 refine eI (jZ [(4, .box 3 0),(5, .box 4 0),(6, .box 5 0),(9, .box 6 0),(11, .box 7 0),(12, .box 8 0)] (by simp[put,cG,cN])) ?_;refine T8 (by rfl) W0 S0 M0 own β s n cap ns (na + 1) ks cost dy cw eE g y x gV cc ?_;simp only[bU,cond_true,dn,cF];repeat'(first|(show cT _ _ _ _ _;refine av ?_)|refine aB ?_|refine aC λK hK=> ?_|(refine kA ?_;clear hK K)|(intro hg;try exact aw)|exact fin|apply ai)
 all_goals first|exact⟨[],rfl⟩|exact⟨_,rfl⟩|trace_state
theorem ZR {cs U:List D}{W R:Nat}{sl:Int}{S:List dJ}{j:Nat}(hd:cs.drop (j * 4)=eQ W R sl S++U):((cs.drop (0 + j * 4)).take 4)=eQ W R sl S:=by
 rw[Nat.zero_add,hd];rfl
theorem Zo (s:bh)(n cap:Nat)(cost day:Int)(cs U:List D)(W R:Nat)(sl:Int)(S:List dJ)(ns na:Nat)(aE:∀d∈cs,Names 0 0 d)(iC:0<=s.dy/\s.dy<=100)(hr:0<=day/\day<=s.dy - 1)(hd:cs.drop (day.toNat * 4)=eQ W R sl S++U)(bE:cs.length=cap * 4)(hn:n<=cap)(eh:n<=100)(mf:day < n):
  aT ae 270 [.box 0 0,i64 day] [.mu (aP s n cap cost), .mp [], .mu cs] [aG ns,aH na] (bw (.aQ [.agg (eQ W R sl S),i64 0]) [.mu (aP s n cap cost), .mp [], .mu cs] [aG ns,aH na]):=by
 have dC:∀nb nr,db nb nr cs=true:=λnb nr=>iz λd hd=>jA (aE d hd);have h4:=ZR hd;have hlen:day.toNat * 4 + 4<=cs.length:=ag;have c1:=AJ s (.a_ 2 0 n cap) (.own 0) (.bz 1) cost (.own 1) [.mp [], .mu cs, .mu [i64 0,i64 0,i64 0, .val (.slice none 0 0)]] [aG ns,aH na];have c2:=Gv s (.a_ 2 0 n cap) (.own 0) (.bz 1) cost (.own 1) iC day [.mp [], .mu cs, .mu [i64 0,i64 0,i64 0, .val (.slice none 0 0)]] [aG ns,aH na];rw[decide_eq_true hr]at c2;refine og ?_ rfl (by simp only[bZ,dC];rfl) (cx _);refine cV func270 ntmps270 results270 call270 rfl ay λW0 S0 M0 own β hβ=> ?_;repeat'(first|(show az _ (.region 1 _ _) _ _;refine eo 1 rfl (λK1 aK=> ?_);refine av ?_)|(refine aK _ (cC c1 (by show(7:Nat) < 21;decide) rfl rfl rfl rfl ?_);clear aK K1;rintro d aF aL ⟨rfl,rfl,rfl⟩;simp only[bF,Nat.reduceAdd];refine av ?_)|(show az _ (.region 3 _ _) _ _;refine eo 2 rfl (λK2 n5=> ?_);refine av ?_)|(refine n5 _ (cC c2 (by show(11:Nat) < 21;decide) rfl rfl rfl rfl ?_);clear n5 K2;rintro d aF aL ⟨rfl,rfl,rfl⟩;simp only[bF,Nat.reduceAdd];refine av ?_)|(show cT _ _ _ _ _;refine av ?_)|refine aB ?_|refine aC λK hK=> ?_|(refine kA ?_;clear hK K)|(intro hg;try exact aw)|exact fin|apply ai)
 all_goals first
  |(rw[List.length_drop];omega)
  |(simp only[h4];rfl)
  |(simp only[h4];exact cx _)
  |exact⟨[],rfl⟩
  |exact⟨_,rfl⟩
  |trace_state
theorem aeq (s:bh)(n cap:Nat)(cost day:Int)(cs U:List D)(W R:Nat)(sl:Int)(S:List dJ)(ns na:Nat)(aE:∀d∈cs,Names 0 0 d)(iC:0<=s.dy/\s.dy<=100)(hr:0<=day/\day<=s.dy - 1)(hd:cs.drop (day.toNat * 4)=eQ W R sl S++U)(bE:cs.length=cap * 4)(hn:n<=cap)(eh:n<=100)(mf:day < n)(hM:jH W R sl S)(hC:rb W sl S):
  aT ae 208 [.box 0 0,i64 day] [.mu (aP s n cap cost), .mp [], .mu cs] [aG ns,aH na] (bw (.aQ [.agg [i64 (W:Nat),ints (pS W sl S (W * R))],i64 0]) [.mu (aP s n cap cost), .mp [], .mu cs] [aG ns,aH na]):=by
 have dC:∀nb nr,db nb nr cs=true:=λnb nr=>iz λd hd=>jA (aE d hd);have c1:=mr (nr:=2) [.mu [i64 0, .val (.slice none 0 0)]] (Zo s n cap cost day cs U W R sl S ns na aE iC hr hd bE hn eh mf) rfl (by simp only[bZ,dC];rfl) (by simp only[bZ,dC];rfl) rfl rfl rfl;have c2:=Rm W R sl S hM hC;refine og ?_ rfl (by simp only[bZ,dC];rfl) (cx _);refine cV func208 ntmps208 results208 call208 rfl ay λW0 S0 M0 own β hβ=> ?_;repeat'(first|(show az _ (.region 1 _ _) _ _;refine eo 2 rfl (λK1 aK=> ?_);refine av ?_)|(refine aK _ (cC c1 (by show(11:Nat) < 22;decide) rfl rfl rfl rfl ?_);clear aK K1;rintro d aF aL ⟨rfl,rfl,rfl⟩;simp only[bF,Nat.reduceAdd];refine av ?_)|(show cT _ _ _ _ _;refine av ?_)|refine aB ?_|refine aC λK hK=> ?_|refine cA (c2) ?_|(refine kA ?_;clear hK K)|(intro hg;try exact aw)|exact fin|apply ai)
 all_goals first
  |exact⟨[],rfl⟩
  |exact⟨_,rfl⟩
  |trace_state
theorem aew {ops:Array Oper}(cj:ops=dK Tryz.f138 1)(w0:World)(S0:Addr->Prop)(eG:MM)(own:Nat->Prop)(β:List Nat)(s:bh)(n cap ns na:Nat)(cost kf:Int)(cs eE:List D)(ar:List Int)(g:List ByteArray)(yW:ar.length=11)(hc:aT ae 204 [.box 0 0,i64 (nth ar 0), .agg [i64 (nth ar 1),i64 (nth ar 2),i64 (nth ar 3),i64 (nth ar 4),i64 (nth ar 5),i64 (nth ar 6),i64 (nth ar 7),i64 (nth ar 8),i64 (nth ar 9),i64 (nth ar 10)]] [.mu (aP s n cap cost), .mp [], .mu cs] [aG ns,aH na] (bw (i64 0) [.mu (aP s n cap kf), .mp [], .mu eE] [aG ns,aH (na + 1)]))
  {Q:Exit->St->Prop}{T:dX}(hQ:Q .normal ⟨47,((T.foldr (λe f=>put f e.2.1 (e.2.2 λ_=>true)) (bj [(0, .box 0 0),(1,ints ar),(2, .list []),(6, .val (.slice none 0 0)),(7,i64 0)]))),(λ(L:Nat->Bool)=>[.mu (aP s n cap (bif L 38 then kf else cost)), .mp [], .mu (bif L 38 then eE else cs)]) (λ_=>true),(λ(L:Nat->Bool)=>[aG ns,bif L 38 then aH (na + 1)else aH na]) (λ_=>true)⟩)(hT:T=[(0,8,λL=> .box 0 0),(1,9,λL=>ints ar),(2,10,λL=> .ro [i64 (nth ar 0)]),(3,11,λL=>i64 (nth ar 0)),(4,12,λL=>ints ar),(5,13,λL=> .ro [i64 (nth ar 1)]),(6,14,λL=>i64 (nth ar 1)),(7,15,λL=>ints ar),(8,16,λL=> .ro [i64 (nth ar 2)]),(9,17,λL=>i64 (nth ar 2)),(10,18,λL=>ints ar),(11,19,λL=> .ro [i64 (nth ar 3)]),(12,20,λL=>i64 (nth ar 3)),(13,21,λL=>ints ar),(14,22,λL=> .ro [i64 (nth ar 4)]),(15,23,λL=>i64 (nth ar 4)),(16,24,λL=>ints ar),(17,25,λL=> .ro [i64 (nth ar 5)]),(18,26,λL=>i64 (nth ar 5)),(19,27,λL=>ints ar),(20,28,λL=> .ro [i64 (nth ar 6)]),(21,29,λL=>i64 (nth ar 6)),(22,30,λL=> .agg [i64 (nth ar 5),i64 (nth ar 6)]),(23,31,λL=>ints ar),(24,32,λL=> .ro [i64 (nth ar 7)]),(25,33,λL=>i64 (nth ar 7)),(26,34,λL=>ints ar),(27,35,λL=> .ro [i64 (nth ar 8)]),(28,36,λL=>i64 (nth ar 8)),(29,37,λL=> .agg [i64 (nth ar 7),i64 (nth ar 8)]),(30,38,λL=>ints ar),(31,39,λL=> .ro [i64 (nth ar 9)]),(32,40,λL=>i64 (nth ar 9)),(33,41,λL=>ints ar),(34,42,λL=> .ro [i64 (nth ar 10)]),(35,43,λL=>i64 (nth ar 10)),(36,44,λL=> .agg [i64 (nth ar 9),i64 (nth ar 10)]),(37,45,λL=> .agg [i64 (nth ar 1),i64 (nth ar 2),i64 (nth ar 3),i64 (nth ar 4),i64 (nth ar 5),i64 (nth ar 6),i64 (nth ar 7),i64 (nth ar 8),i64 (nth ar 9),i64 (nth ar 10)]),(38,46,λL=>i64 0),(39,6,λL=> .val (.slice none 0 0)),(40,7,λL=>i64 0)]:=by rfl):
  az ⟨ae,w0,S0,eG,none,own,β⟩ (.region 1 ops true) Q ⟨47,bj [(0, .box 0 0),(1,ints ar),(2, .list []),(6, .val (.slice none 0 0)),(7,i64 0)],(λ(L:Nat->Bool)=>[.mu (aP s n cap (bif L 38 then kf else cost)), .mp [], .mu (bif L 38 then eE else cs)]) (λ_=>false),(λ(L:Nat->Bool)=>[aG ns,bif L 38 then aH (na + 1)else aH na]) (λ_=>false)⟩:=by
 simp only[dK,eW,fV,Tryz.f138,fB,Nat.reduceBEq,cJ,if_false,if_true,bQ,bN,bR,iy,reduceIte,eq_self]at cj;subst cj;have ba:T.map (·.1)=[0,1,2,3,4,5,6,7,8,9,10,11,12,13,14,15,16,17,18,19,20,21,22,23,24,25,26,27,28,29,30,31,32,33,34,35,36,37,38,39,40]:=by rw[hT];rfl
 have cQ:T.map (·.2.1)=[8,9,10,11,12,13,14,15,16,17,18,19,20,21,22,23,24,25,26,27,28,29,30,31,32,33,34,35,36,37,38,39,40,41,42,43,44,45,46,6,7]:=by rw[hT];rfl
 have cD:(T.map (·.1)).Nodup:=by rw[ba];decide
 have aS:(T.map (·.2.1)).Nodup:=by rw[cQ];decide
 obtain⟨b,hb⟩:∃b:Nat->D,b=bj [(0, .box 0 0),(1,ints ar),(2, .list []),(6, .val (.slice none 0 0)),(7,i64 0)]:=⟨_,rfl⟩;rw[<-hb];have h0:aI (λ_=>false) (λ_=>false) T b=b:=gR (λ_ _=>rfl);rw[<-h0];refine la (c:=⟨ae,w0,S0,eG,none,own,β⟩) Tryz.ty.mixed rfl aj 47 T b (λL=>[.mu (aP s n cap (bif L 38 then kf else cost)), .mp [], .mu (bif L 38 then eE else cs)]) (λL=>[aG ns,bif L 38 then aH (na + 1)else aH na]) (λL k op hC af hL aa=> ?_) (λL hL=> ?_);rotate_left
 ·have bu:∀x∈T.map (·.1),x < 41:=by rw[ba];decide
  rw[gS (λe he=>hL _ (bu _ (gP (f:=(·.1)) he)))];rw[hT,hb];have bY:L 38=true:=hL 38 ak;simp only[bU,bY];simp only[hT,bU,cond_true]at hQ;exact hQ
 match k,af,hL,aa with
 |0,af,hL,aa=>
  cases af;have bY:=au hC hL 38 [] rfl;have hX:=an bY hL;exact aA
 |1,af,hL,aa=>
  cases af;have bY:=au hC hL 38 [3,2] rfl;have hX:=an bY hL;exact aA
 |2,af,hL,aa=>
  cases af;have d1:=aq aa 1 rfl;have bY:=au hC hL 38 [3] rfl;have hX:=an d1 (an bY hL);exact aA
 |3,af,hL,aa=>
  cases af;have d2:=aq aa 2 rfl;have bY:=au hC hL 38 [] rfl;have hX:=an d2 (an bY hL);exact aA
 |4,af,hL,aa=>
  cases af;have bY:=au hC hL 38 [37,6,5] rfl;have hX:=an bY hL;exact aA
 |5,af,hL,aa=>
  cases af;have d4:=aq aa 4 rfl;have bY:=au hC hL 38 [37,6] rfl;have hX:=an d4 (an bY hL);exact aA
 |6,af,hL,aa=>
  cases af;have d5:=aq aa 5 rfl;have bY:=au hC hL 38 [37] rfl;have hX:=an d5 (an bY hL);exact aA
 |7,af,hL,aa=>
  cases af;have bY:=au hC hL 38 [37,9,8] rfl;have hX:=an bY hL;exact aA
 |8,af,hL,aa=>
  cases af;have d7:=aq aa 7 rfl;have bY:=au hC hL 38 [37,9] rfl;have hX:=an d7 (an bY hL);exact aA
 |9,af,hL,aa=>
  cases af;have d8:=aq aa 8 rfl;have bY:=au hC hL 38 [37] rfl;have hX:=an d8 (an bY hL);exact aA
 |10,af,hL,aa=>
  cases af;have bY:=au hC hL 38 [37,12,11] rfl;have hX:=an bY hL;exact aA
 |11,af,hL,aa=>
  cases af;have d10:=aq aa 10 rfl;have bY:=au hC hL 38 [37,12] rfl;have hX:=an d10 (an bY hL);exact aA
 |12,af,hL,aa=>
  cases af;have d11:=aq aa 11 rfl;have bY:=au hC hL 38 [37] rfl;have hX:=an d11 (an bY hL);exact aA
 |13,af,hL,aa=>
  cases af;have bY:=au hC hL 38 [37,15,14] rfl;have hX:=an bY hL;exact aA
 |14,af,hL,aa=>
  cases af;have d13:=aq aa 13 rfl;have bY:=au hC hL 38 [37,15] rfl;have hX:=an d13 (an bY hL);exact aA
 |15,af,hL,aa=>
  cases af;have d14:=aq aa 14 rfl;have bY:=au hC hL 38 [37] rfl;have hX:=an d14 (an bY hL);exact aA
 |16,af,hL,aa=>
  cases af;have bY:=au hC hL 38 [37,22,18,17] rfl;have hX:=an bY hL;exact aA
 |17,af,hL,aa=>
  cases af;have d16:=aq aa 16 rfl;have bY:=au hC hL 38 [37,22,18] rfl;have hX:=an d16 (an bY hL);exact aA
 |18,af,hL,aa=>
  cases af;have d17:=aq aa 17 rfl;have bY:=au hC hL 38 [37,22] rfl;have hX:=an d17 (an bY hL);exact aA
 |19,af,hL,aa=>
  cases af;have bY:=au hC hL 38 [37,22,21,20] rfl;have hX:=an bY hL;exact aA
 |20,af,hL,aa=>
  cases af;have d19:=aq aa 19 rfl;have bY:=au hC hL 38 [37,22,21] rfl;have hX:=an d19 (an bY hL);exact aA
 |21,af,hL,aa=>
  cases af;have d20:=aq aa 20 rfl;have bY:=au hC hL 38 [37,22] rfl;have hX:=an d20 (an bY hL);exact aA
 |22,af,hL,aa=>
  cases af;have d18:=aq aa 18 rfl;have d21:=aq aa 21 rfl;have bY:=au hC hL 38 [37] rfl
  (
   have f26:=br (V:=L) (b:=b) d18 aS (show(18,26,λL=>i64 (nth ar 5))∈T by rw[hT];simp);have f29:=br (V:=L) (b:=b) d21 aS (show(21,29,λL=>i64 (nth ar 6))∈T by rw[hT];simp);have n8:more L 22 38=L 38:=rfl;have ek:aI (more L 22) (more L 22) T b=put (aI L L T b) 30 (.agg [i64 (nth ar 5),i64 (nth ar 6)]):=(dM hL cD aS (show(22,30,λL=> .agg [i64 (nth ar 5),i64 (nth ar 6)])∈T by rw[hT];simp)).trans (by rw[<-eL (V:=L) (V':=more L 22) (by rw[hT];simp[more])];try rfl);rw[ek];try simp only[bY,n8,cond_true,cond_false,bR,bQ,bN]
   try simp only[bY,n8,cond_true,cond_false,cG,cN,dN,put,Nat.reduceEqDiff,if_true,if_false,reduceIte]at f26 f29
   refine aZ.of ?_
   (refine sX (ai @f26 (ai @f29 (ai @s6 @s0))) ?_;try exact trivial)
   first|exact aO.of_eq rfl|exact⟨by assumption,aO.of_eq rfl⟩|exact⟨ag,ag,aO.of_eq rfl⟩|exact⟨ak,aO.of_eq rfl⟩|exact⟨_,rfl,rfl,aO.of_eq rfl⟩|exact⟨wk ag ag,aO.of_eq rfl⟩|(refine⟨?_, ?_⟩<;>first|exact aO.of_eq rfl|omega|rfl)|skip)
 |23,af,hL,aa=>
  cases af;have bY:=au hC hL 38 [37,29,25,24] rfl;have hX:=an bY hL;exact aA
 |24,af,hL,aa=>
  cases af;have d23:=aq aa 23 rfl;have bY:=au hC hL 38 [37,29,25] rfl;have hX:=an d23 (an bY hL);exact aA
 |25,af,hL,aa=>
  cases af;have d24:=aq aa 24 rfl;have bY:=au hC hL 38 [37,29] rfl;have hX:=an d24 (an bY hL);exact aA
 |26,af,hL,aa=>
  cases af;have bY:=au hC hL 38 [37,29,28,27] rfl;have hX:=an bY hL;exact aA
 |27,af,hL,aa=>
  cases af;have d26:=aq aa 26 rfl;have bY:=au hC hL 38 [37,29,28] rfl;have hX:=an d26 (an bY hL);exact aA
 |28,af,hL,aa=>
  cases af;have d27:=aq aa 27 rfl;have bY:=au hC hL 38 [37,29] rfl;have hX:=an d27 (an bY hL);exact aA
 |29,af,hL,aa=>
  cases af;have d25:=aq aa 25 rfl;have d28:=aq aa 28 rfl;have bY:=au hC hL 38 [37] rfl
  (
   have f33:=br (V:=L) (b:=b) d25 aS (show(25,33,λL=>i64 (nth ar 7))∈T by rw[hT];simp);have f36:=br (V:=L) (b:=b) d28 aS (show(28,36,λL=>i64 (nth ar 8))∈T by rw[hT];simp);have n8:more L 29 38=L 38:=rfl;have ek:aI (more L 29) (more L 29) T b=put (aI L L T b) 37 (.agg [i64 (nth ar 7),i64 (nth ar 8)]):=(dM hL cD aS (show(29,37,λL=> .agg [i64 (nth ar 7),i64 (nth ar 8)])∈T by rw[hT];simp)).trans (by rw[<-eL (V:=L) (V':=more L 29) (by rw[hT];simp[more])];try rfl);rw[ek];try simp only[bY,n8,cond_true,cond_false,bR,bQ,bN]
   try simp only[bY,n8,cond_true,cond_false,cG,cN,dN,put,Nat.reduceEqDiff,if_true,if_false,reduceIte]at f33 f36
   refine aZ.of ?_
   (refine sX (ai @f33 (ai @f36 (ai @s6 @s0))) ?_;try exact trivial)
   first|exact aO.of_eq rfl|exact⟨by assumption,aO.of_eq rfl⟩|exact⟨ag,ag,aO.of_eq rfl⟩|exact⟨ak,aO.of_eq rfl⟩|exact⟨_,rfl,rfl,aO.of_eq rfl⟩|exact⟨wk ag ag,aO.of_eq rfl⟩|(refine⟨?_, ?_⟩<;>first|exact aO.of_eq rfl|omega|rfl)|skip)
 |30,af,hL,aa=>
  cases af;have bY:=au hC hL 38 [37,36,32,31] rfl;have hX:=an bY hL;exact aA
 |31,af,hL,aa=>
  cases af;have d30:=aq aa 30 rfl;have bY:=au hC hL 38 [37,36,32] rfl;have hX:=an d30 (an bY hL);exact aA
 |32,af,hL,aa=>
  cases af;have d31:=aq aa 31 rfl;have bY:=au hC hL 38 [37,36] rfl;have hX:=an d31 (an bY hL);exact aA
 |33,af,hL,aa=>
  cases af;have bY:=au hC hL 38 [37,36,35,34] rfl;have hX:=an bY hL;exact aA
 |34,af,hL,aa=>
  cases af;have d33:=aq aa 33 rfl;have bY:=au hC hL 38 [37,36,35] rfl;have hX:=an d33 (an bY hL);exact aA
 |35,af,hL,aa=>
  cases af;have d34:=aq aa 34 rfl;have bY:=au hC hL 38 [37,36] rfl;have hX:=an d34 (an bY hL);exact aA
 |36,af,hL,aa=>
  cases af;have d32:=aq aa 32 rfl;have d35:=aq aa 35 rfl;have bY:=au hC hL 38 [37] rfl
  (
   have f40:=br (V:=L) (b:=b) d32 aS (show(32,40,λL=>i64 (nth ar 9))∈T by rw[hT];simp);have f43:=br (V:=L) (b:=b) d35 aS (show(35,43,λL=>i64 (nth ar 10))∈T by rw[hT];simp);have n8:more L 36 38=L 38:=rfl;have ek:aI (more L 36) (more L 36) T b=put (aI L L T b) 44 (.agg [i64 (nth ar 9),i64 (nth ar 10)]):=(dM hL cD aS (show(36,44,λL=> .agg [i64 (nth ar 9),i64 (nth ar 10)])∈T by rw[hT];simp)).trans (by rw[<-eL (V:=L) (V':=more L 36) (by rw[hT];simp[more])];try rfl);rw[ek];try simp only[bY,n8,cond_true,cond_false,bR,bQ,bN]
   try simp only[bY,n8,cond_true,cond_false,cG,cN,dN,put,Nat.reduceEqDiff,if_true,if_false,reduceIte]at f40 f43
   refine aZ.of ?_
   (refine sX (ai @f40 (ai @f43 (ai @s6 @s0))) ?_;try exact trivial)
   first|exact aO.of_eq rfl|exact⟨by assumption,aO.of_eq rfl⟩|exact⟨ag,ag,aO.of_eq rfl⟩|exact⟨ak,aO.of_eq rfl⟩|exact⟨_,rfl,rfl,aO.of_eq rfl⟩|exact⟨wk ag ag,aO.of_eq rfl⟩|(refine⟨?_, ?_⟩<;>first|exact aO.of_eq rfl|omega|rfl)|skip)
 |37,af,hL,aa=>
  cases af;have d6:=aq aa 6 rfl;have d9:=aq aa 9 rfl;have d12:=aq aa 12 rfl;have d15:=aq aa 15 rfl;have d22:=aq aa 22 rfl;have d29:=aq aa 29 rfl;have d36:=aq aa 36 rfl;have bY:=au hC hL 38 [] rfl
  (
   have f14:=br (V:=L) (b:=b) d6 aS (show(6,14,λL=>i64 (nth ar 1))∈T by rw[hT];simp);have f17:=br (V:=L) (b:=b) d9 aS (show(9,17,λL=>i64 (nth ar 2))∈T by rw[hT];simp);have f20:=br (V:=L) (b:=b) d12 aS (show(12,20,λL=>i64 (nth ar 3))∈T by rw[hT];simp);have f23:=br (V:=L) (b:=b) d15 aS (show(15,23,λL=>i64 (nth ar 4))∈T by rw[hT];simp);have f30:=br (V:=L) (b:=b) d22 aS (show(22,30,λL=> .agg [i64 (nth ar 5),i64 (nth ar 6)])∈T by rw[hT];simp);have f37:=br (V:=L) (b:=b) d29 aS (show(29,37,λL=> .agg [i64 (nth ar 7),i64 (nth ar 8)])∈T by rw[hT];simp);have f44:=br (V:=L) (b:=b) d36 aS (show(36,44,λL=> .agg [i64 (nth ar 9),i64 (nth ar 10)])∈T by rw[hT];simp);have n8:more L 37 38=L 38:=rfl;have ek:aI (more L 37) (more L 37) T b=put (aI L L T b) 45 (.agg [i64 (nth ar 1),i64 (nth ar 2),i64 (nth ar 3),i64 (nth ar 4),i64 (nth ar 5),i64 (nth ar 6),i64 (nth ar 7),i64 (nth ar 8),i64 (nth ar 9),i64 (nth ar 10)]):=(dM hL cD aS (show(37,45,λL=> .agg [i64 (nth ar 1),i64 (nth ar 2),i64 (nth ar 3),i64 (nth ar 4),i64 (nth ar 5),i64 (nth ar 6),i64 (nth ar 7),i64 (nth ar 8),i64 (nth ar 9),i64 (nth ar 10)])∈T by rw[hT];simp)).trans (by rw[<-eL (V:=L) (V':=more L 37) (by rw[hT];simp[more])];try rfl);rw[ek];try simp only[bY,n8,cond_true,cond_false,bR,bQ,bN]
   try simp only[bY,n8,cond_true,cond_false,cG,cN,dN,put,Nat.reduceEqDiff,if_true,if_false,reduceIte]at f14 f17 f20 f23 f30 f37 f44
   refine aZ.of ?_
   (refine sX (ai @f14 (ai @f17 (ai @f20 (ai @f23 (ai @f30 (ai @f37 (ai @f44 (ai @s6 @s0)))))))) ?_;try exact trivial)
   first|exact aO.of_eq rfl|exact⟨by assumption,aO.of_eq rfl⟩|exact⟨ag,ag,aO.of_eq rfl⟩|exact⟨ak,aO.of_eq rfl⟩|exact⟨_,rfl,rfl,aO.of_eq rfl⟩|exact⟨wk ag ag,aO.of_eq rfl⟩|(refine⟨?_, ?_⟩<;>first|exact aO.of_eq rfl|omega|rfl)|skip)
 |38,af,hL,aa=>
  cases af;have d0:=aq aa 0 rfl;have d3:=aq aa 3 rfl;have d37:=aq aa 37 rfl;have bY:L 38=false:=hL
  (
   have f8:=br (V:=L) (b:=b) d0 aS (show(0,8,λL=> .box 0 0)∈T by rw[hT];simp);have f11:=br (V:=L) (b:=b) d3 aS (show(3,11,λL=>i64 (nth ar 0))∈T by rw[hT];simp);have f45:=br (V:=L) (b:=b) d37 aS (show(37,45,λL=> .agg [i64 (nth ar 1),i64 (nth ar 2),i64 (nth ar 3),i64 (nth ar 4),i64 (nth ar 5),i64 (nth ar 6),i64 (nth ar 7),i64 (nth ar 8),i64 (nth ar 9),i64 (nth ar 10)])∈T by rw[hT];simp);have n8:more L 38 38=true:=rfl;have ek:aI (more L 38) (more L 38) T b=put (aI L L T b) 46 (i64 0):=(dM hL cD aS (show(38,46,λL=>i64 0)∈T by rw[hT];simp)).trans (by rw[<-eL (V:=L) (V':=more L 38) (by rw[hT];simp[more])];try rfl);rw[ek];try simp only[bY,n8,cond_true,cond_false,bR,bQ,bN]
   try simp only[bY,n8,cond_true,cond_false,cG,cN,dN,put,Nat.reduceEqDiff,if_true,if_false,reduceIte]at f8 f11 f45
   refine aZ.sW (cC hc (by show(46:Nat) < 47;decide) rfl (by show[aI L L T b 8,aI L L T b 11,aI L L T b 45]=_;rw[f8,f11,f45]) rfl rfl ?_);rintro d aF aL ⟨rfl,rfl,rfl⟩;rw[tH (rv (by rw[hb];exact sM rfl) (by rw[hT];simp only[jf,fu,false_implies,implies_true,and_true];(repeat' apply ai)<;>exact λ_=>rfl))];exact aO.of_eq rfl)
 |39,af,hL,aa=>
  cases af;have bY:=aq aa 38 rfl;have hX:=an bY hL;exact aA
 |40,af,hL,aa=>
  cases af;have d38:=aq aa 38 rfl;have bY:=aq aa 38 rfl;have hX:=an d38 (an bY hL);exact aA
 |k + 41,af,hL,aa=>simp at af
theorem aex (s:bh)(n cap ns na:Nat)(cost kf:Int)(cs eE:List D)(aE:∀d∈cs,Names 0 0 d)(nf:∀d∈eE,Names 0 0 d)(ar:List Int)(g:List ByteArray)(yW:ar.length=11)(hc:aT ae 204 [.box 0 0,i64 (nth ar 0), .agg [i64 (nth ar 1),i64 (nth ar 2),i64 (nth ar 3),i64 (nth ar 4),i64 (nth ar 5),i64 (nth ar 6),i64 (nth ar 7),i64 (nth ar 8),i64 (nth ar 9),i64 (nth ar 10)]] [.mu (aP s n cap cost), .mp [], .mu cs] [aG ns,aH na] (bw (i64 0) [.mu (aP s n cap kf), .mp [], .mu eE] [aG ns,aH (na + 1)])):
  aT ae 138 [.box 0 0,ints ar, .list []] [.mu (aP s n cap cost), .mp [], .mu cs] [aG ns,aH na] (bw (.aQ [.val (.slice none 0 0),i64 0]) [.mu (aP s n cap kf), .mp [], .mu eE] [aG ns,aH (na + 1)]):=by
 have dC:∀nb nr,db nb nr cs=true:=λnb nr=>iz λd hd=>jA (aE d hd);have rW:∀nb nr,db nb nr eE=true:=λnb nr=>iz λd hd=>jA (nf d hd);refine cV func138 ntmps138 results138 call138 rfl ay λW0 S0 M0 own β hβ=> ?_;repeat'(first|(show az _ (.region 1 _ true) _ _;refine b_ ?_)|refine aB ?_|refine aC λK hK=> ?_|(refine kA ?_;clear hK K)|(intro hg;try exact aw)|exact fin|apply ai)
 refine cI ?_;refine eI (jZ [(0, .box 0 0),(1,ints ar),(2, .list []),(6, .val (.slice none 0 0)),(7,i64 0)] (by simp[put])) ?_;refine aew (by rfl) W0 S0 M0 own β s n cap ns na cost kf cs eE ar g yW hc ?_;simp only[bU,cond_true,dn,cF];repeat'(first|(show cT _ _ _ _ _;refine av ?_)|refine aB ?_|refine aC λK hK=> ?_|(refine kA ?_;clear hK K)|(intro hg;try exact aw)|exact fin|apply ai)
 all_goals first|exact⟨[],rfl⟩|exact⟨_,rfl⟩|trace_state
theorem aeu {ops:Array Oper}(cj:ops=dK Tryz.f139 1)(w0:World)(S0:Addr->Prop)(eG:MM)(own:Nat->Prop)(β:List Nat)(s:bh)(n cap ns na:Nat)(cost kf:Int)(cs eE:List D)(ar:List Int)(g:List ByteArray)(yW:ar.length=2)(hc:aT ae 205 [.box 0 0,i64 (nth ar 0),i64 (nth ar 1), .list [bW g]] [.mu (aP s n cap cost), .mp [], .mu cs] [aG ns,aH na] (bw (i64 0) [.mu (aP s n cap kf), .mp [], .mu eE] [aG ns,aH (na + 1)]))
  {Q:Exit->St->Prop}{T:dX}(hQ:Q .normal ⟨17,((T.foldr (λe f=>put f e.2.1 (e.2.2 λ_=>true)) (bj [(0, .box 0 0),(1,ints ar),(2, .list [bW g]),(6, .val (.slice none 0 0)),(7,i64 0)]))),(λ(L:Nat->Bool)=>[.mu (aP s n cap (bif L 8 then kf else cost)), .mp [], .mu (bif L 8 then eE else cs)]) (λ_=>true),(λ(L:Nat->Bool)=>[aG ns,bif L 8 then aH (na + 1)else aH na]) (λ_=>true)⟩)(hT:T=[(0,8,λL=> .box 0 0),(1,9,λL=>ints ar),(2,10,λL=> .ro [i64 (nth ar 0)]),(3,11,λL=>i64 (nth ar 0)),(4,12,λL=>ints ar),(5,13,λL=> .ro [i64 (nth ar 1)]),(6,14,λL=>i64 (nth ar 1)),(7,15,λL=> .list [bW g]),(8,16,λL=>i64 0),(9,6,λL=> .val (.slice none 0 0)),(10,7,λL=>i64 0)]:=by rfl):
  az ⟨ae,w0,S0,eG,none,own,β⟩ (.region 1 ops true) Q ⟨17,bj [(0, .box 0 0),(1,ints ar),(2, .list [bW g]),(6, .val (.slice none 0 0)),(7,i64 0)],(λ(L:Nat->Bool)=>[.mu (aP s n cap (bif L 8 then kf else cost)), .mp [], .mu (bif L 8 then eE else cs)]) (λ_=>false),(λ(L:Nat->Bool)=>[aG ns,bif L 8 then aH (na + 1)else aH na]) (λ_=>false)⟩:=by
 simp only[dK,eW,fV,Tryz.f139,fB,Nat.reduceBEq,cJ,if_false,if_true,bQ,bN,bR,iy,reduceIte,eq_self]at cj;subst cj;have ba:T.map (·.1)=[0,1,2,3,4,5,6,7,8,9,10]:=by rw[hT];rfl
 have cQ:T.map (·.2.1)=[8,9,10,11,12,13,14,15,16,6,7]:=by rw[hT];rfl
 have cD:(T.map (·.1)).Nodup:=by rw[ba];decide
 have aS:(T.map (·.2.1)).Nodup:=by rw[cQ];decide
 obtain⟨b,hb⟩:∃b:Nat->D,b=bj [(0, .box 0 0),(1,ints ar),(2, .list [bW g]),(6, .val (.slice none 0 0)),(7,i64 0)]:=⟨_,rfl⟩;rw[<-hb];have h0:aI (λ_=>false) (λ_=>false) T b=b:=gR (λ_ _=>rfl);rw[<-h0];refine la (c:=⟨ae,w0,S0,eG,none,own,β⟩) Tryz.ty.mixed rfl aj 17 T b (λL=>[.mu (aP s n cap (bif L 8 then kf else cost)), .mp [], .mu (bif L 8 then eE else cs)]) (λL=>[aG ns,bif L 8 then aH (na + 1)else aH na]) (λL k op hC af hL aa=> ?_) (λL hL=> ?_);rotate_left
 ·have bu:∀x∈T.map (·.1),x < 11:=by rw[ba];decide
  rw[gS (λe he=>hL _ (bu _ (gP (f:=(·.1)) he)))];rw[hT,hb];have e8:L 8=true:=hL 8 ak;simp only[bU,e8];simp only[hT,bU,cond_true]at hQ;exact hQ
 match k,af,hL,aa with
 |0,af,hL,aa=>
  cases af;have e8:=au hC hL 8 [] rfl;have hX:=an e8 hL;exact aA
 |1,af,hL,aa=>
  cases af;have e8:=au hC hL 8 [3,2] rfl;have hX:=an e8 hL;exact aA
 |2,af,hL,aa=>
  cases af;have d1:=aq aa 1 rfl;have e8:=au hC hL 8 [3] rfl;have hX:=an d1 (an e8 hL);exact aA
 |3,af,hL,aa=>
  cases af;have d2:=aq aa 2 rfl;have e8:=au hC hL 8 [] rfl;have hX:=an d2 (an e8 hL);exact aA
 |4,af,hL,aa=>
  cases af;have e8:=au hC hL 8 [6,5] rfl;have hX:=an e8 hL;exact aA
 |5,af,hL,aa=>
  cases af;have d4:=aq aa 4 rfl;have e8:=au hC hL 8 [6] rfl;have hX:=an d4 (an e8 hL);exact aA
 |6,af,hL,aa=>
  cases af;have d5:=aq aa 5 rfl;have e8:=au hC hL 8 [] rfl;have hX:=an d5 (an e8 hL);exact aA
 |7,af,hL,aa=>
  cases af;have e8:=au hC hL 8 [] rfl;have hX:=an e8 hL;exact aA
 |8,af,hL,aa=>
  cases af;have d0:=aq aa 0 rfl;have d3:=aq aa 3 rfl;have d6:=aq aa 6 rfl;have d7:=aq aa 7 rfl;have e8:L 8=false:=hL
  (
   have f8:=br (V:=L) (b:=b) d0 aS (show(0,8,λL=> .box 0 0)∈T by rw[hT];simp);have f11:=br (V:=L) (b:=b) d3 aS (show(3,11,λL=>i64 (nth ar 0))∈T by rw[hT];simp);have f14:=br (V:=L) (b:=b) d6 aS (show(6,14,λL=>i64 (nth ar 1))∈T by rw[hT];simp);have f15:=br (V:=L) (b:=b) d7 aS (show(7,15,λL=> .list [bW g])∈T by rw[hT];simp);have g8:more L 8 8=true:=rfl;have ek:aI (more L 8) (more L 8) T b=put (aI L L T b) 16 (i64 0):=(dM hL cD aS (show(8,16,λL=>i64 0)∈T by rw[hT];simp)).trans (by rw[<-eL (V:=L) (V':=more L 8) (by rw[hT];simp[more])];try rfl);rw[ek];try simp only[e8,g8,cond_true,cond_false,bR,bQ,bN]
   try simp only[e8,g8,cond_true,cond_false,cG,cN,dN,put,Nat.reduceEqDiff,if_true,if_false,reduceIte]at f8 f11 f14 f15
   refine aZ.sW (cC hc (by show(16:Nat) < 17;decide) rfl (by show[aI L L T b 8,aI L L T b 11,aI L L T b 14,aI L L T b 15]=_;rw[f8,f11,f14,f15]) rfl rfl ?_);rintro d aF aL ⟨rfl,rfl,rfl⟩;rw[tH (rv (by rw[hb];exact sM rfl) (by rw[hT];simp only[jf,fu,false_implies,implies_true,and_true];(repeat' apply ai)<;>exact λ_=>rfl))];exact aO.of_eq rfl)
 |9,af,hL,aa=>
  cases af;have e8:=aq aa 8 rfl;have hX:=an e8 hL;exact aA
 |10,af,hL,aa=>
  cases af;have d8:=aq aa 8 rfl;have e8:=aq aa 8 rfl;have hX:=an d8 (an e8 hL);exact aA
 |k + 11,af,hL,aa=>simp at af
theorem aev (s:bh)(n cap ns na:Nat)(cost kf:Int)(cs eE:List D)(aE:∀d∈cs,Names 0 0 d)(nf:∀d∈eE,Names 0 0 d)(ar:List Int)(g:List ByteArray)(yW:ar.length=2)(hc:aT ae 205 [.box 0 0,i64 (nth ar 0),i64 (nth ar 1), .list [bW g]] [.mu (aP s n cap cost), .mp [], .mu cs] [aG ns,aH na] (bw (i64 0) [.mu (aP s n cap kf), .mp [], .mu eE] [aG ns,aH (na + 1)])):
  aT ae 139 [.box 0 0,ints ar, .list [bW g]] [.mu (aP s n cap cost), .mp [], .mu cs] [aG ns,aH na] (bw (.aQ [.val (.slice none 0 0),i64 0]) [.mu (aP s n cap kf), .mp [], .mu eE] [aG ns,aH (na + 1)]):=by
 have dC:∀nb nr,db nb nr cs=true:=λnb nr=>iz λd hd=>jA (aE d hd);have rW:∀nb nr,db nb nr eE=true:=λnb nr=>iz λd hd=>jA (nf d hd);refine cV func139 ntmps139 results139 call139 rfl ay λW0 S0 M0 own β hβ=> ?_;repeat'(first|(show az _ (.region 1 _ true) _ _;refine b_ ?_)|refine aB ?_|refine aC λK hK=> ?_|(refine kA ?_;clear hK K)|(intro hg;try exact aw)|exact fin|apply ai)
 refine cI ?_;refine eI (jZ [(0, .box 0 0),(1,ints ar),(2, .list [bW g]),(6, .val (.slice none 0 0)),(7,i64 0)] (by simp[put])) ?_;refine aeu (by rfl) W0 S0 M0 own β s n cap ns na cost kf cs eE ar g yW hc ?_;simp only[bU,cond_true,dn,cF];repeat'(first|(show cT _ _ _ _ _;refine av ?_)|refine aB ?_|refine aC λK hK=> ?_|(refine kA ?_;clear hK K)|(intro hg;try exact aw)|exact fin|apply ai)
 all_goals first|exact⟨[],rfl⟩|exact⟨_,rfl⟩|trace_state
end Go.Proofs.YtopobgihpdaggaaGreatDoor
