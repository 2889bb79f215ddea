import Derived.Test.YtopobgihpdaggaaGreatDoorZ27
import Derived.Test.YtopobgihpdaggaaGreatDoorTie
import Derived.ProofKit
import Derived.ReadAgain
import Derived.Deep.Slices
import Derived.Deep.Strs
import Derived.LaidMore
import Derived.Lay
import Derived.OpenShut
import Derived.Stop.Joined
set_option linter.unusedVariables false
set_option linter.unusedSimpArgs false
open And renaming intro->ai
open Bool renaming false_eq_true->cJ
open ByteArray renaming data_append->I_,mk->gA,size_append->I9
open Go.DataW renaming Trod->ue,TrodAll->Cv
open Go renaming undef->bH
open Int renaming mul_add->zQ,mul_comm->xR,mul_nonneg->xQ,mul_sub->I2
open List renaming append_nil->bN,getD_eq_getElem?_getD->rf,getElem?_eq_getElem->cX,getElem?_eq_some_iff->bm,getElem?_map->dO,mem_map->iH,range->dB
open Nat renaming mul_comm->S9,zero_le->cv
open Option.some renaming inj->jb,injEq->fe
open Go.Proofs.Tryz renaming func3->EN,prog->ae,underlying3->tQ
open Go.Value renaming okWide->B_
open Go.Proofs.Tryz
namespace Go.Proofs.YtopobgihpdaggaaGreatDoor
set_option maxRecDepth 100000
set_option maxHeartbeats 4000000
open Go.Ab Go.RowKit Go
attribute[local irreducible] az dI dR ax aT IA fP aZ gZ eK
theorem Dk {f:FuncId}{t:ByteArray}{c0 c1:Int}{S0 S1:List dJ}{cap:Nat}{U:List D}{r r1:List Row}{out:ByteArray}(hU:∀d∈U,Names 0 0 d)
  (h:aT ae f [.box 0 0, .str t] [.mu (aP cm 2 cap c0), .mp [], .mu (dL S0 U)] r (bw (.aQ [.str out,i64 0]) [.mu (aP cm 2 cap c1), .mp [], .mu (dL S1 U)] r1)):
  aT ae f [.box 0 0, .str t] [.mu (aP cm 2 cap c0), .mp [], .mu (dL S0 U), .mu [.box 0 0]] r (bw (.aQ [.str out,i64 0]) [.mu (aP cm 2 cap c1), .mp [], .mu (dL S1 U), .mu [.box 0 0]] r1):=
 HJ (tl:=[.mu [.box 0 0]]) h (zg _ _ _ _) ze (zf (kW _ hU)) (zg _ _ _ _) ze (zf (kW _ hU)) (λ_ _ _ _=>rfl) (λd hd=>by
  simp only[List.mem_cons,List.not_mem_nil,or_false]at hd;rcases hd with rfl|rfl
  ·intro σ h0 _ _;simp only[D.cP,h0]
  ·intro _ _ _ _;rfl) rfl
theorem zx (x:UInt8)(l:List UInt8):((dS (x::l)).toList == (gA #[]).toList)=false:=by
 rw[show(gA #[]).toList=[]from qp [],show(dS (x::l)).toList=x::l from qp _];rfl
theorem R7:((gA #[]).toList == (gA #[]).toList)=true:=by
 rw[show(gA #[]).toList=[]from qp []];rfl
theorem aav:(dS (fO uK)).size=72:=aj
theorem afc:ax ae 22 [fT cm, .str (dS (fO uK))] (.aQ [.str (dS (uJ 4)), .int .i64 0]):=by
 have c1:=Zh;have c2:=ZY (dS (fO uK));have bo:=aav;generalize hTX:dS (fO uK)=TX at c2 bo⊢;refine aR func22 ntmps22 results22 call22 rfl ay λw0 S0 M0=> ?_;repeat'(first|(show az _ (.region 3 _ _) _ _;refine eo 1 rfl (λK1 aK=> ?_);refine av ?_)|(refine aK _ (cC c1 (by show(17:Nat) < 48;decide) rfl rfl rfl rfl ?_);clear aK K1;rintro d aF aL ⟨cap,U,x0,hU,fA,rfl,rfl,rfl⟩;simp only[bF,Nat.reduceAdd];refine av ?_)|(show az _ (.seq (.region 6 _ _) _) _ _;refine b_ ?_)|refine aB ?_|refine aC λK hK=> ?_|(refine kA ?_;clear hK K)|(intro hg;try exact aw)|exact fin|apply ai)
 all_goals first|omega|rfl|refine cI ?_
 refine eI (jZ [(1, .str TX),(6, .box 4 0)] (by simp[put])) ?_;refine eI (An [1,2,3,4] (l':=[(1, .str TX),(6, .box 3 0)]) (aF:=[.mu (aP cm 2 cap 0), .mp [], .mu (gB++(gB++U)), .mu [.box 0 0]]) ak (λi hi=>by cases hi) (by simp[D.cP,pos]) (aau x0 hU)) ?_;refine eI (aO.Em 2 3 rfl rfl Dc) ?_;refine eI (aO.Em 2 7 rfl rfl Dc) ?_;rw[aap];refine agL rfl (by show 8 < 48;decide) (λb=> ?_);refine ny ?_;refine ny ?_;refine lI ju (λw1 S1 M1 o1 b1 hO=> ?_);show az ⟨ae,w1,S1,M1,none,o1,b1⟩ _ _ _;clear hO;repeat'(first|refine aB ?_|refine aC λK hK=> ?_|refine cA (c2) ?_|(refine kA ?_;clear hK K)|((refine hK _ ?_;clear hK K;show eK _ _ _ _ _ _))|(intro hg;try exact aw)|exact fin|apply ai)
 refine B8 ?_;refine agC ju (j:=λk=>⟨b,uJ k,true⟩) (gf:=79) (cs:=[.ro [.str TX]]) (dp:=[.ro [.str TX]]) (xs:=uK.map λw=>[.str (dS w), .bool true]) (by try(refine av ?_;try exact trivial)) (by try(refine av ?_;try exact trivial)) (hTX▸ZZ uK ak ak) (λx hx=>by obtain⟨y,_,rfl⟩:=iH.1 hx;rfl) ay
  (bj [(6, .box 3 0),(8, .val (.pointer (some ⟨b,0,none⟩)))]) (AX cap U) Gr 4 (Gj rfl (by try(refine av ?_;try exact trivial);try simp) ⟨_,rfl⟩ ⟨_,rfl⟩) (CQ rfl) (λk _=>aaN cap U k) (λk _=>aaM cap U hU k) (cv _) ?_ ?_
 ·intro k x hx w1 S1 M1 l o1 b1 hO;rw[dO,Option.map_eq_some_iff]at hx;obtain⟨y,hy,rfl⟩:=hx;have pL:k < 4:=(bm.1 hy).1;have hk:k=0\/k=1\/k=2\/k=3:=ag;rcases hk with rfl|rfl|rfl|rfl
  ·obtain rfl:y=AV:=(jb hy).symm;have c3:aT ae 46 [.box 0 0, .str (dS AV)] [.mu (aP cm 2 cap 0), .mp [], .mu (dL [] U), .mu [.box 0 0]] [aG 2,aH 0] (bw (.aQ [.str ⟨#[]⟩,i64 0]) [.mu (aP cm 2 cap 0), .mp [], .mu (dL lW U), .mu [.box 0 0]] [aG 2,aH 1]):=Dk hU (aaI cap 2 U hU fA);have bS:((dS AV).toList == (gA #[]).toList)=false:=zx _ _;have eh:((gA #[]).toList == (gA #[]).toList)=true:=R7;refine lI ju (λw3 S3 M3 o3 b3 k6=> ?_);show az ⟨ae,w3,S3,M3,some l,o3,b3⟩ _ _ ⟨48,put (put (bj [(6, .box 3 0),(8, .val (.pointer (some ⟨b,0,none⟩)))]) 25 (.str (dS AV))) 26 (.bool true),[.mu (aP cm 2 cap 0), .mp [], .mu (dL [] U), .mu [.box 0 0]],[aG 2,aH 0]⟩;clear k6;repeat'(first|refine aB ?_|refine aC λK hK=> ?_|(refine kA ?_;clear hK K)|((refine hK _ ?_;clear hK K;intro w4 S4 M4 o4))|(intro hg;try exact aw)|exact fin|apply ai)
   refine B8 ?_;refine ny ?_;refine lI ju (λw5 S5 M5 o5 b5 wT=> ?_);show az ⟨ae,w5,S5,M5,some l,o5,b5⟩ _ _ _;clear wT
   (refine sX (ai @bS (@cJ)) ?_;try exact trivial)
   repeat'(first|refine bK ?_|((first|refine bL λK hK=> ?_|refine bI ?_|show bC _ _ _ _ _);(refine sX (ai @bS (@cJ)) ?_;try exact trivial))|(refine kA ?_;clear hK K)|((show eK _ _ _ _ _ _;refine b_ ?_))|((refine hK _ ?_;clear hK K;show eK _ _ _ _ _ _;refine b_ ?_))|(intro hg;try exact aw)|exact fin|apply ai)
   refine cI ?_;refine ny ?_;refine lI ju (λw6 S6 M6 o6 b6 Hs=> ?_);show az ⟨ae,w6,S6,M6,some l,o6,b6⟩ _ _ _;repeat'(first|(show az _ (.region 10 _ _) _ _;refine eo 2 rfl (λK1 aK=> ?_);refine av ?_)|(refine aK _ (cC c3 (by show(32:Nat) < 48;decide) rfl rfl rfl rfl ?_);clear aK K1;rintro d aF aL ⟨rfl,rfl,rfl⟩;simp only[bF,Nat.reduceAdd];refine av ?_)|refine aB ?_|refine aC λK hK=> ?_|(refine kA ?_;clear hK K)|((show eK _ _ _ _ _ _;refine b_ ?_))|((refine hK _ ?_;clear hK K;show eK _ _ _ _ _ _;refine b_ ?_))|(intro hg;try exact aw)|exact fin|apply ai)
   refine cI ?_;refine ny ?_;refine lI ju (λw7 S7 M7 o7 b7 wS=> ?_);show az ⟨ae,w7,S7,M7,some l,o7,b7⟩ _ _ _;clear wS;repeat'(first|refine bK ?_|((first|refine bL λK hK=> ?_|refine bI ?_|show bC _ _ _ _ _);(refine sX (ai @eh (@cJ)) ?_;try exact trivial))|(refine kA ?_;clear hK K)|((show eK _ _ _ _ _ _;refine b_ ?_))|((refine hK _ ?_;clear hK K;show eK _ _ _ _ _ _;refine b_ ?_))|(intro hg;try exact aw)|exact fin|apply ai)
   refine cI ?_;refine B7 ju 2 (B0 (.tmp 8) (.tmp 45) (some 46)) (λ_ _ _ h=>sr.write rfl h) rfl rfl (λK1 aK=> ?_)
   (refine av ?_;try exact trivial)
   repeat'(first|refine aB ?_|refine aC λK hK=> ?_|(refine kA ?_;clear hK K)|(intro hg;try exact aw)|exact fin|apply ai)
   ·decide
   refine aK _ ?_;clear aK K1;refine⟨(by show(46:Nat) < 48;decide),rfl,rfl,_,rfl, ?_, ?_⟩
   ·rw[I9];show(uJ 0).length + _<=_;decide
   exact⟨⟨rfl,λ_=> .inl rfl,⟨[],rfl⟩,⟨[],rfl⟩⟩,(by simp only[I_];rfl)⟩
  ·obtain rfl:y=AU:=(jb hy).symm;have c3:aT ae 46 [.box 0 0, .str (dS AU)] [.mu (aP cm 2 cap 0), .mp [], .mu (dL lW U), .mu [.box 0 0]] [aG 2,aH 1] (bw (.aQ [.str ⟨#[]⟩,i64 0]) [.mu (aP cm 2 cap 131), .mp [], .mu (dL ie U), .mu [.box 0 0]] [aG 2,aH 2]):=Dk hU (aaH cap 2 U hU fA);have bS:((dS AU).toList == (gA #[]).toList)=false:=zx _ _;have eh:((gA #[]).toList == (gA #[]).toList)=true:=R7;refine lI ju (λw3 S3 M3 o3 b3 k6=> ?_);show az ⟨ae,w3,S3,M3,some l,o3,b3⟩ _ _ ⟨48,put (put (bj [(6, .box 3 0),(8, .val (.pointer (some ⟨b,0,none⟩)))]) 25 (.str (dS AU))) 26 (.bool true),[.mu (aP cm 2 cap 0), .mp [], .mu (dL lW U), .mu [.box 0 0]],[aG 2,aH 1]⟩;clear k6;repeat'(first|refine aB ?_|refine aC λK hK=> ?_|(refine kA ?_;clear hK K)|((refine hK _ ?_;clear hK K;intro w4 S4 M4 o4))|(intro hg;try exact aw)|exact fin|apply ai)
   refine B8 ?_;refine ny ?_;refine lI ju (λw5 S5 M5 o5 b5 wT=> ?_);show az ⟨ae,w5,S5,M5,some l,o5,b5⟩ _ _ _;clear wT
   (refine sX (ai @bS (@cJ)) ?_;try exact trivial)
   repeat'(first|refine bK ?_|((first|refine bL λK hK=> ?_|refine bI ?_|show bC _ _ _ _ _);(refine sX (ai @bS (@cJ)) ?_;try exact trivial))|(refine kA ?_;clear hK K)|((show eK _ _ _ _ _ _;refine b_ ?_))|((refine hK _ ?_;clear hK K;show eK _ _ _ _ _ _;refine b_ ?_))|(intro hg;try exact aw)|exact fin|apply ai)
   refine cI ?_;refine ny ?_;refine lI ju (λw6 S6 M6 o6 b6 Hs=> ?_);show az ⟨ae,w6,S6,M6,some l,o6,b6⟩ _ _ _;repeat'(first|(show az _ (.region 10 _ _) _ _;refine eo 2 rfl (λK1 aK=> ?_);refine av ?_)|(refine aK _ (cC c3 (by show(32:Nat) < 48;decide) rfl rfl rfl rfl ?_);clear aK K1;rintro d aF aL ⟨rfl,rfl,rfl⟩;simp only[bF,Nat.reduceAdd];refine av ?_)|refine aB ?_|refine aC λK hK=> ?_|(refine kA ?_;clear hK K)|((show eK _ _ _ _ _ _;refine b_ ?_))|((refine hK _ ?_;clear hK K;show eK _ _ _ _ _ _;refine b_ ?_))|(intro hg;try exact aw)|exact fin|apply ai)
   refine cI ?_;refine ny ?_;refine lI ju (λw7 S7 M7 o7 b7 wS=> ?_);show az ⟨ae,w7,S7,M7,some l,o7,b7⟩ _ _ _;clear wS;repeat'(first|refine bK ?_|((first|refine bL λK hK=> ?_|refine bI ?_|show bC _ _ _ _ _);(refine sX (ai @eh (@cJ)) ?_;try exact trivial))|(refine kA ?_;clear hK K)|((show eK _ _ _ _ _ _;refine b_ ?_))|((refine hK _ ?_;clear hK K;show eK _ _ _ _ _ _;refine b_ ?_))|(intro hg;try exact aw)|exact fin|apply ai)
   refine cI ?_;refine B7 ju 2 (B0 (.tmp 8) (.tmp 45) (some 46)) (λ_ _ _ h=>sr.write rfl h) rfl rfl (λK1 aK=> ?_)
   (refine av ?_;try exact trivial)
   repeat'(first|refine aB ?_|refine aC λK hK=> ?_|(refine kA ?_;clear hK K)|(intro hg;try exact aw)|exact fin|apply ai)
   ·decide
   refine aK _ ?_;clear aK K1;refine⟨(by show(46:Nat) < 48;decide),rfl,rfl,_,rfl, ?_, ?_⟩
   ·rw[I9];show(uJ 1).length + _<=_;decide
   exact⟨⟨rfl,λ_=> .inl rfl,⟨[],rfl⟩,⟨[],rfl⟩⟩,(by simp only[I_];rfl)⟩
  ·obtain rfl:y=AT:=(jb hy).symm;have c3:aT ae 46 [.box 0 0, .str (dS AT)] [.mu (aP cm 2 cap 131), .mp [], .mu (dL ie U), .mu [.box 0 0]] [aG 2,aH 2] (bw (.aQ [.str (dS Dj),i64 0]) [.mu (aP cm 2 cap 131), .mp [], .mu (dL ie U), .mu [.box 0 0]] [aG 2,aH 2]):=Dk hU (aaG cap 2 U hU fA);have bS:((dS AT).toList == (gA #[]).toList)=false:=zx _ _;have eh:((dS Dj).toList == (gA #[]).toList)=false:=zx _ _;refine lI ju (λw3 S3 M3 o3 b3 k6=> ?_);show az ⟨ae,w3,S3,M3,some l,o3,b3⟩ _ _ ⟨48,put (put (bj [(6, .box 3 0),(8, .val (.pointer (some ⟨b,0,none⟩)))]) 25 (.str (dS AT))) 26 (.bool true),[.mu (aP cm 2 cap 131), .mp [], .mu (dL ie U), .mu [.box 0 0]],[aG 2,aH 2]⟩;clear k6;repeat'(first|refine aB ?_|refine aC λK hK=> ?_|(refine kA ?_;clear hK K)|((refine hK _ ?_;clear hK K;intro w4 S4 M4 o4))|(intro hg;try exact aw)|exact fin|apply ai)
   refine B8 ?_;refine ny ?_;refine lI ju (λw5 S5 M5 o5 b5 wT=> ?_);show az ⟨ae,w5,S5,M5,some l,o5,b5⟩ _ _ _;clear wT
   (refine sX (ai @bS (@cJ)) ?_;try exact trivial)
   repeat'(first|refine bK ?_|((first|refine bL λK hK=> ?_|refine bI ?_|show bC _ _ _ _ _);(refine sX (ai @bS (@cJ)) ?_;try exact trivial))|(refine kA ?_;clear hK K)|((show eK _ _ _ _ _ _;refine b_ ?_))|((refine hK _ ?_;clear hK K;show eK _ _ _ _ _ _;refine b_ ?_))|(intro hg;try exact aw)|exact fin|apply ai)
   refine cI ?_;refine ny ?_;refine lI ju (λw6 S6 M6 o6 b6 Hs=> ?_);show az ⟨ae,w6,S6,M6,some l,o6,b6⟩ _ _ _;repeat'(first|(show az _ (.region 10 _ _) _ _;refine eo 2 rfl (λK1 aK=> ?_);refine av ?_)|(refine aK _ (cC c3 (by show(32:Nat) < 48;decide) rfl rfl rfl rfl ?_);clear aK K1;rintro d aF aL ⟨rfl,rfl,rfl⟩;simp only[bF,Nat.reduceAdd];refine av ?_)|refine aB ?_|refine aC λK hK=> ?_|(refine kA ?_;clear hK K)|((show eK _ _ _ _ _ _;refine b_ ?_))|((refine hK _ ?_;clear hK K;show eK _ _ _ _ _ _;refine b_ ?_))|(intro hg;try exact aw)|exact fin|apply ai)
   refine cI ?_;refine ny ?_;refine lI ju (λw7 S7 M7 o7 b7 wS=> ?_);show az ⟨ae,w7,S7,M7,some l,o7,b7⟩ _ _ _;clear wS;repeat'(first|refine bK ?_|((first|refine bL λK hK=> ?_|refine bI ?_|show bC _ _ _ _ _);(refine sX (ai @eh (@cJ)) ?_;try exact trivial))|(refine kA ?_;clear hK K)|((show eK _ _ _ _ _ _;refine b_ ?_))|((refine hK _ ?_;clear hK K;show eK _ _ _ _ _ _;refine b_ ?_))|(intro hg;try exact aw)|exact fin|apply ai)
   refine cI ?_;refine B7 ju 2 (B0 (.tmp 8) (.tmp 45) (some 46)) (λ_ _ _ h=>sr.write rfl h) rfl rfl (λK1 aK=> ?_)
   (refine av ?_;try exact trivial)
   repeat'(first|refine aB ?_|refine aC λK hK=> ?_|(refine kA ?_;clear hK K)|(intro hg;try exact aw)|exact fin|apply ai)
   ·decide
   refine aK _ ?_;clear aK K1;refine⟨(by show(46:Nat) < 48;decide),rfl,rfl,_,rfl, ?_, ?_⟩
   ·rw[I9];show(uJ 2).length + _<=_;decide
   exact⟨⟨rfl,λ_=> .inl rfl,⟨[],rfl⟩,⟨[],rfl⟩⟩,(by simp only[I_];rfl)⟩
  ·obtain rfl:y=AS:=(jb hy).symm;have c3:aT ae 46 [.box 0 0, .str (dS AS)] [.mu (aP cm 2 cap 131), .mp [], .mu (dL ie U), .mu [.box 0 0]] [aG 2,aH 2] (bw (.aQ [.str (dS Gs),i64 0]) [.mu (aP cm 2 cap 131), .mp [], .mu (dL ie U), .mu [.box 0 0]] [aG 2,aH 2]):=Dk hU (aaF cap 2 U hU fA);have bS:((dS AS).toList == (gA #[]).toList)=false:=zx _ _;have eh:((dS Gs).toList == (gA #[]).toList)=false:=zx _ _;refine lI ju (λw3 S3 M3 o3 b3 k6=> ?_);show az ⟨ae,w3,S3,M3,some l,o3,b3⟩ _ _ ⟨48,put (put (bj [(6, .box 3 0),(8, .val (.pointer (some ⟨b,0,none⟩)))]) 25 (.str (dS AS))) 26 (.bool true),[.mu (aP cm 2 cap 131), .mp [], .mu (dL ie U), .mu [.box 0 0]],[aG 2,aH 2]⟩;clear k6;repeat'(first|refine aB ?_|refine aC λK hK=> ?_|(refine kA ?_;clear hK K)|((refine hK _ ?_;clear hK K;intro w4 S4 M4 o4))|(intro hg;try exact aw)|exact fin|apply ai)
   refine B8 ?_;refine ny ?_;refine lI ju (λw5 S5 M5 o5 b5 wT=> ?_);show az ⟨ae,w5,S5,M5,some l,o5,b5⟩ _ _ _;clear wT
   (refine sX (ai @bS (@cJ)) ?_;try exact trivial)
   repeat'(first|refine bK ?_|((first|refine bL λK hK=> ?_|refine bI ?_|show bC _ _ _ _ _);(refine sX (ai @bS (@cJ)) ?_;try exact trivial))|(refine kA ?_;clear hK K)|((show eK _ _ _ _ _ _;refine b_ ?_))|((refine hK _ ?_;clear hK K;show eK _ _ _ _ _ _;refine b_ ?_))|(intro hg;try exact aw)|exact fin|apply ai)
   refine cI ?_;refine ny ?_;refine lI ju (λw6 S6 M6 o6 b6 Hs=> ?_);show az ⟨ae,w6,S6,M6,some l,o6,b6⟩ _ _ _;repeat'(first|(show az _ (.region 10 _ _) _ _;refine eo 2 rfl (λK1 aK=> ?_);refine av ?_)|(refine aK _ (cC c3 (by show(32:Nat) < 48;decide) rfl rfl rfl rfl ?_);clear aK K1;rintro d aF aL ⟨rfl,rfl,rfl⟩;simp only[bF,Nat.reduceAdd];refine av ?_)|refine aB ?_|refine aC λK hK=> ?_|(refine kA ?_;clear hK K)|((show eK _ _ _ _ _ _;refine b_ ?_))|((refine hK _ ?_;clear hK K;show eK _ _ _ _ _ _;refine b_ ?_))|(intro hg;try exact aw)|exact fin|apply ai)
   refine cI ?_;refine ny ?_;refine lI ju (λw7 S7 M7 o7 b7 wS=> ?_);show az ⟨ae,w7,S7,M7,some l,o7,b7⟩ _ _ _;clear wS;repeat'(first|refine bK ?_|((first|refine bL λK hK=> ?_|refine bI ?_|show bC _ _ _ _ _);(refine sX (ai @eh (@cJ)) ?_;try exact trivial))|(refine kA ?_;clear hK K)|((show eK _ _ _ _ _ _;refine b_ ?_))|((refine hK _ ?_;clear hK K;show eK _ _ _ _ _ _;refine b_ ?_))|(intro hg;try exact aw)|exact fin|apply ai)
   refine cI ?_;refine B7 ju 2 (B0 (.tmp 8) (.tmp 45) (some 46)) (λ_ _ _ h=>sr.write rfl h) rfl rfl (λK1 aK=> ?_)
   (refine av ?_;try exact trivial)
   repeat'(first|refine aB ?_|refine aC λK hK=> ?_|(refine kA ?_;clear hK K)|(intro hg;try exact aw)|exact fin|apply ai)
   ·decide
   refine aK _ ?_;clear aK K1;refine⟨(by show(46:Nat) < 48;decide),rfl,rfl,_,rfl, ?_, ?_⟩
   ·rw[I9];show(uJ 3).length + _<=_;decide
   exact⟨⟨rfl,λ_=> .inl rfl,⟨[],rfl⟩,⟨[],rfl⟩⟩,(by simp only[I_];rfl)⟩
 ·show eK _ _ _ _ (⟨48,bj [(6, .box 3 0),(8, .val (.pointer (some ⟨b,0,none⟩)))],AX cap U 4,Gr 4⟩:St) (⟨b,uJ 4,true⟩:Bd);refine ny ?_;refine B7 ju 0 (R_ (.tmp 8) (some 47)) (λ_ _ _ h=>sr.string rfl h) rfl rfl (λK1 aK=> ?_);refine aK _ ?_;clear aK K1;refine⟨(by show(47:Nat) < 48;decide),rfl,rfl,(by show uJ 4≠[];decide), ?_⟩
  (refine av ?_;try exact trivial)
  refine agB ?_
  (refine av ?_;try exact trivial)
end Go.Proofs.YtopobgihpdaggaaGreatDoor
namespace Go.Proofs.YtopobgihpdaggaaGreatDoor
set_option maxRecDepth 100000
set_option maxHeartbeats 4000000
open Go.Ab
attribute[local irreducible] az dI dR ax aT IA fP aZ gZ
abbrev Gq:List UInt8:=[114,101,97,100,32,48,32,48,32,52,56,48,32,49,32,55,54,48,48,48,32,48,32,48,32,48,32,48,32,48,32,48,10,119,105,114,101,32,49,32,48,32,55,53,51,49,48,46,50,55,48,51,48,46,57,50,56,52,48,10,100,114,97,119,32,48,10,99,111,115,116,10]
theorem aaw:fO uK=Gq:=ak
theorem afd:ax ae 22 [fT cm, .str ⟨Gq.toArray⟩] (.aQ [.str ⟨#[111,107,10,111,107,10,55,54,48,48,48,32,55,53,57,48,50,32,55,53,57,48,50,32,55,53,56,48,50,10,49,51,49,10]⟩, .int .i64 0]):=by
 have h:=afc;have e:dS (fO uK)=⟨Gq.toArray⟩:=by rw[aaw]
 rw[e]at h;exact h
theorem known20k:ax ae 24 [.agg [.list (cm.fl.map jy),ints cm.tu,i64 cm.mo], .list [.list [.str ⟨#[55,53,51,49,48]⟩, .str ⟨#[50,55,48,51,48]⟩, .str ⟨#[57,50,56,52,48]⟩]]] (.aQ [.list [.str ⟨#[55,53,63,49,48]⟩, .str ⟨#[50,55,48,51,48]⟩], .int .i64 0]):=aai
theorem Xc:ax ae 25 [.list [.str ⟨#[55,53,63,49,48]⟩, .str ⟨#[50,55,48,51,48]⟩], .list [.str ⟨#[55,53,63,49,48]⟩, .str ⟨#[50,55,48,51,48]⟩]] (.bool true):=Xb [⟨#[55,53,63,49,48]⟩,⟨#[50,55,48,51,48]⟩] ak
theorem known20_ok:ax ae 7 [] (.bool true):=by
 have c1:=TQ;have c2:=afd;have c3:=known20k;have c4:=Xc;refine aR func7 ntmps7 results7 call7 rfl ay λw0 S0 M0=> ?_;repeat'(first|refine bK ?_|((first|refine bL λK hK=> ?_|refine bI ?_|show bC _ _ _ _ _|refine bl (c1) ?_|refine bl (c2) ?_|refine bl (c3) ?_|refine bl (c4) ?_);simp -implicitDefEqProofs only[go_sem,kM,bF,Nat.reduceAdd,Nat.reduceSub,Nat.reduceMul,Nat.reduceLT,Nat.reduceLeDiff,Nat.reduceEqDiff,Nat.reduceBEq,Int.reduceLT,Int.reduceLE,Int.reduceToNat,Int.reduceAdd,Int.reduceSub,Int.reduceMul,Int.reduceNeg,Int.reduceEq,reduceCtorEq,eq_self,ne_eq,not_false_eq_true,if_true,reduceIte,s6,s0,beq_self_eq_true])|(refine kA ?_;clear hK K)|(intro hg;try exact aw)|exact fin|apply ai)
 all_goals first|omega|rfl|trace_state
end Go.Proofs.YtopobgihpdaggaaGreatDoor
namespace Go.Proofs.YtopobgihpdaggaaGreatDoor.Sc
set_option maxRecDepth 100000
set_option maxHeartbeats 4000000
open Go.Ab
theorem WS (a:Int):0<=a * a:=by
 rcases Int.le_total 0 a with h|h
 ·exact xQ h h
 ·have:=xQ (show 0<= -a by omega) (show 0<= -a by omega)
  rwa [Int.neg_mul_neg]at this
theorem I7 (b l:List Int)(q:Int):∀n,dP (λk=>nth b k * (200 * nth l k - q)) n=200 * dP (λk=>nth b k * nth l k) n - q * dP (nth b) n
 |0=>by simp[dP]
 |n + 1=>by
  have ih:=I7 b l q n;have e3:nth b n * (200 * nth l n - q)=nth b n * (200 * nth l n) - nth b n * q:=I2 _ _ _;have e4:q * (dP (nth b) n + nth b n)=q * dP (nth b) n + q * nth b n:=zQ _ _ _;simp only[dP];rw[ih,e3,e4];have e1:nth b n * (200 * nth l n)=200 * (nth b n * nth l n):=by rw[Int.mul_left_comm]
  have e2:nth b n * q=q * nth b n:=xR _ _;omega
theorem Sk (b l:List Int):∀n,dP (λk=>(nth b k - nth l k) * (nth b k - nth l k)) n=dP (λk=>nth b k * nth b k) n - 2 * dP (λk=>nth b k * nth l k) n + dP (λk=>nth l k * nth l k) n
 |0=>by simp[dP]
 |n + 1=>by
  simp only[dP,Sk b l n];have e1:(nth b n - nth l n) * (nth b n - nth l n)=nth b n * nth b n - nth b n * nth l n - (nth l n * nth b n - nth l n * nth l n):=by rw[Int.sub_mul,I2,I2]
  have e2:nth l n * nth b n=nth b n * nth l n:=xR _ _;omega
def apart (b l:List Int):Int:=dP (λk=>(nth b k - nth l k) * (nth b k - nth l k)) b.length
theorem ZU {b l:List Int}(hb:gy b)(hl:gy l)(h:b.length=l.length):Hp b b - Hp b l=100 * apart b l:=by
 have s1:dP (nth b) b.length=100:=hb.2.2.2;have e1:Hp b l=200 * dP (λk=>nth b k * nth l k) b.length - uv l * dP (nth b) b.length:=I7 b l (uv l) _;have e2:Hp b b=200 * dP (λk=>nth b k * nth b k) b.length - uv b * dP (nth b) b.length:=I7 b b (uv b) _;have e3:=Sk b l b.length;have e4:uv l=dP (λk=>nth l k * nth l k) b.length:=by rw[h];rfl
 have e5:uv b=dP (λk=>nth b k * nth b k) b.length:=rfl;unfold apart;rw[e1,e2,e3,s1,e4,e5];omega
theorem agh {b l:List Int}(hb:gy b)(hl:gy l):0<=apart b l/\apart b l<=30000:=by
 have h1:=ye (f:=λk=>(nth b k - nth l k) * (nth b k - nth l k)) (lo:=0) (hi:=10000) b.length (λi _=>by
  have h2:=hb.small.2 i;have h3:=hl.small.2 i;have h4:=WS (nth b i - nth l i);have h5:(nth b i - nth l i) * (nth b i - nth l i)<=10000:=by
   rcases Int.le_total (nth l i) (nth b i)with h|h
   ·exact(kv (A:=100) (B:=100) ag ag ag ag).2
   ·have:=(kv (a:=nth l i - nth b i) (b:=nth l i - nth b i) (A:=100) (B:=100) ag ag ag ag).2;have e:(nth l i - nth b i) * (nth l i - nth b i)=(nth b i - nth l i) * (nth b i - nth l i):=by rw[<-Int.neg_sub,Int.neg_mul_neg]
    omega
  omega)
 have h2:=hb.2.2.1;unfold apart;omega
def OW (w:Int)(b l:List Int):Nat->Int
 |0=>0
 |j + 1=>OW w b l j + nth b j * (Gn l j * w)
theorem IT (w:Int)(b l:List Int):∀j,OW w b l j=w * dP (λk=>nth b k * Gn l k) j
 |0=>by simp[OW,dP]
 |j + 1=>by
  have e:nth b j * (Gn l j * w)=w * (nth b j * Gn l j):=by rw[<-Int.mul_assoc,xR]
  simp only[OW,dP,IT w b l j,zQ,e]
theorem F8 {w g x:Int}(hw:0<=w/\w<=100)(hg: -30000<=g/\g<=30000)(hx:0<=x/\x<=100): -300000000<=x * (g * w)/\x * (g * w)<=300000000:=by
 have h1:=v8 (a:=w) (b:=g) (A:=100) (B:=30000) hw.1 hw.2 hg.1 hg.2;rw[xR w g]at h1;have h2:=v8 (a:=x) (b:=g * w) (A:=100) (B:=3000000) hx.1 hx.2 ag ag;omega
theorem IU {w:Int}{b l:List Int}(hw:0<=w/\w<=100)(hb:Small b)(hl:Small l):∀j:Nat, -(300000000 * (j:Int))<=OW w b l j/\OW w b l j<=300000000 * (j:Int)
 |0=>by simp[OW]
 |j + 1=>by
  have h1:=IU hw hb hl j;have h2:=xV hl j;have h3:=F8 hw (g:=Gn l j) ag (hb.2 j);simp only[OW];omega
end Go.Proofs.YtopobgihpdaggaaGreatDoor.Sc
namespace Go.Proofs.YtopobgihpdaggaaGreatDoor
set_option maxRecDepth 100000
set_option maxHeartbeats 4000000
open Go.Ab
attribute[local irreducible] az dI dR ax aT IA fP aZ gZ
theorem abG (s:bh)(hs:Cf s)(day bc:Int)(b l:List Int)(hb:b.length<=9223372036854775807)(hl:l.length<=9223372036854775807)(c7:ax ae 7 [] (.bool true)):
  ax ae 3 [fT s,i64 day,i64 bc,ints b,ints l] (.bool true):=by
 have anK:s.wt.length<=9223372036854775807:=hs.2.2.2.2.2.2.1;have c1:=WX s hs;have c3:=Sc.Ox b hb;have c4:=Sc.Ox l hl;by_cases bu:nD s/\pj s/\(0<=day/\day < s.dy)/\(0<=bc/\bc < s.wt.length)/\Sc.gy b/\Sc.gy l/\(b.length:Int)=s.cl/\(l.length:Int)=s.cl
 ·obtain⟨Dv,cO,hd,hw,gq,dV,n4,G_⟩:=bu;have c2:=NM s Dv hs;rw[decide_eq_true Dv]at c1;rw[decide_eq_true cO]at c2;rw[decide_eq_true gq]at c3;rw[decide_eq_true dV]at c4;obtain⟨bE,hwl,GK⟩:=No cO;have pG:=GK bc.toNat ag;have c8:∀k:Nat,(k:Int) < s.cl->ax ae 8 [fT s,i64 day,i64 bc,ints b,i64 k] (.aQ [i64 (Sc.Gn b k * nth s.wt bc.toNat), .bool true]):=λk hk=>On s cO Dv day bc b k ag ag gq n4 hk;have R2:∀k:Nat,(k:Int) < s.cl->ax ae 8 [fT s,i64 day,i64 bc,ints l,i64 k] (.aQ [i64 (Sc.Gn l k * nth s.wt bc.toNat), .bool true]):=λk hk=>On s cO Dv day bc l k ag ag dV G_ hk;have c9:=Sc.abF b l;rw[if_pos ⟨gq,dV,ag⟩]at c9;have abP:=Sc.ZU gq dV ag;have iX:=Sc.agh gq dV;obtain⟨X,hX⟩:∃X,X=Sc.Hp b b - Sc.Hp b l:=⟨_,rfl⟩;rw[<-hX]at c9 abP;obtain⟨wt,GJ⟩:∃wt,wt=nth s.wt bc.toNat:=⟨_,rfl⟩;rw[<-GJ]at c8 R2 pG;have im:Sc.OW wt b b b.length - Sc.OW wt b l b.length=wt * X:=by
   rw[Sc.IT,Sc.IT,hX,I2];rfl
  have hwx:=Sc.kv pG.1 pG.2 (show 0<=X by omega) (show X<=3000000 by omega);have hO1:=Sc.IU pG gq.small gq.small;have hO2:=Sc.IU pG gq.small dV.small;have Qt:=gq.2.2.1;refine aR EN ntmps3 results3 call3 rfl ay λw0 S0 M0=> ?_;repeat'(first|(show az _ (.loop _) _ _;refine b_ ?_)|refine aB ?_|refine aC λK hK=> ?_|refine cA (c1) ?_|refine cA (c2) ?_|refine cA (c3) ?_|refine cA (c4) ?_|(refine kA ?_;clear hK K)|(intro hg;try exact aw)|exact fin|apply ai)
  refine cI ?_;refine dH (ι:=Nat) (λj=>[(1,i64 day),(2,i64 bc),(3,ints b),(4,ints l),(5, .box 0 0),(11,i64 (Sc.OW wt b b j)),(12,i64 (Sc.OW wt b l j)),(13,i64 (j:Nat))]) (λ_=>[.mu (cR s)]) (λ_=>[]) (λj=>j<=b.length) (λj=>b.length - j) (λ_ _=>⟨rfl,rfl⟩) 0 (cv _) (aV rfl (by try(refine av ?_;try exact trivial);try simp[Sc.OW]) ⟨_,rfl⟩ ⟨_,rfl⟩) (λj hj=> ?_);have o1:=hO1 j;have o2:=hO2 j;by_cases aU:j < b.length
  ·have g1:=Sc.F8 pG (g:=Sc.Gn b j) (by have:=Sc.xV gq.small j;omega) (gq.small.2 j);have g2:=Sc.F8 pG (g:=Sc.Gn l j) (by have:=Sc.xV dV.small j;omega) (gq.small.2 j)
   (refine av ?_;try exact trivial)
   repeat'(first|refine aB ?_|refine aC λK hK=> ?_|refine cA (c8 j ag) ?_|refine cA (R2 j ag) ?_|(refine kA ?_;clear hK K)|(intro hg;try exact aw)|exact fin|apply ai)
   all_goals first|omega|exact⟨j + 1,ag,ag,aV rfl (by try(refine av ?_;try exact trivial);try simp[Sc.OW]) ⟨_,rfl⟩ ⟨_,rfl⟩⟩
  ·obtain rfl:j=b.length:=ag;have anJ:0<=nth s.wt bc.toNat * X/\nth s.wt bc.toNat * X<=100 * 3000000:=by rw[<-GJ];exact hwx
   have anP:Sc.OW wt b b b.length - Sc.OW wt b l b.length=nth s.wt bc.toNat * X:=by rw[<-GJ];exact im
   (refine av ?_;try exact trivial)
   repeat'(first|refine aB ?_|refine aC λK hK=> ?_|refine cA (c9) ?_|refine cA (c7) ?_|(refine kA ?_;clear hK K)|(intro hg;try exact aw)|exact fin|apply ai)
   all_goals first|omega|trace_state
 ·refine aR EN ntmps3 results3 call3 rfl ay λw0 S0 M0=> ?_;repeat'(first|(show az _ (.seq (.region 3 _ _) _) _ _;refine b_ ?_)|refine aB ?_|refine aC λK hK=> ?_|refine cA (c1) ?_|refine cA (NM s ‹nD s› hs) ?_|refine cA (c3) ?_|refine cA (c4) ?_|refine cA (c7) ?_|(refine kA ?_;clear hK K)|(intro hg;try exact aw)|exact fin|apply ai)
  all_goals refine cI ?_
  exact absurd ⟨‹nD s›,‹pj s›,⟨ag,ag⟩,⟨ag,ag⟩,‹Sc.gy b›,‹Sc.gy l›,ag,ag⟩ bu
end Go.Proofs.YtopobgihpdaggaaGreatDoor
namespace Go.Ab
open Go.RowKit Go.ChangeShapes Go.WideShapes Go.Deep
def pP (W:World):Gh:=⟨λx=>(W.cell? x).isSome=true,[],[],λ_=>none⟩
theorem acD (W:World):Go.Ab.Good W (pP W).S:=λx hx=>Option.isSome_iff_exists.1 hx
theorem Ng {H:Type}{enc:TypeId×Value->H}{P:Program}{W W':World}{base:Nat}{sp:Nat->Bool}{hd:Bool}:∀{ts:List TypeId} {vs:List Value} {ds:List (DataW H)} {ps:List MemPlace},
  Cv enc P W base sp hd ts vs ds ps->(∀p∈ps,W.sameAt W' p)->Cv enc P W' base sp hd ts vs ds ps
 |[],[],[],_,h,_=>h
 |_::_,_::_,_::_,_,⟨p,q,⟨n,hn⟩,h2,e⟩,hs=>
  ⟨p,q,⟨n,DataW.trod_carry n _ _ _ hn (λx hx=>hs x (by rw[e];exact List.mem_append_left _ hx))⟩,Ng h2 (λx hx=>hs x (by rw[e];exact List.mem_append_right _ hx)),e⟩
theorem afT {H:Type}{enc:TypeId×Value->H}{P:Program}{Q0:FuncId}{fn:Func}{s:ChangeSpec}{W:World}{args:Array Value}{ds gs:List (DataW H)}{before:List MemPlace}{Ds:List D}{tb:TypeId}
  (hv:s.vars=[])(mX:fn.resultTypes=#[tb])(PL:P.underlying tb=some .bool)(tv:(s.fn H ds).results=[.lit (.bool true)]/\(s.fn H ds).args=ds/\(s.fn H ds).vars=[])
  (uZ:laidOutB P=true)(dw:mapsRowed P=true)(abV:∀t e,t < P.types.size->P.underlying t=some (.slice e)->0 < P.cellsOf e)(hts:∀t∈fn.params.toList,t < P.types.size)
  (hT:jG W)(hW:DataW.Whole enc P fn.params.toList s.vars false W args.toList ds gs before)(hC:ax P Q0 Ds (.bool true))(hn:args.toList.length=Ds.length)
  (hR:∀q x,Ds[q]? =some x->Rel W (pP W) (args.toList.getD q bH) x):
  Calls P Q0 args W λe W'=>∃v,e= .returned v/\s.post enc P fn false true false false W args v W':=by
 have DX:=hW;obtain⟨p,q,hA,hV,rfl,Qi,rX⟩:=hW;rw[hv]at hV;obtain⟨rfl,rfl⟩:=trodVars_none hV;have bE:=hC.2 (pP W).S (λ_=>none) W args.toList hT (acD W) (λb f h=>by cases h) hn hR;rw[Array.toArray_toList]at bE;refine bE.mono ?_;rintro e W' ⟨v,S',M',rfl,hg,wJ,b9⟩;obtain rfl:=b9.asBool;have wQ:∀k,k < W.heap.size->W'.heap[k]? =W.heap[k]? :=λk hk=>hg.below.at k hk rfl;have aU:∀x∈p++[],x.block < W.heap.size:=λx hx=>DX.lt x hx;have iW:∀x∈p,W.sameAt W' x:=λx hx=>by
  have h1:=aU x (by simpa using hx);cases x with
  |cell b off=>exact World.cell?_of_block (wQ b h1)
  |map b=>exact wQ b h1
 have Hv:∀sp:Nat->Bool,(∀x∈p,sp x.block=true)->Cv enc P W' 0 sp true fn.params.toList args.toList (s.fn H (ds++[])).args p:=λsp hs=>by
  rw[bN,tv.2.1];exact Ng (DataW.TrodAll.respare (T:=λt=>t < P.types.size) (kids_rows uZ dw) abV hts hA hs) iW
 have PS:∀(b:Nat) (sp:Nat->Bool) (hd:Bool),Cv enc P W' b sp hd fn.resultTypes.toList ((Value.bool true).resultList fn.resultTypes.size) (s.fn H (ds++[])).results []:=λb sp hd=>by
  rw[bN,tv.1,mX];exact trodAll_mk1 (shut_bool PL true)
 have uO:∀sp:Nat->Bool,DataW.TrodVars enc P W' sp s.vars (s.fn H (ds++[])).vars []:=λsp=>by
  rw[bN,tv.2.2,hv];rfl
 have cO:∀(j:Nat) (t:TypeId) (r:Value),fn.resultTypes[j]? =some t->((Value.bool true).resultList fn.resultTypes.size)[j]? =some r->B_ P W' .any 0 t r:=ok_one mX rfl (okWide_bool_mk PL true);have Bk:W.keptBut W' (λ_=>False):=by
  refine⟨hg.below.os,hg.below.output,λi hi=> ?_⟩;rw[wQ i hi];split
  ·rename_i h1 h2;rw[h1]at h2;simp only[fe,Obj.cells.injEq]at h2;obtain⟨rfl,rfl,rfl⟩:=h2;exact⟨rfl,rfl,rfl,λ_ _=>rfl⟩
  ·rename_i h1 h2;rw[h1]at h2;simp only[fe,Obj.map.injEq]at h2;exact Or.inr ⟨h2.1.symm,h2.2.symm⟩
  ·rfl
 have hold:∀x∈p,(λb=>decide (b < W.heap.size)) x.block=true:=λx hx=>by simpa using aU x (by simpa using hx)
 refine⟨_,rfl,ds,[],p++[],[],p,[],DX,PS _ _ _,Hv _ hold,uO _,World.keptBut_mono (λ_ h=>h.elim) Bk,λ_=> ?_⟩;refine⟨cO,_,_,([]++p)++[],⟨[]++p,[],trodAll_append (Hv _ (λ_ _=>rfl)) (PS _ _ _),uO _,rfl, ?_, ?_⟩, ?_⟩
 ·intro b off hp;have jP:MemPlace.cell b off∈p++[]:=by simpa using hp
  have h1:=Qi b off jP;have h2:b < W.heap.size:=aU _ jP;unfold World.frozen? at h1⊢;simp only at h1⊢;rw[wQ b h2];exact h1
 ·intro ha;simpa using rX ha
 ·intro x hx _;simpa using hx
section
variable {H:Type} {enc:TypeId×Value->H} {P:Program} {W:World}
def iv (enc:TypeId×Value->H)(P:Program)(W:World)(t:TypeId)(n:Nat)(Q:List D->Prop):Prop:=
 ∀(fuel:Nat) (cs:List Value) (x:DataW H×List MemPlace),DataW.trod enc P W 0 (λ_=>true) true fuel t cs=some x->
  cs.length=n/\∃ds:List D,ds.length=n/\Q ds/\∀(q:Nat) (d:D),ds[q]? =some d->d.cells=[d]/\(cs.getD q bH).oneCell'=true/\Rel W (pP W) (cs.getD q bH) d
theorem X4 {t:TypeId}(ht:P.underlying t=some (.int .i64)):iv enc P W t 1 (λds=>∃n:Int,ds=[.int .i64 n]):=by
 intro fuel cs x h;obtain⟨n,rfl,_,_⟩:=DataW.trod_int ht h;refine⟨rfl,[.int .i64 n],rfl,⟨n,rfl⟩,λq d hd=> ?_⟩
 match q,hd with
 |0,hd=>cases hd;exact⟨rfl,rfl, .int _ _ _⟩
 |q + 1,hd=>simp at hd
inductive FR (enc:TypeId×Value->H)(P:Program)(W:World):Nat->List Field->Nat->(List D->Prop)->Prop
 |nil (k:Nat):FR enc P W k [] k (λds=>ds=[])
 |cons (k n m:Nat) (f:Field) (fs:List Field) (Q R:List D->Prop) (ho:f.offset=k) (hc:P.cellsOf f.type=n) (h:iv enc P W f.type n Q) (hr:FR enc P W (k + n) fs m R):
   FR enc P W k (f::fs) m (λds=>∃a b,Q a/\R b/\ds=a++b)
theorem FR.le {k m:Nat}{fs:List Field}{Q:List D->Prop}(h:FR enc P W k fs m Q):k<=m:=by
 induction h with
 |nil k=>exact Nat.le_refl _
 |cons k n m f fs Q R ho hc h hr ih=>omega
theorem FR.read {k m:Nat}{fs:List Field}{Q:List D->Prop}(h:FR enc P W k fs m Q):∀(fuel:Nat) (cs:List Value),cs.length=m->(∀f∈fs,∃x,DataW.trod enc P W 0 (λ_=>true) true fuel f.type ((cs.drop f.offset).take (P.cellsOf f.type))=some x)->
  ∃ds:List D,ds.length + k=m/\Q ds/\∀(q:Nat) (d:D),ds[q]? =some d->d.cells=[d]/\(cs.getD (k + q) bH).oneCell'=true/\Rel W (pP W) (cs.getD (k + q) bH) d:=by
 induction h with
 |nil k=>intro fuel cs _ _;exact⟨[],by simp,rfl,λq d hd=>by simp at hd⟩
 |cons k n m f fs Q R ho hc h hr ih=>
  intro fuel cs hl hf;obtain⟨x,hx⟩:=hf f (List.mem_cons_self ..);obtain⟨l1,a,l2,hQ,b9⟩:=h _ _ _ hx;obtain⟨b,l3,hR,abw⟩:=ih fuel cs hl (λg hg=>hf g (List.mem_cons_of_mem _ hg));rw[ho,hc]at b9;refine⟨a++b,by simp;omega,⟨a,b,hQ,hR,rfl⟩,λq d hd=> ?_⟩;rcases Nat.lt_or_ge q a.length with hq|hq
  ·rw[List.getElem?_append_left hq]at hd;have:=b9 q d hd;have e:((cs.drop k).take n).getD q bH=cs.getD (k + q) bH:=by
    simp only[rf,List.getElem?_take,List.getElem?_drop];rw[if_pos ag]
   rw[e]at this;exact this
  ·rw[List.getElem?_append_right hq]at hd;have:=abw _ d hd;rw[show k + n + (q - a.length)=k + q by omega]at this;exact this
theorem pB {t:TypeId}{fs:Array Field}{m:Nat}{Q:List D->Prop}(ht:P.underlying t=some (.struct fs))(hc:P.cellsOf t=m)(h:FR enc P W 0 fs.toList m Q):iv enc P W t m Q:=by
 intro fuel cs x hx;obtain⟨xs,n,rfl,_,hl,hs,hf⟩:=DataW.trod_struct ht hx;have P9:cs.length=m:=hl.trans hc;obtain⟨ds,h1,h2,h3⟩:=h.read n cs P9 (λf hm=>by
  obtain⟨i,hi,rfl⟩:=List.getElem_of_mem hm;have fk:i < fs.size:=by simpa using hi
  have:=hf i fs[i] (by simp[fk]);rw[cX ag]at this;exact⟨_,by simpa using this⟩)
 exact⟨P9,ds,ag,h2,λq d hd=>by have:=h3 q d hd;rw[Nat.zero_add]at this;exact this⟩
theorem ZT {α:Type}{f:Nat->Option α}:∀{n:Nat} {l:List α},(dB n).mapM f=some l->l.length=n/\∀i,i < n->f i=l[i]? :=by
 intro n l h;refine⟨by simpa using Lib.mapM_length h,λi hi=> ?_⟩;obtain⟨b,hb,hf⟩:=Lib.mapM_at h i i (by simp[hi]);rw[hb,hf]
theorem acV {n:Nat}:∀{xs:List D},(∀x∈xs,x.cells.length=n)->0 < n->∀{q:Nat} {d:D},(flat xs)[q]? =some d->∃x,xs[q / n]? =some x/\x.cells[q % n]? =some d:=by
 intro xs hx hn q d hd;have hl:=o8 n xs hx;have hq:=(bm.1 hd).1;rw[hl]at hq;have hi:q / n < xs.length:=Nat.div_lt_of_lt_mul (by rw[S9];exact hq);have:=D5 n xs (q / n) xs[q / n] hx (cX hi) (q % n) (Nat.mod_lt _ hn);rw[show q / n * n + q % n=q by rw[S9];exact Nat.div_add_mod q n]at this;exact⟨_,cX hi,by rw[<-this];exact hd⟩
theorem ags (a:Addr)(i j:Nat):(a.add i).add j=a.add (i + j):=by
 by_cases hi:i=0<;>by_cases hj:j=0<;>simp[Addr.add,hi,hj,Nat.add_assoc]
theorem vW {t e:TypeId}{n:Nat}{α:Type}[Inhabited α]{f:α->D}{Q:List D->Prop}(ht:P.underlying t=some (.slice e))(hn:P.cellsOf e=n)(G7:0 < n)(he:iv enc P W e n Q)(hQ:∀ds,Q ds->ds.length=n->∃a,(f a).cells=ds):
  iv enc P W t 1 (λds=>∃xs:List α,ds=[.list (xs.map f)]/\xs.length<=9223372036854775807):=by
 intro fuel cs x h;rcases open_slice ht h with⟨rfl,hx⟩|⟨a,len,cap,m,k,DD,Pl,rfl,hb,hl,hm,P4,hx,fI⟩
 ·refine⟨rfl,[.list []],rfl,⟨[],rfl,by simp⟩,λq d hd=> ?_⟩
  match q,hd with
  |0,hd=>cases hd;exact⟨rfl,rfl, .nil _ _⟩
  |q + 1,hd=>simp at hd
 ·simp only[if_true]at P4;subst P4;have each:∀i,i < len->∃y:α,(f y).cells.length=n/\∀j d,(f y).cells[j]? =some d->∃v,W.cell? (a.add (i * n + j))=some v/\d.cells=[d]/\v.oneCell'=true/\Rel W (pP W) v d:=λi hi=>by
   obtain⟨dp,h1,h2⟩:=fI i ag;rw[hn]at h1;unfold World.cells? at h1;rw[if_pos (cv _)]at h1;obtain⟨g1,g2⟩:=ZT h1;obtain⟨l1,ds,l2,hq,b9⟩:=he _ _ _ h2;obtain⟨y,hy⟩:=hQ ds hq l2;refine⟨y,by rw[hy,l2],λj d hd=> ?_⟩;rw[hy]at hd;have hj:j < n:=by have:=(bm.1 hd).1;omega
   obtain⟨r1,r2,r3⟩:=b9 j d hd;have hc:=g2 j hj;rw[cX ag,ags]at hc;rw[rf,cX ag,Option.getD_some]at r2 r3;exact⟨_,hc,r1,r2,r3⟩
  obtain⟨y,hy⟩:=choose_lt each;have gU:∀x∈(((dB len).map y).map f),x.cells.length=n:=λx hx=>by
   obtain⟨z,hz,rfl⟩:=iH.1 hx;obtain⟨i,hi,rfl⟩:=iH.1 hz;exact(hy i (List.mem_range.1 hi)).1
  have hlen:(((dB len).map y).map f).length=len:=by simp
  have gV:=o8 n _ gU;rw[hlen]at gV;have key:∀(q:Nat) (d:D),(flat (((dB len).map y).map f))[q]? =some d->∃v,W.cell? (a.add q)=some v/\d.cells=[d]/\v.oneCell'=true/\Rel W (pP W) v d:=λq d hd=>by
   obtain⟨x,h1,h2⟩:=acV gU G7 hd;have hi:q / n < len:=by have:=(bm.1 h1).1;omega
   simp only[dO,List.getElem?_range hi,Option.map_some,fe]at h1;subst h1;have:=(hy (q / n) hi).2 (q % n) d h2;rw[show q / n * n + q % n=q by rw[S9];exact Nat.div_add_mod q n]at this;exact this
  refine⟨rfl,[.list (((dB len).map y).map f)],rfl,⟨_,rfl,by simp only[maxLen]at hm;simp;omega⟩,λq d hd=> ?_⟩
  match q,hd with
  |q + 1,hd=>simp at hd
  |0,hd=>
  cases hd;refine⟨rfl,rfl, .list _ _ _ _ _ n (λq=>(W.cell? (a.add q)).getD bH) hlen.symm gU hl (λq hq=> ?_) (λq d hd=> ?_)⟩
  ·obtain⟨v,h1,_,h3,_⟩:=key q _ (cX hq);exact⟨a,rfl,by rw[h1];rfl,by show(W.cell? _).isSome=true;rw[h1];rfl,by rw[h1];exact h3⟩
  ·obtain⟨v,h1,_,_,h4⟩:=key q d hd;show Rel W _ ((W.cell? (a.add q)).getD bH) d;rw[h1];exact h4
theorem XZ {t:TypeId}{fs:Array Field}{m:Nat}{Q:List D->Prop}{base:Nat}{v:Value}{d:DataW H}{ps:List MemPlace}(hr:iv enc P W t m Q)(ht:P.underlying t=some (.struct fs))
  (nW:B_ P W .any base t v)(h:ue enc P W 0 (λ_=>true) true t v d ps):∃ds,Q ds/\Rel W (pP W) v (.agg ds):=by
 obtain⟨vs,rfl,_⟩:=okWide_struct ht nW;obtain⟨fuel,hf⟩:=h;obtain⟨l1,ds,l2,hq,b9⟩:=hr _ _ _ hf;have uO:(Value.agg vs).cells.toList=vs.toList:=rfl;rw[uO]at l1 b9;have e:∀q,vs.toList.getD q bH=vs.getD q bH:=λq=>by
  rw[rf,Array.getD_eq_getD_getElem?,Array.getElem?_toList]
 refine⟨ds,hq, .agg _ _ _ (by rw[<-Array.length_toList];omega) (λq hq=> ?_) (λq d hd=> ?_)⟩
 ·have:=(b9 q ds[q] (cX hq)).2.1;rw[e]at this;exact this
 ·have:=(b9 q d hd).2.2;rw[e]at this;exact this
theorem X0 {t:TypeId}{v:Value}{d:DataW H}{ps:List MemPlace}{Q:List D->Prop}(hr:iv enc P W t 1 Q)(hv:v.cells.toList=[v])(h:ue enc P W 0 (λ_=>true) true t v d ps):∃x,Q [x]/\Rel W (pP W) v x:=by
 obtain⟨fuel,hf⟩:=h;obtain⟨l1,ds,l2,hq,b9⟩:=hr _ _ _ hf
 match ds,l2 with
 |[x],_=>
  have:=(b9 0 x rfl).2.2;rw[hv]at this;exact⟨x,hq,this⟩
end
end Go.Ab
set_option maxRecDepth 100000
namespace Go.Proofs.YtopobgihpdaggaaGreatDoor
open Go.ChangeShapes Go.WideShapes Go.ChangeAt Go.RowKit Go.Ab
theorem own:ownKnob ae.godebug=none:=aj
theorem aah:laidOutB ae=true:=aj
theorem ZO:mapsRowed ae=true:=aj
theorem acP:∀t e,t < ae.types.size->ae.underlying t=some (.slice e)->0 < ae.cellsOf e:=slices_full_of ae aj
abbrev v_:List (String×DataW Unit):=[("math/bits.deBruijn32tab",Rows.laid_math_bits_deBruijn32tab),("math/bits.deBruijn64tab",Rows.laid_math_bits_deBruijn64tab),("internal/strconv.uint64pow10",Rows.laid_internal_strconv_uint64pow10),("unicode/utf8.acceptRanges",Rows.laid_unicode_utf8_acceptRanges),("unicode/utf8.first",Rows.laid_unicode_utf8_first)]
section
variable {H:Type} {enc:TypeId×Value->H} {W:World}
theorem fG:iv enc ae W 3 1 (λds=>∃n:Int,ds=[i64 n]):=X4 tQ
theorem ym:iv enc ae W 48 2 (λds=>∃p:Int×Int,ds=[i64 p.1,i64 p.2]):=by
 intro fuel cs x h;have:=pB (enc:=enc) (W:=W) (P:=ae) (t:=48) (m:=2) underlying48 aj (.cons 0 1 2 _ _ _ _ rfl aj fG (.cons 1 1 2 _ _ _ _ rfl aj fG (.nil 2))) fuel cs x h;obtain⟨l1,ds,l2,⟨_,_,⟨a,rfl⟩,⟨_,_,⟨b,rfl⟩,rfl,rfl⟩,rfl⟩,h3⟩:=this;exact⟨l1,_,l2,⟨(a,b),rfl⟩,h3⟩
theorem FJ:iv enc ae W 24 1 (λds=>∃l:List Int,ds=[.list (l.map (D.int .i64))]/\l.length<=9223372036854775807):=
 vW underlying24 aj ak fG (λds ⟨c,h⟩ _=>⟨c,h.symm⟩)
theorem Ye:iv enc ae W 23 1 (λds=>∃l:List (Int×Int),ds=[.list (l.map jy)]/\l.length<=9223372036854775807):=
 vW underlying23 aj ak ym (λds ⟨c,h⟩ _=>⟨c,h.symm⟩)
theorem Yo:iv enc ae W 92 3 (λds=>∃c:Ck,ds=[i64 c.day,i64 c.lo,i64 c.hi]):=by
 intro fuel cs x h;have:=pB (enc:=enc) (W:=W) (P:=ae) (t:=92) (m:=3) underlying92 aj (.cons 0 1 3 _ _ _ _ rfl aj fG (.cons 1 2 3 _ _ _ _ rfl aj ym (.nil 3))) fuel cs x h;obtain⟨l1,ds,l2,⟨_,_,⟨a,rfl⟩,⟨_,_,⟨b,rfl⟩,rfl,rfl⟩,rfl⟩,h3⟩:=this;exact⟨l1,_,l2,⟨⟨a,b.1,b.2⟩,rfl⟩,h3⟩
theorem Yn:iv enc ae W 49 1 (λds=>∃l:List Ck,ds=[.list (l.map k8)]/\l.length<=9223372036854775807):=
 vW underlying49 aj ak Yo (λds ⟨c,h⟩ _=>⟨c,h.symm⟩)
theorem Yd:iv enc ae W 51 9 (λds=>∃s:cg,ds=Ah s/\s.ck.length<=9223372036854775807):=by
 intro fuel cs x h;have:=pB (enc:=enc) (W:=W) (P:=ae) (t:=51) (m:=9) underlying51 aj (.cons 0 2 9 _ _ _ _ rfl aj ym (.cons 2 2 9 _ _ _ _ rfl aj ym (.cons 4 1 9 _ _ _ _ rfl aj fG (.cons 5 1 9 _ _ _ _ rfl aj fG (.cons 6 1 9 _ _ _ _ rfl aj fG (.cons 7 1 9 _ _ _ _ rfl aj fG (.cons 8 1 9 _ _ _ _ rfl aj Yn (.nil 9)))))))) fuel cs x h;obtain⟨l1,ds,l2,⟨_,_,⟨a,rfl⟩,⟨_,_,⟨b,rfl⟩,⟨_,_,⟨c,rfl⟩,⟨_,_,⟨d,rfl⟩,⟨_,_,⟨e,rfl⟩,⟨_,_,⟨f,rfl⟩,⟨_,_,⟨l,rfl,hl⟩,rfl,rfl⟩,rfl⟩,rfl⟩,rfl⟩,rfl⟩,rfl⟩,rfl⟩,h3⟩:=this;exact⟨l1,_,l2,⟨⟨a.1,a.2,b.1,b.2,c,d,e,f,l⟩,rfl,hl⟩,h3⟩
abbrev BS:Type:={x:cg×Int//x.1.ck.length<=9223372036854775807}
instance:Inhabited BS:=⟨⟨(⟨0,0,0,0,0,0,0,0,[]⟩,0),cv _⟩⟩
theorem Yq:iv enc ae W 53 10 (λds=>∃x:BS,ds=(k9 x.1).cells):=by
 intro fuel cs x h;have:=pB (enc:=enc) (W:=W) (P:=ae) (t:=53) (m:=10) underlying53 aj (.cons 0 9 10 _ _ _ _ rfl aj Yd (.cons 9 1 10 _ _ _ _ rfl aj fG (.nil 10))) fuel cs x h;obtain⟨l1,ds,l2,⟨_,_,⟨s,rfl,hl⟩,⟨_,_,⟨n,rfl⟩,rfl,rfl⟩,rfl⟩,h3⟩:=this;exact⟨l1,_,l2,⟨⟨(s,n),hl⟩,rfl⟩,h3⟩
theorem Yp:iv enc ae W 22 1 (λds=>∃l:List (cg×Int),ds=[.list (l.map k9)]/\l.length<=9223372036854775807/\∀i,i < l.length->(nth l i).1.ck.length<=9223372036854775807):=by
 intro fuel cs x h;have:=vW (enc:=enc) (W:=W) (P:=ae) (t:=22) (f:=λx:BS=>k9 x.1) underlying22 aj ak Yq (λds ⟨c,h⟩ _=>⟨c,h.symm⟩) fuel cs x h;obtain⟨l1,ds,l2,⟨xs,rfl,hx⟩,h3⟩:=this;refine⟨l1,_,l2,⟨xs.map Subtype.val,by rw[List.map_map];rfl,by simpa using hx,λi hi=> ?_⟩,h3⟩;have fk:i < xs.length:=by simpa using hi
 have e:nth (xs.map Subtype.val) i=(xs[i]).1:=by simp[nth,fk]
 rw[e];exact(xs[i]).2
theorem Ym:iv enc ae W 26 3 (λds=>∃(fl:List (Int×Int)) (tu:List Int) (mo:Int),ds=zp fl tu mo/\fl.length<=9223372036854775807/\tu.length<=9223372036854775807):=by
 intro fuel cs x h;have:=pB (enc:=enc) (W:=W) (P:=ae) (t:=26) (m:=3) underlying26 aj (.cons 0 1 3 _ _ _ _ rfl aj Ye (.cons 1 1 3 _ _ _ _ rfl aj FJ (.cons 2 1 3 _ _ _ _ rfl aj fG (.nil 3)))) fuel cs x h;obtain⟨l1,ds,l2,⟨_,_,⟨a,rfl,ha⟩,⟨_,_,⟨b,rfl,hb⟩,⟨_,_,⟨c,rfl⟩,rfl,rfl⟩,rfl⟩,rfl⟩,h3⟩:=this;exact⟨l1,_,l2,⟨a,b,c,rfl,ha,hb⟩,h3⟩
theorem Yb:iv enc ae W 28 3 (λds=>∃a b c:Int,ds=[i64 a,i64 b,i64 c]):=by
 intro fuel cs x h;have:=pB (enc:=enc) (W:=W) (P:=ae) (t:=28) (m:=3) underlying28 aj (.cons 0 1 3 _ _ _ _ rfl aj fG (.cons 1 1 3 _ _ _ _ rfl aj fG (.cons 2 1 3 _ _ _ _ rfl aj fG (.nil 3)))) fuel cs x h;obtain⟨l1,ds,l2,⟨_,_,⟨a,rfl⟩,⟨_,_,⟨b,rfl⟩,⟨_,_,⟨c,rfl⟩,rfl,rfl⟩,rfl⟩,rfl⟩,h3⟩:=this;exact⟨l1,_,l2,⟨a,b,c,rfl⟩,h3⟩
theorem Yg:iv enc ae W 97 7 (λds=>∃r:ox,ds=(ln r).cells):=by
 intro fuel cs x h;have:=pB (enc:=enc) (W:=W) (P:=ae) (t:=97) (m:=7) underlying97 aj (.cons 0 1 7 _ _ _ _ rfl aj fG (.cons 1 1 7 _ _ _ _ rfl aj fG (.cons 2 1 7 _ _ _ _ rfl aj fG (.cons 3 2 7 _ _ _ _ rfl aj ym (.cons 5 1 7 _ _ _ _ rfl aj fG (.cons 6 1 7 _ _ _ _ rfl aj fG (.nil 7))))))) fuel cs x h;obtain⟨l1,ds,l2,⟨_,_,⟨a,rfl⟩,⟨_,_,⟨b,rfl⟩,⟨_,_,⟨c,rfl⟩,⟨_,_,⟨d,rfl⟩,⟨_,_,⟨e,rfl⟩,⟨_,_,⟨f,rfl⟩,rfl,rfl⟩,rfl⟩,rfl⟩,rfl⟩,rfl⟩,rfl⟩,h3⟩:=this;exact⟨l1,_,l2,⟨⟨a,b,c,d.1,d.2,e,f⟩,rfl⟩,h3⟩
theorem Yl:iv enc ae W 101 3 (λds=>∃r:oz,ds=(lu r).cells):=by
 intro fuel cs x h;have:=pB (enc:=enc) (W:=W) (P:=ae) (t:=101) (m:=3) underlying101 aj (.cons 0 1 3 _ _ _ _ rfl aj fG (.cons 1 1 3 _ _ _ _ rfl aj fG (.cons 2 1 3 _ _ _ _ rfl aj fG (.nil 3)))) fuel cs x h;obtain⟨l1,ds,l2,⟨_,_,⟨a,rfl⟩,⟨_,_,⟨b,rfl⟩,⟨_,_,⟨c,rfl⟩,rfl,rfl⟩,rfl⟩,rfl⟩,h3⟩:=this;exact⟨l1,_,l2,⟨⟨a,b,c⟩,rfl⟩,h3⟩
theorem Yi:iv enc ae W 103 4 (λds=>∃r:oy,ds=(lq r).cells):=by
 intro fuel cs x h;have:=pB (enc:=enc) (W:=W) (P:=ae) (t:=103) (m:=4) underlying103 aj (.cons 0 2 4 _ _ _ _ rfl aj ym (.cons 2 1 4 _ _ _ _ rfl aj fG (.cons 3 1 4 _ _ _ _ rfl aj fG (.nil 4)))) fuel cs x h;obtain⟨l1,ds,l2,⟨_,_,⟨a,rfl⟩,⟨_,_,⟨b,rfl⟩,⟨_,_,⟨c,rfl⟩,rfl,rfl⟩,rfl⟩,rfl⟩,h3⟩:=this;exact⟨l1,_,l2,⟨⟨a.1,a.2,b,c⟩,rfl⟩,h3⟩
theorem Yf:iv enc ae W 29 1 (λds=>∃l:List ox,ds=[.list (l.map ln)]/\l.length<=9223372036854775807):=
 vW underlying29 aj ak Yg (λds ⟨c,h⟩ _=>⟨c,h.symm⟩)
theorem Yk:iv enc ae W 30 1 (λds=>∃l:List oz,ds=[.list (l.map lu)]/\l.length<=9223372036854775807):=
 vW underlying30 aj ak Yl (λds ⟨c,h⟩ _=>⟨c,h.symm⟩)
theorem Yh:iv enc ae W 31 1 (λds=>∃l:List oy,ds=[.list (l.map lq)]/\l.length<=9223372036854775807):=
 vW underlying31 aj ak Yi (λds ⟨c,h⟩ _=>⟨c,h.symm⟩)
theorem Ya:iv enc ae W 33 9 (λds=>∃w:mC,ds=jK w/\w.rp.length<=9223372036854775807/\w.lk.length<=9223372036854775807/\w.pt.length<=9223372036854775807):=by
 intro fuel cs x h;have:=pB (enc:=enc) (W:=W) (P:=ae) (t:=33) (m:=9) underlying33 aj (.cons 0 1 9 _ _ _ _ rfl aj fG (.cons 1 1 9 _ _ _ _ rfl aj Yf (.cons 2 1 9 _ _ _ _ rfl aj Yk (.cons 3 1 9 _ _ _ _ rfl aj Yh (.cons 4 1 9 _ _ _ _ rfl aj fG (.cons 5 1 9 _ _ _ _ rfl aj fG (.cons 6 1 9 _ _ _ _ rfl aj fG (.cons 7 1 9 _ _ _ _ rfl aj fG (.cons 8 1 9 _ _ _ _ rfl aj fG (.nil 9)))))))))) fuel cs x h;obtain⟨l1,ds,l2,⟨_,_,⟨a,rfl⟩,⟨_,_,⟨b,rfl,hb⟩,⟨_,_,⟨c,rfl,hc⟩,⟨_,_,⟨d,rfl,hd⟩,⟨_,_,⟨e,rfl⟩,⟨_,_,⟨f,rfl⟩,⟨_,_,⟨g,rfl⟩,⟨_,_,⟨i,rfl⟩,⟨_,_,⟨j,rfl⟩,rfl,rfl⟩,rfl⟩,rfl⟩,rfl⟩,rfl⟩,rfl⟩,rfl⟩,rfl⟩,rfl⟩,h3⟩:=this;exact⟨l1,_,l2,⟨⟨a,b,c,d,e,f,g,i,j⟩,rfl,hb,hc,hd⟩,h3⟩
theorem Yj:iv enc ae W 35 3 (λds=>∃a b c:Int,ds=[i64 a,i64 b,i64 c]):=by
 intro fuel cs x h;have:=pB (enc:=enc) (W:=W) (P:=ae) (t:=35) (m:=3) underlying35 aj (.cons 0 1 3 _ _ _ _ rfl aj fG (.cons 1 1 3 _ _ _ _ rfl aj fG (.cons 2 1 3 _ _ _ _ rfl aj fG (.nil 3)))) fuel cs x h;obtain⟨l1,ds,l2,⟨_,_,⟨a,rfl⟩,⟨_,_,⟨b,rfl⟩,⟨_,_,⟨c,rfl⟩,rfl,rfl⟩,rfl⟩,rfl⟩,h3⟩:=this;exact⟨l1,_,l2,⟨a,b,c,rfl⟩,h3⟩
theorem Yc:iv enc ae W 37 25 (λds=>∃s:bh,ds=cR s/\Cf s):=by
 intro fuel cs x h;have:=pB (enc:=enc) (W:=W) (P:=ae) (t:=37) (m:=25) underlying37 aj (.cons 0 1 25 _ _ _ _ rfl aj Yp (.cons 1 3 25 _ _ _ _ rfl aj Ym (.cons 4 3 25 _ _ _ _ rfl aj Yb (.cons 7 1 25 _ _ _ _ rfl aj fG (.cons 8 1 25 _ _ _ _ rfl aj fG (.cons 9 1 25 _ _ _ _ rfl aj fG (.cons 10 9 25 _ _ _ _ rfl aj Ya (.cons 19 1 25 _ _ _ _ rfl aj fG (.cons 20 1 25 _ _ _ _ rfl aj FJ (.cons 21 3 25 _ _ _ _ rfl aj Yj (.cons 24 1 25 _ _ _ _ rfl aj fG (.nil 25)))))))))))) fuel cs x h;obtain⟨l1,ds,l2,⟨_,_,⟨st,rfl,gL,hs2⟩,⟨_,_,⟨fl,tu,mo,rfl,hf,ht⟩,⟨_,_,⟨to,tf,tm,rfl⟩,⟨_,_,⟨wd,rfl⟩,⟨_,_,⟨rw,rfl⟩,⟨_,_,⟨sl,rfl⟩,⟨_,_,⟨w,rfl,qG,wu,hw3⟩,⟨_,_,⟨cl,rfl⟩,⟨_,_,⟨wt,rfl,pG⟩,⟨_,_,⟨pb,pr,pl,rfl⟩,⟨_,_,⟨dy,rfl⟩,rfl,rfl⟩,rfl⟩,rfl⟩,rfl⟩,rfl⟩,rfl⟩,rfl⟩,rfl⟩,rfl⟩,rfl⟩,rfl⟩,h3⟩:=this;exact⟨l1,_,l2,⟨⟨st,fl,tu,mo,to,tf,tm,wd,rw,sl,w,cl,wt,pb,pr,pl,dy⟩,rfl,gL,hf,ht,qG,wu,hw3,pG,hs2⟩,h3⟩
theorem agc {base:Nat}{v:Value}{d:DataW H}{ps:List MemPlace}(nW:B_ ae W .any base 37 v)(h:ue enc ae W 0 (λ_=>true) true 37 v d ps):∃s:bh,Cf s/\Rel W (pP W) v (fT s):=by
 obtain⟨ds,⟨s,rfl,hs⟩,hr⟩:=XZ Yc underlying37 nW h;exact⟨s,hs,hr⟩
theorem Sf {base:Nat}{v:Value}{d:DataW H}{ps:List MemPlace}(nW:B_ ae W .any base 24 v)(h:ue enc ae W 0 (λ_=>true) true 24 v d ps):∃l:List Int,l.length<=9223372036854775807/\Rel W (pP W) v (ints l):=by
 obtain⟨a0,l0,c0,rfl⟩:=okWide_slice underlying24 nW;obtain⟨x,⟨l,hx,hl⟩,hr⟩:=X0 FJ rfl h;cases hx;exact⟨l,hl,hr⟩
theorem Sg {base:Nat}{v:Value}{d:DataW H}{ps:List MemPlace}(nW:B_ ae W .any base 3 v)(h:ue enc ae W 0 (λ_=>true) true 3 v d ps):∃n:Int,Rel W (pP W) v (i64 n):=by
 obtain⟨n,rfl,_⟩:=open_int tQ nW h;exact⟨n, .int _ _ _⟩
theorem agm (os:Os)(args:Array Value):laidMetH ae v_ ((World.laidAll ae os v_).forCall (λ_ _=>0) ⟨#[],args,[]⟩).memory:=by
 rw[MakeChecks.laidMetH_plain _ _ _ aj];exact laidMet_laidAll _ aj aj
theorem VP {W:World}(h:laidMetH ae v_ W):jG W:=by
 rw[MakeChecks.laidMetH_plain _ _ _ aj]at h;obtain⟨ps,⟨g0,t0,iF,f0,p0,q0,hg0,PM,mV,jn,⟨g1,t1,Ef,f1,p1,q1,bM,ht1,hv1,Bt,⟨g2,t2,eE,f2,p2,q2,fy,ht2,j8,eU,_,_⟩,_⟩,_⟩,_,_⟩:=h;have gN:ae.globalNamed "internal/strconv.uint64pow10" =some 1:=aj;obtain rfl:=jb (gN.symm.trans fy);have hT:∃t n e,(ae.globals[1]?).map (·.type)=some t/\ae.underlying t=some (.array n e)/\ae.underlying e=some (.int .u64)/\ae.cellsOf e=1/\ae.cellsOf t=n:=⟨286,20,228,aj,aj,aj,aj,aj⟩;obtain⟨t,n,e,a1,a2,a3,a4,a5⟩:=hT;obtain rfl:=jb (a1.symm.trans ht2);have aE:=Lib.cells_of_tab (zs:=Lib.pow10Tab) a2 a3 a4 a5 eU;intro b vs hv;unfold Af at hv;split at hv
 ·cases hv;unfold World.var? at j8;rw[gN]at j8;simp only[Option.bind_some]at j8;split at j8
  ·rename_i cs tt fz hh;cases j8;refine⟨tt,fz, ?_⟩;rw[hh,<-aE]
  ·cases j8
 ·cases hv
end
end Go.Proofs.YtopobgihpdaggaaGreatDoor
