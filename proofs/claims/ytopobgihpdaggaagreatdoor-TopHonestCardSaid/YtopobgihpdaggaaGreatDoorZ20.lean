import Derived.Test.YtopobgihpdaggaaGreatDoorZ19
set_option linter.unusedVariables false
set_option linter.unusedSimpArgs false
open And renaming intro->ai
open Bool renaming and_true->zU,not_false->pv,not_true->Cx
open ByteArray renaming mk->gA
open Go.Lib renaming decDigits->oA,decDigits_length->ag0,nDigits_small->agZ,trimPrefix->Tj,indexByte->vv
open Int renaming fdiv->vA,mul_le_mul_of_nonneg_right->Cq
open List renaming getElem_mem->E1,length_take->mG,mem_cons_of_mem->fE,mem_cons_self->ey,replicate->bP,take_length->E0,take_succ_eq_append_getElem->EZ
open Nat renaming le_refl->cx,zero_le->cv
open Go.Proofs.Tryz renaming prog->ae
open Go.Proofs.Tryz
namespace Go.Proofs.YtopobgihpdaggaaGreatDoor
set_option maxRecDepth 100000
set_option maxHeartbeats 4000000
open Go.Ab
attribute[local irreducible] az dI dR ax aT IA fP aZ gZ jv vU
theorem XW (σ:Nat->Option Nat)(l:List (Nat×D)):uw σ (bj l)=bj (l.map λp=>(p.1,p.2.cP σ)):=by
 induction l with
 |nil=>funext m;simp[uw,bj,eC,D.cP]
 |cons e l ih=>
  obtain⟨n,d⟩:=e
  funext m
  have:=congrFun ih m;simp only[uw]at this;simp only[uw,cG,List.map_cons,put];split
  ·rfl
  ·exact this
theorem An {c:Ctx}{n:Nat}{l l':List (Nat×D)}{bx aF:List Bx}{aL:List Row}(ix:List Nat)(hn:ix.Nodup)(h0:∀i,i < c.β0.length->ix[i]? =some i)(hl:(l.map λp=>(p.1,p.2.cP (pos ix 0)))=l')(hb:jY ix bx=aF):
  aO c ⟨n,bj l,bx,aL⟩ ⟨n,bj l',aF,aL⟩:=by
 have:=aO.select (c:=c) (n:=n) (sl:=bj l) (bx:=bx) (aL:=aL) ix hn h0;rw[XW,hl,hb]at this;exact this
theorem ZI (x:Int):ax ae 69 [ints [x]] (i64 x):=by
 refine aR func69 ntmps69 results69 call69 rfl ay λw0 S0 M0=> ?_;repeat'(first|(show az _ (.loop _) _ _;refine lJ 1 ?_)|(refine lp ?_)|refine aB ?_|refine aC λK hK=> ?_|(refine kA ?_;clear hK K)|(intro hg;try exact aw)|exact fin|apply ai)
 all_goals rfl
theorem ZN (x:Int):ax ae 70 [ints [x]] (i64 x):=by
 refine aR func70 ntmps70 results70 call70 rfl ay λw0 S0 M0=> ?_;repeat'(first|(show az _ (.loop _) _ _;refine lJ 1 ?_)|(refine lp ?_)|refine aB ?_|refine aC λK hK=> ?_|(refine kA ?_;clear hK K)|(intro hg;try exact aw)|exact fin|apply ai)
 all_goals rfl
theorem OR {g w:Int}(h1: -30000<=g/\g<=20000)(h2:0<=w/\w<=1000): -30000000<=g * w/\g * w<=20000000:=by
 have a:=Cq h1.1 h2.1;have b:=Cq h1.2 h2.1;omega
theorem ada:vA 1 (2 ^ 0)=1:=ak
theorem ac':vA 1 (2 ^ 1)=0:=ak
theorem ac_:vA 1 (2 ^ 2)=0:=ak
theorem ac9:vA 2 (2 ^ 0)=2:=ak
theorem ac8:vA 2 (2 ^ 1)=1:=ak
theorem ac7:vA 2 (2 ^ 2)=0:=ak
theorem ac6:vA 4 (2 ^ 0)=4:=ak
theorem ac5:vA 4 (2 ^ 1)=2:=ak
theorem ac4:vA 4 (2 ^ 2)=1:=ak
theorem Uy:(mapOf ae 125).isSome=true:=aj
theorem U6 (s:bh)(cost day bc:Int)(ps:List Int)(cls:Nat)(v:Int)(bE:2<=s.cl/\s.cl<=3)(aU:(cls:Int) < s.cl)(hp:Sc.gy ps)(dV:(ps.length:Int)=s.cl)(eh:0<=bc/\bc<=(s.wt.length:Int) - 1)(pG:0<=nth s.wt bc.toNat/\nth s.wt bc.toNat<=1000)(hv:v=Sc.Gn ps cls * nth s.wt bc.toNat)(hw:s.wt.length<=5)(M:List D)(ns k:Nat):
  aT ae 30 [.box 0 0] [.mu (cr s cost), .mp [(.agg [i64 day,i64 bc], .box 2 0)], .mu [ints ps,i64 (2 ^ cls)]] [cU M,aG ns,aH k] (λd aF _=>d= .aQ [.agg [i64 v,i64 v],i64 0]/\aF=[.mu (cr s cost), .mp [(.agg [i64 day,i64 bc], .box 2 0)], .mu [ints ps,i64 (2 ^ cls)], .mu [i64 v,i64 v]]):=by
 have c1:=F' s cost [.mp [(.agg [i64 day,i64 bc], .box 2 0)], .mu [ints ps,i64 (2 ^ cls)], .mu [i64 0,i64 0]] [cU M,aG ns,aH k];have c2:=Sc.QK ps cls;rw[if_pos ⟨hp,ag,ag⟩,if_pos ⟨hp,ag,ag⟩,Int.toNat_natCast]at c2;obtain⟨pw,yI⟩:∃pw:Int,pw=2 ^ cls:=⟨_,rfl⟩;rw[<-yI]at c1⊢;have tz:(s.cl=2/\cls=0/\pw=1)\/(s.cl=2/\cls=1/\pw=2)\/(s.cl=3/\cls=0/\pw=1)\/(s.cl=3/\cls=1/\pw=2)\/(s.cl=3/\cls=2/\pw=4):=by
  have:cls=0\/cls=1\/cls=2:=ag;rcases this with rfl|rfl|rfl<;>simp at yI<;>omega
 clear yI;have hb:=OR (Sc.xV (Sc.gy.small hp) cls) pG;have c3:=ZI (Sc.Gn ps cls * nth s.wt bc.toNat);have c4:=ZN (Sc.Gn ps cls * nth s.wt bc.toNat);refine cV func30 ntmps30 results30 call30 rfl ay λW0 S0 M0 own β hβ=> ?_;repeat'(first|(show az _ (.seq (.region 4 _ _) _) _ _;refine b_ ?_)|(show az _ (.region 1 _ _) _ _;refine eo 1 rfl (λK1 aK=> ?_);refine av ?_)|(refine aK _ (cC c1 (by show(12:Nat) < 82;decide) rfl rfl rfl rfl ?_);clear aK K1;rintro d aF aL ⟨rfl,rfl,rfl⟩;simp only[bF,Nat.reduceAdd];refine av ?_)|refine aB ?_|refine aC λK hK=> ?_|(refine kA ?_;clear hK K)|(intro hg;try exact aw)|exact fin|apply ai)
 refine cI ?_;refine agG (n:=4) rfl Uy (λK1 aK=> ?_)
 (refine av ?_;try exact trivial)
 refine aK _ 1 [(.agg [i64 day,i64 bc], .box 2 0)] rfl rfl (cx _) (by show(18:Nat) < 82;decide) (λJ hi gF=> ?_);clear aK K1;refine SB (agt 2 (NO (B5 ?_)));refine Sz rfl (by show(19:Nat) < 82;decide) (λh=> ?_) (λp _ hp=> ?_)
 ·rw[gF]at h;cases h
 rw[gF]at hp;obtain rfl:(.agg [i64 day,i64 bc], .box 2 0)=p:=by injection hp
 (refine av ?_;try exact trivial)
 simp only[hi];refine⟨rfl, ?_⟩;show jv _ _ _ _ _ _;refine B5 (SA ?_)
 (refine av ?_;try exact trivial)
 refine agu ?_;show jv _ _ _ _ _ _;refine SB (B5 ?_);refine agx rfl gF rfl (by show(21:Nat) < 82;decide) ?_
 (refine av ?_;try exact trivial)
 simp only[hi];refine⟨rfl, ?_⟩;show jv _ _ _ _ _ _;refine agv (λw1 S1 M1 anG β1 anI=> ?_);simp only[hi];rcases tz with⟨zm,rfl,rfl⟩|⟨zm,rfl,rfl⟩|⟨zm,rfl,rfl⟩|⟨zm,rfl,rfl⟩|⟨zm,rfl,rfl⟩;all_goals
  repeat'(first|(show az _ (.loop _) _ _;refine Ez 7 3 1 rfl ?_;refine lJ 4 ?_)|(refine lp ?_)|refine bK ?_|((first|(show az _ (.region 14 _ true) _ _;refine agJ [] [] Tryz.ty.mixed aj λK hK=> ?_)|(show az _ (.region 16 _ true) _ _;refine tN [] Tryz.ty.mixed aj λK hK=> ?_)|show Sep _ _|show vE _ _|refine bL λK hK=> ?_|refine bI ?_|show bC _ _ _ _ _|refine bl (c2) ?_|refine bl (c3) ?_|refine bl (c4) ?_);(refine sX (ai @zm (ai @ada (ai @ac' (ai @ac_ (ai @ac9 (ai @ac8 (ai @ac7 (ai @ac6 (ai @ac5 (@ac4)))))))))) ?_;try exact trivial))|(refine kA ?_;clear hK K)|(intro hg;try exact aw)|exact fin|apply ai)
 all_goals first|exact rfl|skip
 all_goals
  show vU _ _ _ _ _ _ _;refine NO (B5 ?_);refine Sz rfl (by show(19:Nat) < 82;decide) (λ_=> ?_) (λp h=>by cases h)
  (refine av ?_;try exact trivial)
  try simp only[hi]
  refine⟨rfl, ?_⟩;show jv _ _ _ _ _ _;refine B5 (SA ?_)
  (refine av ?_;try exact trivial)
  refine agw ?_;simp only[CI,Ie,eq_self,if_true,cF];repeat'(first|(show az _ .ret _ _;refine b_ ?_)|refine aB ?_|refine aC λK hK=> ?_|(refine kA ?_;clear hK K)|(intro hg;try exact aw)|exact fin|apply ai)
  refine cI ?_;refine eI (jZ [(2, .box 3 0),(3,i64 0)] (by simp[put])) ?_;refine eI (An [0,1,2,3] (l':=[(2, .box 3 0),(3,i64 0)]) ak (Dm (k:=3) (by rw[hβ];rfl) ak) (by simp[D.cP,pos]) rfl) ?_;refine oo ?_
  (refine av ?_;try exact trivial)
  simp[hv,zm,pos]
end Go.Proofs.YtopobgihpdaggaaGreatDoor
namespace Go.Proofs.YtopobgihpdaggaaGreatDoor
set_option maxRecDepth 100000
set_option maxHeartbeats 4000000
open Go.Ab
attribute[local irreducible] az dI dR ax aT IA fP aZ gZ
theorem No {s:bh}(h:pj s):(2<=s.cl/\s.cl<=3)/\(1<=s.wt.length/\s.wt.length<=3)/\∀i,i < s.wt.length->0<=nth s.wt i/\nth s.wt i<=100:=
 have h1:=h.2.2.2.2.2.2.2.1
 ⟨h1.1,h1.2.1,h1.2.2.2.1⟩
abbrev af0 (s:bh)(cost:Int)(k:Nat):List D:=cR s++[.own 0, .own 1, .bz k,i64 cost, .own 2, .bool true]
theorem Zj (s:bh)(h:pj s)(hs:nD s):aT ae 26 [fT s] [.mu (cR s)] [] (λd aF aL=>d= .aQ [.box 1 0,i64 0]/\(∃x0,aF=[x0, .mu (af0 s 0 2), .mp []])/\aL=[cU (bP s.dy.toNat (.agg (ew s))),aG s.dy.toNat,aH 0]):=by
 have c:=(Zi s h hs).frame [] (cu:=[fT s]) (B:=[.mu (cR s)]) ay ay rfl (by simp[D.cP,fW]);refine c.mono ?_;rintro d bx rw ⟨d0,pd,⟨rfl,rfl,rfl⟩,_,rfl,rfl⟩;refine⟨?_,⟨qY [] 1 [.mu (cr s 0), .mp []] 0 (.mu (cR s)), ?_⟩,rfl⟩
 ·simp[D.cP,fW,up,oF]
 ·simp[pR,nq,up,oF,gH,fW,D.cP]
theorem On (s:bh)(h:pj s)(hs:nD s)(day bc:Int)(ps:List Int)(cls:Nat)(hn:0<=day/\day<=s.dy - 1)(eh:0<=bc/\bc<=(s.wt.length:Int) - 1)(hp:Sc.gy ps)(dV:(ps.length:Int)=s.cl)(aU:(cls:Int) < s.cl):
  ax ae 8 [fT s,i64 day,i64 bc,ints ps,i64 cls] (.aQ [i64 (Sc.Gn ps cls * nth s.wt bc.toNat), .bool true]):=by
 obtain⟨bE,hwl,GK⟩:=No h;have iC:=h.2.1;obtain⟨M,hM⟩:∃M:List D,M=bP s.dy.toNat (.agg (ew s)):=⟨_,rfl⟩;obtain⟨ns,rT⟩:∃ns:Nat,ns=s.dy.toNat:=⟨_,rfl⟩;have c1:=Zj s h hs;rw[<-hM,<-rT]at c1;have yI:(4:Int)<=2 ^ s.cl.toNat/\(2:Int) ^ cls<=2 ^ s.cl.toNat - 1/\1<=(2:Int) ^ cls:=by
  obtain⟨m,hm⟩:∃m:Nat,s.cl=m:=⟨s.cl.toNat,ag⟩;rw[hm];have:(m=2\/m=3):=ag;have:cls=0\/cls=1\/(cls=2/\m=3):=ag;rcases‹m=2\/m=3›with rfl|rfl<;>rcases this with rfl|rfl|⟨rfl,h3⟩<;>first|decide|(exact absurd h3 ak)
 have c2:=Wd s 0 day bc ps iC ag hn eh hp dV ag ag M ns 0 ag;have c3:=afM s 0 day bc (2 ^ cls) ps iC ag hn eh ag ⟨yI.2.2,yI.2.1⟩ M ns 1 ag;have pG:=GK bc.toNat ag;have c4:=U6 s 0 day bc ps cls _ bE aU hp dV eh ag rfl ag M ns 2;have c5:=Sc.Nx (cls:Int) ag ag;rw[Int.toNat_natCast]at c5;have hb:=OR (Sc.xV (Sc.gy.small hp) cls) (show 0<=nth s.wt bc.toNat/\nth s.wt bc.toNat<=1000 by omega);have c6:=Sc.YX (Sc.Gn ps cls * nth s.wt bc.toNat);rw[decide_eq_true ag]at c6;refine aR func8 ntmps8 results8 call8 rfl ay λw0 S0 M0=> ?_;repeat'(first|(show az _ (.region 1 _ _) _ _;refine eo 1 rfl (λK1 aK=> ?_);refine av ?_)|(refine aK _ (cC c1 (by show(18:Nat) < 65;decide) rfl rfl rfl rfl ?_);clear aK K1;rintro d aF aL ⟨rfl,⟨x0,rfl⟩,rfl⟩;simp only[bF,Nat.reduceAdd];refine av ?_)|(show az _ (.seq (.region 2 _ _) _) _ _;refine b_ ?_)|(show az _ (.region 2 _ _) _ _;refine b_ ?_)|refine aB ?_|refine aC λK hK=> ?_|(refine kA ?_;clear hK K)|(intro hg;try exact aw)|exact fin|apply ai)
 refine cI ?_;refine eI (jZ [(1,i64 day),(2,i64 bc),(3,ints ps),(4,i64 cls),(10,i64 0),(11, .bool false),(12, .box 1 0),(13,i64 0)] (by simp[put])) ?_;refine eI (An [1,2] (l':=[(1,i64 day),(2,i64 bc),(3,ints ps),(4,i64 cls),(10,i64 0),(11, .bool false),(12, .box 0 0),(13,i64 0)]) (aF:=[.mu (cr s 0), .mp []]) ak (λi hi=>by cases hi) (by simp[D.cP,pos]) (by simp[jY,gH,fW,D.cP,pos])) ?_;refine Ew ?_;refine agF 11 8 (λN s1=>mz _ N (.func 27) [.tmp 28, .tmp 29, .tmp 30, .tmp 31] (some 32) s1) (λ_ _ h=>aZ.rF h) (λN s1=>mz _ N (.func 28) [.tmp 36, .tmp 37, .tmp 38, .tmp 40] (some 41) s1) (λ_ _ h=>aZ.rF h) rfl rfl (λK1 aK=> ?_)
 (refine av ?_;try exact trivial)
 refine aK _ (vk rfl rfl (cC c2 (by show(32:Nat) < 65;decide) rfl rfl rfl rfl ?_));clear aK K1;rintro d aF aL ⟨rfl,rfl,rfl⟩;intro K2 n5;simp only[bF,Nat.reduceAdd]
 (refine av ?_;try exact trivial)
 repeat'(first|(refine n5 _ (vk rfl rfl (cC c3 (by show(41:Nat) < 65;decide) rfl rfl rfl rfl ?_));clear n5 K2;rintro d aF aL ⟨rfl,rfl,rfl⟩;simp only[bF,Nat.reduceAdd];refine av ?_)|(show az _ (.region 4 _ _) _ _;refine eo 1 rfl (λK1 aK=> ?_);refine av ?_)|(refine aK _ (cC c4 (by show(46:Nat) < 65;decide) rfl rfl rfl rfl ?_);clear aK K1;rintro d aF aL ⟨rfl,rfl⟩;simp only[bF,Nat.reduceAdd];refine av ?_)|refine aB ?_|refine aC λK hK=> ?_|refine cA (c5) ?_|refine cA (c6) ?_|(refine kA ?_;clear hK K)|(intro hg;try exact aw)|exact fin|apply ai)
end Go.Proofs.YtopobgihpdaggaaGreatDoor
namespace Go.Proofs.YtopobgihpdaggaaGreatDoor
set_option maxRecDepth 100000
set_option maxHeartbeats 4000000
open Go.Ab Go.mD
attribute[local irreducible] az dI dR ax IA gZ
theorem OV (l:List UInt8):(gA l.toArray).data.toList=l:=by simp
theorem ZG (l:List UInt8):(gA l.toArray).size=l.length:=by show l.toArray.size=_;simp
theorem qp (l:List UInt8):(gA l.toArray).toList=l:=by rw[Go.Lib.toList_data,OV]
theorem OQ:∀(k u:Nat),u < 10 ^ (k + 1)->Go.Lib.nDigits u<=k + 1
 |0,u,h=>by rw[agZ ag];exact cx _
 |k + 1,u,h=>by
  by_cases hu:u < 10
  ·rw[agZ hu];omega
  ·rw[Go.Lib.nDigits_big hu];have:=OQ k (u / 10) (by rw[Nat.pow_succ]at h;omega);omega
theorem Rq {u:Nat}(h:u<=99999):(oA u).length<=5:=by rw[ag0];exact OQ 4 u ag
theorem aeA (u:Nat):1<=(oA u).length:=by rw[ag0];exact Go.Lib.nDigits_pos u
def jR (n:Int):ByteArray:=⟨(oA n.natAbs).toArray⟩
theorem BP (n:Int):(jR n).size=(oA n.natAbs).length:=ZG _
theorem U5 (n:Int):ax ae 153 [.str (itoa n), .str ⟨#[45]⟩] (.str (jR n)):=by
 have h:=U4 (itoa n) ⟨#[45]⟩;have e:Tj (itoa n).data.toList (gA #[45]).data.toList=oA n.natAbs:=by
  show Tj (gA (Go.Lib.itoa n).toArray).data.toList [45]=_;rw[OV];unfold Tj Go.Lib.hasPrefix;by_cases hn:n < 0
  ·rw[aaY n hn];simp[List.isPrefixOf]
  ·rw[Pw n ag];have e2:n.natAbs=n.toNat:=ag;rw[e2];rw[if_neg];intro hp;cases hd:oA n.toNat with
   |nil=>exact Rp _ hd
   |cons b l=>
    rw[hd]at hp;simp only[List.isPrefixOf,zU,beq_iff_eq]at hp;exact aeB n.toNat (by rw[hd,<-hp];exact ey ..)
 rw[e]at h;exact h
theorem Ur {l:List UInt8}{k:Nat}(h:k < l.length):val (l.take (k + 1))=10 * val (l.take k) + (l[k].toNat - 48):=by
 rw[EZ h,M_]
theorem Na:∀(l:List UInt8) (acc:Nat),(∀b∈l,oP b)->l.foldl (λn b=>10 * n + (b.toNat - 48)) acc + 1<=(acc + 1) * 10 ^ l.length
 |[],acc,_=>by simp
 |b::l,acc,h=>by
  have h2:=h b (ey ..);unfold oP at h2;have ih:=Na l (10 * acc + (b.toNat - 48)) (λx hx=>h x (fE _ hx));rw[List.foldl_cons,List.length_cons,Nat.pow_succ];refine Nat.le_trans ih ?_;rw[<-Nat.mul_assoc,Nat.mul_right_comm];exact Nat.mul_le_mul_right _ ag
theorem Us (l:List UInt8)(h:∀b∈l,oP b):val l < 10 ^ l.length:=by
 have:=Na l 0 h;unfold val;omega
def rG (n:Int)(k:Nat):Int:=((val ((oA n.natAbs).take k):Nat):Int)
theorem Ro (n:Int){k:Nat}(hk:k < (jR n).size):(jR n)[k]'hk=(oA n.natAbs)[k]'(by rw[<-BP];exact hk):=rfl
theorem HZ (n:Int){k:Nat}(hk:k < (jR n).size):oP ((jR n)[k]'hk):=by
 rw[Ro];exact H2 _ _ (E1 _)
theorem Zs (n:Int){k:Nat}(hk:k < (jR n).size):rG n (k + 1)=10 * rG n k + (((jR n)[k]'hk).toNat - 48:Int):=by
 have h2:=HZ n hk;unfold oP at h2;have hl:k < (oA n.natAbs).length:=by rw[<-BP];exact hk
 have e:(jR n)[k]'hk=(oA n.natAbs)[k]'hl:=Ro n hk
 unfold rG;rw[Ur hl,<-e];omega
theorem Zt (n:Int)(h:n.natAbs<=99999)(k:Nat):0<=rG n k/\rG n k < 100000:=by
 unfold rG;have h1:=Us ((oA n.natAbs).take k) (λb hb=>H2 _ b (List.mem_of_mem_take hb));have h2:((oA n.natAbs).take k).length<=5:=by have:=Rq h;rw[mG];omega
 have h3:10 ^ ((oA n.natAbs).take k).length<=10 ^ 5:=Nat.pow_le_pow_right ak h2;omega
theorem Zu (n:Int):rG n (jR n).size=n.natAbs:=by
 unfold rG;rw[BP,E0,Ut]
def ag6 (s:ByteArray):Prop:=∀k (h:k < s.size),(s[k]'h).toNat < 128
theorem aez (n:Int):ag6 (jR n):=λk hk=>by have:=HZ n hk;unfold oP at this;omega
theorem aaZ (n:Int):itoa (n.natAbs:Int)=jR n:=by
 unfold itoa jR;rw[Pw _ ag];simp
theorem af3 (n:Int)(h:n.natAbs<=99999)(h0:0<=n):ax ae 112 [.str (itoa n)] (i64 n):=by
 have hd5:(jR n).size<=5:=by rw[BP];exact Rq h
 have Bt:1<=(jR n).size:=by rw[BP];exact aeA _
 refine aR func112 ntmps112 results112 call112 rfl ay λw0 S0 M0=> ?_;repeat'(first|(show az _ (.seq (.region 2 _ _) _) _ _;refine b_ ?_)|refine aB ?_|refine aC λK hK=> ?_|refine cA (U5 n) ?_|(refine kA ?_;clear hK K)|(intro hg;try exact aw)|exact fin|apply ai)
 refine cI ?_;refine Iy (str:=jR n) rfl aj (aez n) (by show 9 < 51;decide) (by show 10 < 51;decide) (by show 11 < 51;decide) (by show 12 < 51;decide) ak rfl rfl rfl (λk=>[(0, .str (itoa n)),(3, .str (jR n)),(4,i64 (rG n k))]) (λk=>rfl) (λB=>aV rfl (by try(refine av ?_;try exact trivial);try simp[rG,val]) ⟨_,rfl⟩ ⟨_,rfl⟩) (λB k hk w1 S1 M1 o1=> ?_) (λB=> ?_)
 ·have Br:=HZ n hk;have abr:=Zs n hk;have r8:=Zt n h k;unfold oP at Br;generalize((jR n)[k]'hk).toNat=c at *
  show az ⟨ae,w1,S1,M1,none,o1,[]⟩ _ _ _
  (refine av ?_;try exact trivial)
  repeat'(first|refine aB ?_|refine aC λK hK=> ?_|(refine kA ?_;clear hK K)|(intro hg;try exact aw)|exact fin|apply ai)
  all_goals first|trivial|exact aV rfl (by try(refine av ?_;try exact trivial);try simp[abr]) ⟨_,rfl⟩ ⟨_,rfl⟩
 ·simp only[cF];have e0:((jR n).toList == (gA #[]).toList)=false:=by
   rw[show(gA #[]).toList=[]from qp [],show(jR n).toList=oA n.natAbs from qp _];cases hc:oA n.natAbs with
   |nil=>exact absurd hc (Rp _)
   |cons _ _=>rfl
  have e1:=Zu n;have e2:=aaZ n;have e3:itoa n=jR n:=by rw[<-e2];congr 1;omega
  simp -implicitDefEqProofs only[go_sem,kM,bF,Nat.reduceAdd,Nat.reduceSub,Nat.reduceMul,Nat.reduceLT,Nat.reduceLeDiff,Nat.reduceEqDiff,Nat.reduceBEq,Int.reduceLT,Int.reduceLE,Int.reduceToNat,Int.reduceAdd,Int.reduceSub,Int.reduceMul,Int.reduceNeg,Int.reduceEq,reduceCtorEq,eq_self,ne_eq,not_false_eq_true,if_true,reduceIte,e0,e1,e2,e3,beq_self_eq_true,pv,Cx];repeat'(first|refine bK ?_|((first|refine bL λK hK=> ?_|refine bI ?_|show bC _ _ _ _ _|refine bl (Pv _ ag ag) ?_);simp -implicitDefEqProofs only[go_sem,kM,bF,Nat.reduceAdd,Nat.reduceSub,Nat.reduceMul,Nat.reduceLT,Nat.reduceLeDiff,Nat.reduceEqDiff,Nat.reduceBEq,Int.reduceLT,Int.reduceLE,Int.reduceToNat,Int.reduceAdd,Int.reduceSub,Int.reduceMul,Int.reduceNeg,Int.reduceEq,reduceCtorEq,eq_self,ne_eq,not_false_eq_true,if_true,reduceIte,e0,e1,e2,e3,beq_self_eq_true,pv,Cx])|(refine kA ?_;clear hK K)|(intro hg;try exact aw)|exact fin|apply ai)
  all_goals exact congrArg (D.int .i64) ag
end Go.Proofs.YtopobgihpdaggaaGreatDoor
namespace Go.Proofs.YtopobgihpdaggaaGreatDoor
set_option maxRecDepth 100000
set_option maxHeartbeats 4000000
open Go.Ab
attribute[local irreducible] az dI dR ax aT IA fP aZ gZ
def yh:ByteArray:=⟨#[32]⟩
theorem Pr (l:List Int)(bS:l≠[])(hl:l.length<=20)(h:∀i,i < l.length-> -99999<=nth l i/\nth l i<=99999)(hlen:(Lib.join ((l.map itoa).map (·.data.toList)) yh.data.toList).length<=1000):ax ae 82 [ints l] (.str (Dl (l.map itoa) yh)):=by
 have c1:=aaP (l.map itoa) yh (by simpa using bS) (by simp;omega) ag;refine aR func82 ntmps82 results82 call82 rfl ay λw0 S0 M0=> ?_;repeat'(first|(show az _ (.loop _) _ _;refine b_ ?_)|refine aB ?_|refine aC λK hK=> ?_|(refine kA ?_;clear hK K)|(intro hg;try exact aw)|exact fin|apply ai)
 refine cI ?_;refine Ez 3 9 1 rfl ?_;refine dH (ι:=Nat) (λj=>[(3, .own 0),(6,ints l),(7,i64 l.length),(8,i64 j)]) (λ_=>[]) (λj=>[⟨true,9,1,((l.take j).map itoa).map D.str⟩])
  (λj=>j<=l.length) (λj=>l.length - j) (λ_ _=>⟨rfl,rfl⟩) 0 (cv _) (aV rfl (by try(refine av ?_;try exact trivial);try simp) ⟨_,rfl⟩ ⟨_,rfl⟩) (λj hj=> ?_)
 by_cases aU:j < l.length
 ·have Qd:=h j aU;have c2:=Pv (nth l j) ag ag;have lY:(List.take j l).length=j:=by rw[mG];omega
  have oS:((l.take (j + 1)).map itoa).map D.str=((l.take j).map itoa).map D.str++[.str (itoa (nth l j))]:=by
   rw[EZ aU,show l[j]=nth l j by simp[nth,aU]];simp
  (refine av ?_;try exact trivial)
  repeat'(first|refine aB ?_|refine aC λK hK=> ?_|refine cA (c2) ?_|(refine kA ?_;clear hK K)|(intro hg;try exact aw)|exact fin|apply ai)
  all_goals first|omega|(refine⟨j + 1,ag,ag, ?_⟩;rw[oS];exact aV rfl (by try(refine av ?_;try exact trivial);try simp) ⟨_,rfl⟩ ⟨_,rfl⟩)|trace_state
 ·obtain rfl:j=l.length:=ag;simp -implicitDefEqProofs only[go_sem,kM,bF,Nat.reduceAdd,Nat.reduceSub,Nat.reduceMul,Nat.reduceLT,Nat.reduceLeDiff,Nat.reduceEqDiff,Nat.reduceBEq,Int.reduceLT,Int.reduceLE,Int.reduceToNat,Int.reduceAdd,Int.reduceSub,Int.reduceMul,Int.reduceNeg,Int.reduceEq,reduceCtorEq,eq_self,ne_eq,not_false_eq_true,if_true,reduceIte,E0];repeat'(first|refine bK ?_|((first|refine bL λK hK=> ?_|refine bI ?_|show bC _ _ _ _ _|refine bl (c1) ?_);simp -implicitDefEqProofs only[go_sem,kM,bF,Nat.reduceAdd,Nat.reduceSub,Nat.reduceMul,Nat.reduceLT,Nat.reduceLeDiff,Nat.reduceEqDiff,Nat.reduceBEq,Int.reduceLT,Int.reduceLE,Int.reduceToNat,Int.reduceAdd,Int.reduceSub,Int.reduceMul,Int.reduceNeg,Int.reduceEq,reduceCtorEq,eq_self,ne_eq,not_false_eq_true,if_true,reduceIte,E0])|(refine kA ?_;clear hK K)|(intro hg;try exact aw)|exact fin|apply ai)
theorem aaQ:ax ae 113 [.list [], .str yh] (.str ⟨#[]⟩):=by
 refine aR func113 ntmps113 results113 call113 rfl ay λw0 S0 M0=> ?_;repeat'(first|refine aB ?_|refine aC λK hK=> ?_|(refine kA ?_;clear hK K)|(intro hg;try exact aw)|exact fin|apply ai)
theorem Ps:ax ae 82 [.list []] (.str ⟨#[]⟩):=by
 have c1:=aaQ;refine aR func82 ntmps82 results82 call82 rfl ay λw0 S0 M0=> ?_;repeat'(first|(show az _ (.loop _) _ _;refine lJ 1 ?_)|(refine lp ?_)|refine aB ?_|refine aC λK hK=> ?_|refine cA (c1) ?_|(refine kA ?_;clear hK K)|(intro hg;try exact aw)|exact fin|apply ai)
theorem lS {p q:Prop}(k:q)(h:p=q:=by simp -implicitDefEqProofs only[go_sem,kM,bF,Nat.reduceAdd,Nat.reduceSub,Nat.reduceMul,Nat.reduceLT,Nat.reduceLeDiff,Nat.reduceEqDiff,Nat.reduceBEq,Int.reduceLT,Int.reduceLE,Int.reduceToNat,Int.reduceAdd,Int.reduceSub,Int.reduceMul,Int.reduceNeg,Int.reduceEq,reduceCtorEq,eq_self,ne_eq,not_false_eq_true,if_true,reduceIte,beq_self_eq_true,Bool.not_true,List.length_map]<;>rfl):p:=h.symm▸k
theorem Xb (a:List ByteArray)(ha:a.length<=1000):ax ae 25 [.list (a.map D.str), .list (a.map D.str)] (.bool true):=by
 refine aR func25 ntmps25 results25 call25 rfl ay λw0 S0 M0=> ?_;repeat'(first|(show az _ (.loop _) _ _;refine b_ ?_)|refine aB ?_|refine aC λK hK=> ?_|(refine kA ?_;clear hK K)|(intro hg;try exact aw)|exact fin|apply ai)
 refine cI ?_;refine dH (ι:=Nat) (λj=>[(0, .list (a.map D.str)),(1, .list (a.map D.str)),(5,i64 j)]) (λ_=>[]) (λ_=>[])
  (λj=>j<=a.length) (λj=>a.length - j) (λ_ _=>⟨rfl,rfl⟩) 0 (cv _) (aV rfl (by try(refine av ?_;try exact trivial);try simp) ⟨_,rfl⟩ ⟨_,rfl⟩) (λj hj=> ?_)
 by_cases aU:j < a.length
 ·(refine lS ?_;try exact trivial)
  repeat'(first|refine bK ?_|((first|refine bL λK hK=> ?_|refine bI ?_|show bC _ _ _ _ _);(refine lS ?_;try exact trivial))|(refine kA ?_;clear hK K)|(intro hg;try exact aw)|exact fin|apply ai)
  all_goals first|(exact⟨j + 1,ag,ag,aV rfl (by try(refine lS ?_;try exact trivial);try simp) ⟨_,rfl⟩ ⟨_,rfl⟩⟩)|trace_state
 ·obtain rfl:j=a.length:=ag
  (refine lS ?_;try exact trivial)
  repeat'(first|refine bK ?_|((first|refine bL λK hK=> ?_|refine bI ?_|show bC _ _ _ _ _);(refine lS ?_;try exact trivial))|(refine kA ?_;clear hK K)|(intro hg;try exact aw)|exact fin|apply ai)
abbrev jh (f:FuncId)(many:Int)(more ae' act:Bool):D:= .agg [.aD f [],i64 many, .bool more, .bool ae', .bool act]
abbrev mO (l:List UInt8):D:= .str ⟨l.toArray⟩
def sU:List (D×D):=[(mO [114,101,97,100],jh 138 11 false false true),(mO [119,105,114,101],jh 139 2 false true true),(mO [115,104,105,112],jh 140 5 false false true),(mO [114,101,112,111,114,116],jh 141 7 false false true),(mO [115,116,97,116,101],jh 142 3 true false true),(mO [99,97,109,101],jh 143 3 false false true),
 (mO [100,114,97,119],jh 144 1 false false false),(mO [108,111,119],jh 145 3 false false false),(mO [104,105,103,104],jh 146 3 false false false),(mO [115,101,101],jh 147 0 false false false),(mO [117,112],jh 148 2 false false false),(mO [115,104,105,112,115],jh 149 1 false false false),(mO [116,111,116,97,108],jh 150 0 false false false),(mO [112,97,121],jh 151 0 false false false),(mO [99,111,115,116],jh 152 0 false false false)]
abbrev WD (a b:Array UInt8):Prop:=((⟨a⟩:ByteArray).toList == (⟨b⟩:ByteArray).toList)=false
theorem aN {a b:Array UInt8}(h:(a.toList == b.toList)=false):WD a b:=by show(_ == _)=false;rw[qp,qp];exact h
theorem MS:WD #[114,101,97,100] #[119,105,114,101]:=aN ak
theorem ML:WD #[114,101,97,100] #[115,104,105,112]:=aN ak
theorem MK:WD #[114,101,97,100] #[114,101,112,111,114,116]:=aN ak
theorem MJ:WD #[114,101,97,100] #[115,116,97,116,101]:=aN ak
theorem MI:WD #[114,101,97,100] #[99,97,109,101]:=aN ak
theorem MH:WD #[114,101,97,100] #[100,114,97,119]:=aN ak
theorem MG:WD #[114,101,97,100] #[108,111,119]:=aN ak
theorem MF:WD #[114,101,97,100] #[104,105,103,104]:=aN ak
theorem ME:WD #[114,101,97,100] #[115,101,101]:=aN ak
theorem MR:WD #[114,101,97,100] #[117,112]:=aN ak
theorem MQ:WD #[114,101,97,100] #[115,104,105,112,115]:=aN ak
theorem MP:WD #[114,101,97,100] #[116,111,116,97,108]:=aN ak
theorem MO:WD #[114,101,97,100] #[112,97,121]:=aN ak
theorem MN:WD #[114,101,97,100] #[99,111,115,116]:=aN ak
theorem Lv:WD #[119,105,114,101] #[114,101,97,100]:=aN ak
theorem Lp:WD #[119,105,114,101] #[115,104,105,112]:=aN ak
theorem Lo:WD #[119,105,114,101] #[114,101,112,111,114,116]:=aN ak
theorem Ln:WD #[119,105,114,101] #[115,116,97,116,101]:=aN ak
theorem Lm:WD #[119,105,114,101] #[99,97,109,101]:=aN ak
theorem Ll:WD #[119,105,114,101] #[100,114,97,119]:=aN ak
theorem Lk:WD #[119,105,114,101] #[108,111,119]:=aN ak
theorem Lj:WD #[119,105,114,101] #[104,105,103,104]:=aN ak
theorem Li:WD #[119,105,114,101] #[115,101,101]:=aN ak
theorem Lu:WD #[119,105,114,101] #[117,112]:=aN ak
theorem Lt:WD #[119,105,114,101] #[115,104,105,112,115]:=aN ak
theorem Ls:WD #[119,105,114,101] #[116,111,116,97,108]:=aN ak
theorem Lr:WD #[119,105,114,101] #[112,97,121]:=aN ak
theorem Lq:WD #[119,105,114,101] #[99,111,115,116]:=aN ak
theorem Lh:WD #[115,104,105,112] #[114,101,97,100]:=aN ak
theorem Lg:WD #[115,104,105,112] #[119,105,114,101]:=aN ak
theorem K_:WD #[115,104,105,112] #[114,101,112,111,114,116]:=aN ak
theorem K9:WD #[115,104,105,112] #[115,116,97,116,101]:=aN ak
theorem K8:WD #[115,104,105,112] #[99,97,109,101]:=aN ak
theorem K7:WD #[115,104,105,112] #[100,114,97,119]:=aN ak
theorem K6:WD #[115,104,105,112] #[108,111,119]:=aN ak
theorem KZ:WD #[115,104,105,112] #[104,105,103,104]:=aN ak
theorem KY:WD #[115,104,105,112] #[115,101,101]:=aN ak
theorem Lf:WD #[115,104,105,112] #[117,112]:=aN ak
theorem Ld:WD #[115,104,105,112] #[115,104,105,112,115]:=aN ak
theorem Lc:WD #[115,104,105,112] #[116,111,116,97,108]:=aN ak
theorem Lb:WD #[115,104,105,112] #[112,97,121]:=aN ak
theorem La:WD #[115,104,105,112] #[99,111,115,116]:=aN ak
theorem KX:WD #[114,101,112,111,114,116] #[114,101,97,100]:=aN ak
theorem KW:WD #[114,101,112,111,114,116] #[119,105,114,101]:=aN ak
theorem KQ:WD #[114,101,112,111,114,116] #[115,104,105,112]:=aN ak
theorem KP:WD #[114,101,112,111,114,116] #[115,116,97,116,101]:=aN ak
theorem KO:WD #[114,101,112,111,114,116] #[99,97,109,101]:=aN ak
theorem KN:WD #[114,101,112,111,114,116] #[100,114,97,119]:=aN ak
theorem KM:WD #[114,101,112,111,114,116] #[108,111,119]:=aN ak
theorem KL:WD #[114,101,112,111,114,116] #[104,105,103,104]:=aN ak
theorem KK:WD #[114,101,112,111,114,116] #[115,101,101]:=aN ak
theorem KV:WD #[114,101,112,111,114,116] #[117,112]:=aN ak
theorem KU:WD #[114,101,112,111,114,116] #[115,104,105,112,115]:=aN ak
theorem KT:WD #[114,101,112,111,114,116] #[116,111,116,97,108]:=aN ak
theorem KS:WD #[114,101,112,111,114,116] #[112,97,121]:=aN ak
theorem KR:WD #[114,101,112,111,114,116] #[99,111,115,116]:=aN ak
theorem KJ:WD #[115,116,97,116,101] #[114,101,97,100]:=aN ak
theorem KI:WD #[115,116,97,116,101] #[119,105,114,101]:=aN ak
theorem KC:WD #[115,116,97,116,101] #[115,104,105,112]:=aN ak
theorem KB:WD #[115,116,97,116,101] #[114,101,112,111,114,116]:=aN ak
theorem KA:WD #[115,116,97,116,101] #[99,97,109,101]:=aN ak
theorem Kz:WD #[115,116,97,116,101] #[100,114,97,119]:=aN ak
theorem Ky:WD #[115,116,97,116,101] #[108,111,119]:=aN ak
theorem Kx:WD #[115,116,97,116,101] #[104,105,103,104]:=aN ak
theorem Kw:WD #[115,116,97,116,101] #[115,101,101]:=aN ak
theorem KH:WD #[115,116,97,116,101] #[117,112]:=aN ak
theorem KG:WD #[115,116,97,116,101] #[115,104,105,112,115]:=aN ak
theorem KF:WD #[115,116,97,116,101] #[116,111,116,97,108]:=aN ak
theorem KE:WD #[115,116,97,116,101] #[112,97,121]:=aN ak
theorem KD:WD #[115,116,97,116,101] #[99,111,115,116]:=aN ak
theorem Kv:WD #[99,97,109,101] #[114,101,97,100]:=aN ak
theorem Ku:WD #[99,97,109,101] #[119,105,114,101]:=aN ak
theorem Ko:WD #[99,97,109,101] #[115,104,105,112]:=aN ak
theorem Kn:WD #[99,97,109,101] #[114,101,112,111,114,116]:=aN ak
theorem Km:WD #[99,97,109,101] #[115,116,97,116,101]:=aN ak
theorem Kl:WD #[99,97,109,101] #[100,114,97,119]:=aN ak
theorem Kk:WD #[99,97,109,101] #[108,111,119]:=aN ak
theorem Kj:WD #[99,97,109,101] #[104,105,103,104]:=aN ak
theorem Ki:WD #[99,97,109,101] #[115,101,101]:=aN ak
theorem Kt:WD #[99,97,109,101] #[117,112]:=aN ak
theorem Ks:WD #[99,97,109,101] #[115,104,105,112,115]:=aN ak
theorem Kr:WD #[99,97,109,101] #[116,111,116,97,108]:=aN ak
theorem Kq:WD #[99,97,109,101] #[112,97,121]:=aN ak
theorem Kp:WD #[99,97,109,101] #[99,111,115,116]:=aN ak
theorem Kh:WD #[100,114,97,119] #[114,101,97,100]:=aN ak
theorem Kg:WD #[100,114,97,119] #[119,105,114,101]:=aN ak
theorem J':WD #[100,114,97,119] #[115,104,105,112]:=aN ak
theorem J_:WD #[100,114,97,119] #[114,101,112,111,114,116]:=aN ak
theorem J9:WD #[100,114,97,119] #[115,116,97,116,101]:=aN ak
theorem J8:WD #[100,114,97,119] #[99,97,109,101]:=aN ak
theorem J7:WD #[100,114,97,119] #[108,111,119]:=aN ak
theorem J6:WD #[100,114,97,119] #[104,105,103,104]:=aN ak
theorem J5:WD #[100,114,97,119] #[115,101,101]:=aN ak
theorem Kf:WD #[100,114,97,119] #[117,112]:=aN ak
theorem Ke:WD #[100,114,97,119] #[115,104,105,112,115]:=aN ak
theorem Kc:WD #[100,114,97,119] #[116,111,116,97,108]:=aN ak
theorem Kb:WD #[100,114,97,119] #[112,97,121]:=aN ak
theorem Ka:WD #[100,114,97,119] #[99,111,115,116]:=aN ak
theorem J4:WD #[108,111,119] #[114,101,97,100]:=aN ak
theorem J3:WD #[108,111,119] #[119,105,114,101]:=aN ak
theorem JW:WD #[108,111,119] #[115,104,105,112]:=aN ak
theorem JV:WD #[108,111,119] #[114,101,112,111,114,116]:=aN ak
theorem JU:WD #[108,111,119] #[115,116,97,116,101]:=aN ak
theorem JT:WD #[108,111,119] #[99,97,109,101]:=aN ak
theorem JS:WD #[108,111,119] #[100,114,97,119]:=aN ak
theorem JR:WD #[108,111,119] #[104,105,103,104]:=aN ak
theorem JQ:WD #[108,111,119] #[115,101,101]:=aN ak
theorem J2:WD #[108,111,119] #[117,112]:=aN ak
theorem J1:WD #[108,111,119] #[115,104,105,112,115]:=aN ak
theorem J0:WD #[108,111,119] #[116,111,116,97,108]:=aN ak
theorem JZ:WD #[108,111,119] #[112,97,121]:=aN ak
theorem JY:WD #[108,111,119] #[99,111,115,116]:=aN ak
theorem JP:WD #[104,105,103,104] #[114,101,97,100]:=aN ak
theorem JO:WD #[104,105,103,104] #[119,105,114,101]:=aN ak
theorem JH:WD #[104,105,103,104] #[115,104,105,112]:=aN ak
theorem JG:WD #[104,105,103,104] #[114,101,112,111,114,116]:=aN ak
theorem JF:WD #[104,105,103,104] #[115,116,97,116,101]:=aN ak
theorem JE:WD #[104,105,103,104] #[99,97,109,101]:=aN ak
theorem JD:WD #[104,105,103,104] #[100,114,97,119]:=aN ak
theorem JC:WD #[104,105,103,104] #[108,111,119]:=aN ak
theorem JA:WD #[104,105,103,104] #[115,101,101]:=aN ak
theorem JN:WD #[104,105,103,104] #[117,112]:=aN ak
theorem JM:WD #[104,105,103,104] #[115,104,105,112,115]:=aN ak
theorem JL:WD #[104,105,103,104] #[116,111,116,97,108]:=aN ak
theorem JK:WD #[104,105,103,104] #[112,97,121]:=aN ak
theorem JI:WD #[104,105,103,104] #[99,111,115,116]:=aN ak
theorem Jz:WD #[115,101,101] #[114,101,97,100]:=aN ak
theorem Jy:WD #[115,101,101] #[119,105,114,101]:=aN ak
theorem Jr:WD #[115,101,101] #[115,104,105,112]:=aN ak
theorem Jq:WD #[115,101,101] #[114,101,112,111,114,116]:=aN ak
theorem Jp:WD #[115,101,101] #[115,116,97,116,101]:=aN ak
theorem Jo:WD #[115,101,101] #[99,97,109,101]:=aN ak
theorem Jn:WD #[115,101,101] #[100,114,97,119]:=aN ak
theorem Jm:WD #[115,101,101] #[108,111,119]:=aN ak
theorem Jl:WD #[115,101,101] #[104,105,103,104]:=aN ak
theorem Jw:WD #[115,101,101] #[117,112]:=aN ak
theorem Jv:WD #[115,101,101] #[115,104,105,112,115]:=aN ak
theorem Ju:WD #[115,101,101] #[116,111,116,97,108]:=aN ak
theorem Jt:WD #[115,101,101] #[112,97,121]:=aN ak
theorem Js:WD #[115,101,101] #[99,111,115,116]:=aN ak
theorem MD:WD #[117,112] #[114,101,97,100]:=aN ak
theorem MC:WD #[117,112] #[119,105,114,101]:=aN ak
theorem Mx:WD #[117,112] #[115,104,105,112]:=aN ak
theorem Mw:WD #[117,112] #[114,101,112,111,114,116]:=aN ak
theorem Mv:WD #[117,112] #[115,116,97,116,101]:=aN ak
theorem Mu:WD #[117,112] #[99,97,109,101]:=aN ak
theorem Mt:WD #[117,112] #[100,114,97,119]:=aN ak
theorem Ms:WD #[117,112] #[108,111,119]:=aN ak
theorem Mr:WD #[117,112] #[104,105,103,104]:=aN ak
theorem Mq:WD #[117,112] #[115,101,101]:=aN ak
theorem MB:WD #[117,112] #[115,104,105,112,115]:=aN ak
theorem MA:WD #[117,112] #[116,111,116,97,108]:=aN ak
theorem Mz:WD #[117,112] #[112,97,121]:=aN ak
theorem My:WD #[117,112] #[99,111,115,116]:=aN ak
theorem Mp:WD #[115,104,105,112,115] #[114,101,97,100]:=aN ak
theorem Mo:WD #[115,104,105,112,115] #[119,105,114,101]:=aN ak
theorem Mj:WD #[115,104,105,112,115] #[115,104,105,112]:=aN ak
theorem Mi:WD #[115,104,105,112,115] #[114,101,112,111,114,116]:=aN ak
theorem Mh:WD #[115,104,105,112,115] #[115,116,97,116,101]:=aN ak
theorem Mg:WD #[115,104,105,112,115] #[99,97,109,101]:=aN ak
theorem Mf:WD #[115,104,105,112,115] #[100,114,97,119]:=aN ak
theorem Me:WD #[115,104,105,112,115] #[108,111,119]:=aN ak
theorem Md:WD #[115,104,105,112,115] #[104,105,103,104]:=aN ak
theorem Mc:WD #[115,104,105,112,115] #[115,101,101]:=aN ak
theorem Mn:WD #[115,104,105,112,115] #[117,112]:=aN ak
theorem Mm:WD #[115,104,105,112,115] #[116,111,116,97,108]:=aN ak
theorem Ml:WD #[115,104,105,112,115] #[112,97,121]:=aN ak
theorem Mk:WD #[115,104,105,112,115] #[99,111,115,116]:=aN ak
theorem Mb:WD #[116,111,116,97,108] #[114,101,97,100]:=aN ak
theorem Ma:WD #[116,111,116,97,108] #[119,105,114,101]:=aN ak
theorem L7:WD #[116,111,116,97,108] #[115,104,105,112]:=aN ak
theorem L6:WD #[116,111,116,97,108] #[114,101,112,111,114,116]:=aN ak
theorem L5:WD #[116,111,116,97,108] #[115,116,97,116,101]:=aN ak
theorem L4:WD #[116,111,116,97,108] #[99,97,109,101]:=aN ak
theorem L3:WD #[116,111,116,97,108] #[100,114,97,119]:=aN ak
theorem L2:WD #[116,111,116,97,108] #[108,111,119]:=aN ak
theorem L1:WD #[116,111,116,97,108] #[104,105,103,104]:=aN ak
theorem L0:WD #[116,111,116,97,108] #[115,101,101]:=aN ak
theorem L':WD #[116,111,116,97,108] #[117,112]:=aN ak
theorem L_:WD #[116,111,116,97,108] #[115,104,105,112,115]:=aN ak
theorem L9:WD #[116,111,116,97,108] #[112,97,121]:=aN ak
theorem L8:WD #[116,111,116,97,108] #[99,111,115,116]:=aN ak
theorem LZ:WD #[112,97,121] #[114,101,97,100]:=aN ak
theorem LY:WD #[112,97,121] #[119,105,114,101]:=aN ak
theorem LS:WD #[112,97,121] #[115,104,105,112]:=aN ak
theorem LR:WD #[112,97,121] #[114,101,112,111,114,116]:=aN ak
theorem LQ:WD #[112,97,121] #[115,116,97,116,101]:=aN ak
theorem LP:WD #[112,97,121] #[99,97,109,101]:=aN ak
theorem LO:WD #[112,97,121] #[100,114,97,119]:=aN ak
theorem LN:WD #[112,97,121] #[108,111,119]:=aN ak
theorem LM:WD #[112,97,121] #[104,105,103,104]:=aN ak
theorem LL:WD #[112,97,121] #[115,101,101]:=aN ak
theorem LX:WD #[112,97,121] #[117,112]:=aN ak
theorem LW:WD #[112,97,121] #[115,104,105,112,115]:=aN ak
theorem LV:WD #[112,97,121] #[116,111,116,97,108]:=aN ak
theorem LU:WD #[112,97,121] #[99,111,115,116]:=aN ak
theorem LK:WD #[99,111,115,116] #[114,101,97,100]:=aN ak
theorem LJ:WD #[99,111,115,116] #[119,105,114,101]:=aN ak
theorem LD:WD #[99,111,115,116] #[115,104,105,112]:=aN ak
theorem LC:WD #[99,111,115,116] #[114,101,112,111,114,116]:=aN ak
theorem LB:WD #[99,111,115,116] #[115,116,97,116,101]:=aN ak
theorem LA:WD #[99,111,115,116] #[99,97,109,101]:=aN ak
theorem Lz:WD #[99,111,115,116] #[100,114,97,119]:=aN ak
theorem Ly:WD #[99,111,115,116] #[108,111,119]:=aN ak
theorem Lx:WD #[99,111,115,116] #[104,105,103,104]:=aN ak
theorem Lw:WD #[99,111,115,116] #[115,101,101]:=aN ak
theorem LI:WD #[99,111,115,116] #[117,112]:=aN ak
theorem LH:WD #[99,111,115,116] #[115,104,105,112,115]:=aN ak
theorem LG:WD #[99,111,115,116] #[116,111,116,97,108]:=aN ak
theorem LF:WD #[99,111,115,116] #[112,97,121]:=aN ak
theorem Zc:aT ae 111 [] [] [] (λd aF aL=>d= .bz 0/\aF=[.mp sU]/\aL=[]):=by
 refine cV func111 ntmps111 results111 call111 rfl ay λW0 S0 M0 own β hβ=> ?_;repeat'(first|(show cT _ _ _ _ _;simp -implicitDefEqProofs only[go_sem,kM,bF,Nat.reduceAdd,Nat.reduceSub,Nat.reduceMul,Nat.reduceLT,Nat.reduceLeDiff,Nat.reduceEqDiff,Nat.reduceBEq,Int.reduceLT,Int.reduceLE,Int.reduceToNat,Int.reduceAdd,Int.reduceSub,Int.reduceMul,Int.reduceNeg,Int.reduceEq,reduceCtorEq,eq_self,ne_eq,not_false_eq_true,if_true,reduceIte,cond_false,cond_true,nS,kx,List.all_cons,List.all_nil,zU,decide_true,MS,ML,MK,MJ,MI,MH,MG,MF,ME,MR,MQ,MP,MO,MN,Lv,Lp,Lo,Ln,Lm,Ll,Lk,Lj,Li,Lu,Lt,Ls,Lr,Lq,Lh,Lg,K_,K9,K8,K7,K6,KZ,KY,Lf,Ld,Lc,Lb,La,KX,KW,KQ,KP,KO,KN,KM,KL,KK,KV,KU,KT,KS,KR,KJ,KI,KC,KB,KA,Kz,Ky,Kx,Kw,KH,KG,KF,KE,KD,Kv,Ku,Ko,Kn,Km,Kl,Kk,Kj,Ki,Kt,Ks,Kr,Kq,Kp,Kh,Kg,J',J_,J9,J8,J7,J6,J5,Kf,Ke,Kc,Kb,Ka,J4,J3,JW,JV,JU,JT,JS,JR,JQ,J2,J1,J0,JZ,JY,JP,JO,JH,JG,JF,JE,JD,JC,JA,JN,JM,JL,JK,JI,Jz,Jy,Jr,Jq,Jp,Jo,Jn,Jm,Jl,Jw,Jv,Ju,Jt,Js,MD,MC,Mx,Mw,Mv,Mu,Mt,Ms,Mr,Mq,MB,MA,Mz,My,Mp,Mo,Mj,Mi,Mh,Mg,Mf,Me,Md,Mc,Mn,Mm,Ml,Mk,Mb,Ma,L7,L6,L5,L4,L3,L2,L1,L0,L',L_,L9,L8,LZ,LY,LS,LR,LQ,LP,LO,LN,LM,LL,LX,LW,LV,LU,LK,LJ,LD,LC,LB,LA,Lz,Ly,Lx,Lw,LI,LH,LG,LF])|refine bK ?_|((first|refine bL λK hK=> ?_|refine bI ?_|show bC _ _ _ _ _);simp -implicitDefEqProofs only[go_sem,kM,bF,Nat.reduceAdd,Nat.reduceSub,Nat.reduceMul,Nat.reduceLT,Nat.reduceLeDiff,Nat.reduceEqDiff,Nat.reduceBEq,Int.reduceLT,Int.reduceLE,Int.reduceToNat,Int.reduceAdd,Int.reduceSub,Int.reduceMul,Int.reduceNeg,Int.reduceEq,reduceCtorEq,eq_self,ne_eq,not_false_eq_true,if_true,reduceIte,cond_false,cond_true,nS,kx,List.all_cons,List.all_nil,zU,decide_true,MS,ML,MK,MJ,MI,MH,MG,MF,ME,MR,MQ,MP,MO,MN,Lv,Lp,Lo,Ln,Lm,Ll,Lk,Lj,Li,Lu,Lt,Ls,Lr,Lq,Lh,Lg,K_,K9,K8,K7,K6,KZ,KY,Lf,Ld,Lc,Lb,La,KX,KW,KQ,KP,KO,KN,KM,KL,KK,KV,KU,KT,KS,KR,KJ,KI,KC,KB,KA,Kz,Ky,Kx,Kw,KH,KG,KF,KE,KD,Kv,Ku,Ko,Kn,Km,Kl,Kk,Kj,Ki,Kt,Ks,Kr,Kq,Kp,Kh,Kg,J',J_,J9,J8,J7,J6,J5,Kf,Ke,Kc,Kb,Ka,J4,J3,JW,JV,JU,JT,JS,JR,JQ,J2,J1,J0,JZ,JY,JP,JO,JH,JG,JF,JE,JD,JC,JA,JN,JM,JL,JK,JI,Jz,Jy,Jr,Jq,Jp,Jo,Jn,Jm,Jl,Jw,Jv,Ju,Jt,Js,MD,MC,Mx,Mw,Mv,Mu,Mt,Ms,Mr,Mq,MB,MA,Mz,My,Mp,Mo,Mj,Mi,Mh,Mg,Mf,Me,Md,Mc,Mn,Mm,Ml,Mk,Mb,Ma,L7,L6,L5,L4,L3,L2,L1,L0,L',L_,L9,L8,LZ,LY,LS,LR,LQ,LP,LO,LN,LM,LL,LX,LW,LV,LU,LK,LJ,LD,LC,LB,LA,Lz,Ly,Lx,Lw,LI,LH,LG,LF])|(refine kA ?_;clear hK K)|(intro hg;try exact aw)|exact fin|apply ai)
 all_goals rfl
theorem Ux:ae.underlying 9=some .string:=aj
theorem aba (s:ByteArray)(c:UInt8):ax ae 136 [.str s, .str ⟨#[c]⟩] (i64 (vv s.data.toList c)):=by
 refine BW (λ_ _=> .int _ _ _) call136 λS M w args hl hr=> ?_
 match args,hl with
 |[a,b],_=>
  have h1:=hr 0 _ rfl;have h2:=hr 1 _ rfl;simp only[List.getD_cons_zero,List.getD_cons_succ]at h1 h2;cases h1;cases h2
  exact Any.stringslite_Index_one {Tryz.O_ with} s c w
theorem aeH (s:ByteArray)(c:UInt8)(i:Nat)(hi:vv s.data.toList c=i)(hs:i < s.size)(hb:s.size<=100000):ax ae 108 [.str s, .str ⟨#[c]⟩] (.aQ [.str (s.extract 0 i), .str (s.extract (i + 1) s.size), .bool true]):=by
 have c1:=aba s c;rw[hi]at c1;have h1:(gA #[c]).size=1:=rfl;refine aR func108 ntmps108 results108 call108 rfl ay λw0 S0 M0=> ?_;repeat'(first|refine bK ?_|((first|refine bL λK hK=> ?_|refine bI ?_|show bC _ _ _ _ _|refine bl (c1) ?_);(refine sX (ai @h1 (@Ux)) ?_;try exact trivial))|(refine kA ?_;clear hK K)|(intro hg;try exact aw)|exact fin|apply ai)
 all_goals rw[show((i:Int) + ((1:Nat):Int)).toNat=i + 1 by omega]
theorem aeG (s:ByteArray)(c:UInt8)(i:Nat)(hi:vv s.data.toList c=i)(hs:i < s.size)(hb:s.size<=100000):ax ae 80 [.str s, .str ⟨#[c]⟩] (.aQ [.str (s.extract 0 i), .str (s.extract (i + 1) s.size), .bool true]):=by
 have c1:=aeH s c i hi hs hb;refine aR func80 ntmps80 results80 call80 rfl ay λw0 S0 M0=> ?_;repeat'(first|refine aB ?_|refine aC λK hK=> ?_|refine cA (c1) ?_|(refine kA ?_;clear hK K)|(intro hg;try exact aw)|exact fin|apply ai)
def fO:List (List UInt8)->List UInt8
 |[]=>[]
 |w::l=>w++10::fO l
abbrev dS (l:List UInt8):ByteArray:=⟨l.toArray⟩
theorem adg (a b:List UInt8):(dS (a++b)).extract 0 a.length=dS a:=by
 apply ByteArray.ext;simp[dS]
theorem adf (a b:List UInt8)(k:Nat)(hk:k=a.length):(dS (a++b)).extract k (dS (a++b)).size=dS b:=by
 subst hk;apply ByteArray.ext;simp[dS,ByteArray.size]
theorem PC (c:UInt8):∀(a b:List UInt8),c∉a->vv (a++c::b) c=a.length
 |[],b,_=>by simp[vv]
 |x::a,b,h=>by
  have h1:¬x=c:=λe=>h (by rw[e];exact ey ..);have ih:=PC c a b (λhh=>h (fE _ hh));simp[vv]at ih⊢;rw[if_neg h1,ih,if_neg ag]
theorem UA (w:List UInt8)(l:List (List UInt8)):((dS (fO (w::l))).toList == (gA #[]).toList)=false:=by
 rw[show(gA #[]).toList=[]from qp [],show(dS (fO (w::l))).toList=fO (w::l)from qp _];cases w<;>rfl
theorem Uz:((dS (fO [])).toList == (gA #[]).toList)=true:=by
 rw[show(gA #[]).toList=[]from qp [],show(dS (fO [])).toList=fO []from qp _];rfl
theorem UB (L:List (List UInt8)):∀j,(fO (L.drop j)).length<=(fO L).length:=by
 induction L with
 |nil=>intro j;simp[fO]
 |cons w l ih=>
  intro j;cases j with
  |zero=>exact cx _
  |succ j=>have:=ih j;simp[fO]at this⊢;omega
theorem ZZ (L:List (List UInt8))(h:∀w∈L,(10:UInt8)∉w)(hb:(fO L).length<=1000):Iter ae 79 [.ro [.str (dS (fO L))]] (L.map λw=>[.str (dS w), .bool true]):=by
 refine Gu func79 ntmps79 results79 call79 rfl ay λl J Jx=> ?_;repeat'(first
   |refine qv ?_
   |refine qB ?_
   |refine qw ?_
   |refine qy ?_
   |refine qu ?_
   |refine qA ?_
   |refine qx ?_
   |(refine qz ?_;(refine av ?_;try exact trivial))
   |(refine jC λw0 S0 M0 oq=>mA λK hK=> ?_;(refine av ?_;try exact trivial))
   |(refine jC λw0 S0 M0 oq=>ph Tryz.ty.mixed aj λK hK=> ?_;(refine av ?_;try exact trivial))
   |(refine hK _ ?_;clear hK K;simp only[dE,dG,if_true,Nat.reduceEqDiff,reduceIte])
   |(show dE _ _ _ _ _;simp only[dE,dG,if_true,Nat.reduceEqDiff,reduceIte])
   |(show ji _ _ _ _;simp only[ji,dE,dG,if_true,Nat.reduceEqDiff,reduceIte])
   |(show dG _ _ _ _ _;simp only[dE,dG,if_true,Nat.reduceEqDiff,reduceIte])
   |(intro hg;first|(exfalso;omega)|(exfalso;contradiction)|skip)
   |apply ai
   |(with_reducible rfl)
   |(clear hK;omega)
   |omega)
 refine Gy (ι:=Nat) (λj=>[(0, .val (.func (.yield l) #[] #[])),(1, .ro [.str (dS (fO L))]),(3, .str (dS (fO (L.drop j))))]) (λj=>(true,j)) (λj=>j<=L.length) (λj=>L.length - j) (λ_ _=>rfl) 0 (cv _) rfl (aV rfl (by try(refine av ?_;try exact trivial);try simp) ⟨_,rfl⟩ ⟨_,rfl⟩) (λj hj=> ?_);by_cases aU:j < L.length
 ·have nd:L.drop j=L[j]::L.drop (j + 1):=List.drop_eq_getElem_cons aU;have bS:=UA L[j] (L.drop (j + 1));have hlen:=UB L j;have bo:(dS (fO (L.drop j))).size=(fO (L.drop j)).length:=by simp[dS,ByteArray.size]
  have Bn:vv (dS (fO (L.drop j))).data.toList 10=(L[j].length:Nat):=by
   rw[nd];exact PC 10 _ _ (h _ (E1 _))
  have kZ:(fO (L.drop j)).length=L[j].length + 1 + (fO (L.drop (j + 1))).length:=by rw[nd];simp[fO];omega
  have c1:=aeG (dS (fO (L.drop j))) 10 L[j].length Bn ag ag;have e1:(dS (fO (L.drop j))).extract 0 L[j].length=dS L[j]:=by rw[nd];exact adg _ _
  have e2:(dS (fO (L.drop j))).extract (L[j].length + 1) (dS (fO (L.drop j))).size=dS (fO (L.drop (j + 1))):=by
   rw[nd,show fO (L[j]::L.drop (j + 1))=(L[j]++[10])++fO (L.drop (j + 1)) by simp[fO]];exact adf _ _ _ ay
  rw[e1,e2]at c1;rw[<-nd]at bS
  (refine sX (ai @bS (@pv)) ?_;try exact trivial)
  repeat'(first
    |refine qv ?_
    |refine qB ?_
    |refine qw ?_
    |refine qy ?_
    |refine qu ?_
    |refine qA ?_
    |refine qx ?_
    |(refine qz ?_;(refine sX (ai @bS (@pv)) ?_;try exact trivial))
    |((refine bl (c1) ?_;try(refine sX (ai @bS (@pv)) ?_;try exact trivial)))
    |((refine PD 3 rfl λK1 aK=> ?_;(refine sX (ai @bS (@pv)) ?_;try exact trivial)))
    |(refine jC λw0 S0 M0 oq=>mA λK hK=> ?_;(refine sX (ai @bS (@pv)) ?_;try exact trivial))
    |(refine jC λw0 S0 M0 oq=>ph Tryz.ty.mixed aj λK hK=> ?_;(refine sX (ai @bS (@pv)) ?_;try exact trivial))
    |(refine hK _ ?_;clear hK K;simp only[dE,dG,if_true,Nat.reduceEqDiff,reduceIte])
    |(show dE _ _ _ _ _;simp only[dE,dG,if_true,Nat.reduceEqDiff,reduceIte])
    |(show ji _ _ _ _;simp only[ji,dE,dG,if_true,Nat.reduceEqDiff,reduceIte])
    |(show dG _ _ _ _ _;simp only[dE,dG,if_true,Nat.reduceEqDiff,reduceIte])
    |(intro hg;first|(exfalso;omega)|(exfalso;contradiction)|skip)
    |apply ai
    |(with_reducible rfl)
    |(clear hK;omega)
    |omega)
  all_goals
   refine aK _ _ rfl rfl ?_ ?_ ?_ (λb=> ?_)
   ·show(L.map λw=>[D.str (dS w),D.bool true])[j]? =_;rw[List.getElem?_map,List.getElem?_eq_getElem aU];rfl
   ·(refine sX (ai @bS (@pv)) ?_;try exact trivial)
   ·intro q b e;cases e
   ·clear aK K1
    (refine sX (ai @bS (@pv)) ?_;try exact trivial)
    repeat'(first
      |refine qv ?_
      |refine qB ?_
      |refine qw ?_
      |refine qy ?_
      |refine qu ?_
      |refine qA ?_
      |refine qx ?_
      |(refine qz ?_;(refine sX (ai @bS (@pv)) ?_;try exact trivial))
      |(refine jC λw0 S0 M0 oq=>mA λK hK=> ?_;(refine sX (ai @bS (@pv)) ?_;try exact trivial))
      |(refine jC λw0 S0 M0 oq=>ph Tryz.ty.mixed aj λK hK=> ?_;(refine sX (ai @bS (@pv)) ?_;try exact trivial))
      |(refine hK _ ?_;clear hK K;simp only[dE,dG,if_true,Nat.reduceEqDiff,reduceIte])
      |(show dE _ _ _ _ _;simp only[dE,dG,if_true,Nat.reduceEqDiff,reduceIte])
      |(show ji _ _ _ _;simp only[ji,dE,dG,if_true,Nat.reduceEqDiff,reduceIte])
      |(show dG _ _ _ _ _;simp only[dE,dG,if_true,Nat.reduceEqDiff,reduceIte])
      |(intro hg;first|(exfalso;omega)|(exfalso;contradiction)|skip)
      |apply ai
      |(with_reducible rfl)
      |(clear hK;omega)
      |omega)
    all_goals first
    |(exfalso;simp_all;done)
    |(have Hn:b=true:=by assumption
      subst Hn;exact⟨j + 1,ag,ag,rfl,aV rfl (by try(refine sX (ai @bS (@pv)) ?_;try exact trivial);try simp) ⟨_,rfl⟩ ⟨_,rfl⟩⟩)
 ·obtain rfl:j=L.length:=ag;have hn:((dS (fO (L.drop L.length))).toList == (gA #[]).toList)=true:=by rw[List.drop_length];exact Uz
  (refine sX (ai @hn (@Cx)) ?_;try exact trivial)
  repeat'(first
    |refine qv ?_
    |refine qB ?_
    |refine qw ?_
    |refine qy ?_
    |refine qu ?_
    |refine qA ?_
    |refine qx ?_
    |(refine qz ?_;(refine sX (ai @hn (@Cx)) ?_;try exact trivial))
    |(refine jC λw0 S0 M0 oq=>mA λK hK=> ?_;(refine sX (ai @hn (@Cx)) ?_;try exact trivial))
    |(refine jC λw0 S0 M0 oq=>ph Tryz.ty.mixed aj λK hK=> ?_;(refine sX (ai @hn (@Cx)) ?_;try exact trivial))
    |(refine hK _ ?_;clear hK K;simp only[dE,dG,if_true,Nat.reduceEqDiff,reduceIte])
    |(show dE _ _ _ _ _;simp only[dE,dG,if_true,Nat.reduceEqDiff,reduceIte])
    |(show ji _ _ _ _;simp only[ji,dE,dG,if_true,Nat.reduceEqDiff,reduceIte])
    |(show dG _ _ _ _ _;simp only[dE,dG,if_true,Nat.reduceEqDiff,reduceIte])
    |(intro hg;first|(exfalso;omega)|(exfalso;contradiction)|skip)
    |apply ai
    |(with_reducible rfl)
    |(clear hK;omega)
    |omega)
  all_goals first|(simp;done)|trace_state
end Go.Proofs.YtopobgihpdaggaaGreatDoor
