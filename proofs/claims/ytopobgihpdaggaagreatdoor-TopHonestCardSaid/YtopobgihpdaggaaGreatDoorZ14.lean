import Derived.Test.YtopobgihpdaggaaGreatDoorZ09
import Derived.Lib.SplitLaws
import Derived.Lib.Join
import Derived.Shelf.Strings.OnBuilder
import Derived.Shelf.Small.Wraps
import Derived.Shelf.Small.Bits
import Derived.Shelf.LaysM
import Derived.Shelf.Strconv.Itoa3
import Derived.Shelf.Strings.Search3
import Derived.Shelf.Strings.Count
import Derived.Shelf.Strings.Prefix
import Derived.Shelf.Strings.Split
import Derived.Test.YtopobgihpdaggaaGreatDoorProg
set_option linter.unusedVariables false
set_option linter.unusedSimpArgs false
open And renaming intro->ai
open Go.Ending renaming returned->E6
open Go.Shelf renaming Ren->xU
open Int renaming cast_ofNat_Int->qe,eq_ofNat_of_zero_le->agX,natCast_one->eZ,natCast_zero->eY,tdiv_eq_ediv_of_nonneg->xP
open Go.Lib renaming countB->xM
open List renaming getElem?_append_left->cZ,mem_cons->eX,mem_of_getElem?->fM,mem_singleton->xE,range->dB
open Nat renaming le_refl->cx,mul_one->Cj,zero_add->jd,zero_le->cv
open Go.Proofs.Tryz renaming call133->IP,func133->IL,func136->SU,func197->SS,func198->SR,func199->SQ,func200->SP,func203->SO,func245->SN,func246->SM,isAgg0->IK,isAgg244->EM,isAgg287->EL,isAgg3->xq,isAgg304->SL,isAgg4->xp,isAgg5->Cd,isAgg9->zF,ntmps133->IJ,prog->ae,results133->II,sizeOf0->IH,sizeOf244->EI,sizeOf287->EH,sizeOf3->xo,sizeOf304->SJ,sizeOf4->xn,sizeOf5->Cc,sizeOf9->zE,underlying0->IG,underlying244->EG,underlying287->EF,underlying3->tQ,underlying304->SI,underlying4->vp,underlying5->Cb,underlying9->xm,zeroValue0->IF,zeroValue244->EE,zeroValue287->ED,zeroValue3->xl,zeroValue304->SH,zeroValue4->xk,zeroValue5->Ca,zeroValue9->zD
open UInt8 renaming ofNat->zC
open Go.Value renaming int->gX,map->EC,slice->q9,string->EB
open Go.Proofs.Tryz
namespace Go.Proofs.YtopobgihpdaggaaGreatDoor
set_option maxRecDepth 100000
set_option maxHeartbeats 4000000
open Go.Ab
attribute[local irreducible] az dI dR ax
abbrev agp:D:= .agg [i64 38,i64 61,i64 96,i64 144,i64 216,i64 316,i64 458,i64 654,i64 921,i64 1279,i64 1753,i64 2376,i64 3182,i64 4218,i64 5532,i64 7188,i64 9251]
theorem Qo:ax ae 358 [] agp:=by
 refine aR func358 ntmps358 results358 call358 rfl ay λw0 S0 M0=> ?_;repeat'(first|refine aB ?_|refine aC λK hK=> ?_|(refine kA ?_;clear hK K)|(intro hg;try exact aw)|exact fin|apply ai)
theorem Sx {n:Nat}{k:D->Prop}:rq ([D.int .i64 38, .int .i64 61, .int .i64 96, .int .i64 144, .int .i64 216, .int .i64 316, .int .i64 458, .int .i64 654, .int .i64 921, .int .i64 1279, .int .i64 1753, .int .i64 2376, .int .i64 3182, .int .i64 4218, .int .i64 5532, .int .i64 7188, .int .i64 9251].drop n) k=
  (n < 17/\k (.int .i64 (nth ko n))):=by
 have hd:∀(l:List Int) (n:Nat),(rq ((l.map (D.int .i64)).drop n) k)=(n < l.length/\k (.int .i64 (nth l n))):=by
  intro l;induction l with
  |nil=>intro n;simp[rq]
  |cons a l ih=>
   intro n;cases n with
   |zero=>simp[rq,nth]
   |succ n=>
    have:=ih n;simp only[List.map_cons,List.drop_succ_cons,List.length_cons,Nat.add_lt_add_iff_right];rw[this];rfl
 exact hd ko n
theorem abH (t:Int)(ht: -300<=t/\t<=500):ax ae 343 [i64 t] (i64 (jT t)):=by
 have e1:Int.tdiv (t + 300) 50=(t + 300) / 50:=xP ag;have e2:Int.tmod (t + 300) 50=(t + 300) % 50:=Int.tmod_eq_emod_of_nonneg ag;have e3:((t + 300) / 50 + 1).toNat=((t + 300) / 50).toNat + 1:=ag;have b1:=Sw (i:=((t + 300) / 50).toNat) ag;by_cases h0:(t + 300) % 50=0
 ·have e4:jT t=nth ko ((t + 300) / 50).toNat:=by unfold jT;rw[if_pos h0]
  rw[e4];refine aR func343 ntmps343 results343 call343 rfl ay λw0 S0 M0=> ?_;repeat'(first|refine bK ?_|((first|refine bL λK hK=> ?_|refine bI ?_|show bC _ _ _ _ _|refine bl (Qo) ?_);simp -implicitDefEqProofs only[go_sem,kM,bF,Nat.reduceAdd,Nat.reduceSub,Nat.reduceMul,Nat.reduceLT,Nat.reduceLeDiff,Nat.reduceEqDiff,Nat.reduceBEq,Int.reduceLT,Int.reduceLE,Int.reduceToNat,Int.reduceAdd,Int.reduceSub,Int.reduceMul,Int.reduceNeg,Int.reduceEq,reduceCtorEq,eq_self,ne_eq,not_false_eq_true,if_true,reduceIte,↓Sx,e1,e2,jd,Cj])|(refine kA ?_;clear hK K)|(intro hg;try exact aw)|exact fin|apply ai)
 ·have b2:=Sw (i:=((t + 300) / 50).toNat + 1) ag;have b3:=ago (i:=((t + 300) / 50).toNat) ag;have b4:=kv (A:=9251) (B:=50) (a:=nth ko (((t + 300) / 50).toNat + 1) - nth ko ((t + 300) / 50).toNat) (b:=(t + 300) % 50) ag ag ag ag;have e5:=xP (b:=50) b4.1;have e4:jT t=nth ko ((t + 300) / 50).toNat + (nth ko (((t + 300) / 50).toNat + 1) - nth ko ((t + 300) / 50).toNat) * ((t + 300) % 50) / 50:=by unfold jT;rw[if_neg h0]
  rw[e4];refine aR func343 ntmps343 results343 call343 rfl ay λw0 S0 M0=> ?_;repeat'(first|refine bK ?_|((first|refine bL λK hK=> ?_|refine bI ?_|show bC _ _ _ _ _|refine bl (Qo) ?_);simp -implicitDefEqProofs only[go_sem,kM,bF,Nat.reduceAdd,Nat.reduceSub,Nat.reduceMul,Nat.reduceLT,Nat.reduceLeDiff,Nat.reduceEqDiff,Nat.reduceBEq,Int.reduceLT,Int.reduceLE,Int.reduceToNat,Int.reduceAdd,Int.reduceSub,Int.reduceMul,Int.reduceNeg,Int.reduceEq,reduceCtorEq,eq_self,ne_eq,not_false_eq_true,if_true,reduceIte,↓Sx,e1,e2,e3,e5,jd,Cj])|(refine kA ?_;clear hK K)|(intro hg;try exact aw)|exact fin|apply ai)
abbrev tK (r:dY)(t:gv):D:= .agg [i64 t.ix,i64 t.er,i64 t.gr,i64 t.ht,i64 t.at_,i64 t.dy,i64 t.wt,i64 r.gn]
theorem afe (r:dY)(hr:iw r)(t:gv)(ht:ow t)(n:Int):ax ae 339 [tK r t,i64 n] (i64 (gn r t)):=by
 have b0:=uH hr ht;have hq:=hr.q;have h1:=ht.i;have h2:=ht.e
 refine aR func339 ntmps339 results339 call339 rfl ay λw0 S0 M0=> ?_;repeat'(first|refine aB ?_|refine aC λK hK=> ?_|(refine kA ?_;clear hK K)|(intro hg;try exact aw)|exact fin|apply ai)
 rfl
theorem ab7 (r:dY)(hr:iw r)(t:gv)(ht:ow t):ax ae 340 [tK r t,i64 (gn r t)] (i64 (n3 (gn r t) t.at_)):=by
 have b0:=uH hr ht;have b1:=DQ b0 ht.a;unfold n3 at *;refine aR func340 ntmps340 results340 call340 rfl ay λw0 S0 M0=> ?_;repeat'(first|refine aB ?_|refine aC λK hK=> ?_|refine cA (D4 _ _ ag ag) ?_|(refine kA ?_;clear hK K)|(intro hg;try exact aw)|exact fin|apply ai)
theorem Ug (r:dY)(hr:iw r)(t:gv)(ht:ow t):ax ae 341 [tK r t,i64 (n3 (gn r t) t.at_)] (i64 (here r t)):=by
 have b0:=uH hr ht;have b1:=DQ b0 ht.a;have b2:=Qm b1.2 ht.g;unfold here yP u7 at *;refine aR func341 ntmps341 results341 call341 rfl ay λw0 S0 M0=> ?_;repeat'(first|refine aB ?_|refine aC λK hK=> ?_|refine cA (D4 _ _ ag ag) ?_|(refine kA ?_;clear hK K)|(intro hg;try exact aw)|exact fin|apply ai)
def u6 (r:dY)(t:gv):Nat->Int
 |0=>0
 |1=>gn r t
 |2=>n3 (gn r t) t.at_
 |_=>here r t
theorem acG (r:dY)(hr:iw r)(t:gv)(ht:ow t):ax ae 309 [tK r t] (i64 (here r t)):=by
 refine aR func309 ntmps309 results309 call309 rfl ay λw0 S0 M0=> ?_;repeat'(first|refine bK ?_|((first|refine bL λK hK=> ?_|refine bI ?_|show bC _ _ _ _ _);(refine sX (ai @eY (ai @eZ (@qe))) ?_;try exact trivial))|(refine kA ?_;clear hK K)|(intro hg;try exact aw)|exact fin|apply ai)
 refine dH (ι:=Nat) (λj=>[(3,i64 (u6 r t j)),(12, .agg [.dq 339 [tK r t], .dq 340 [tK r t], .dq 341 [tK r t]]),(13,i64 j)]) (λ_=>[]) (λ_=>[])
  (λj=>j<=3) (λj=>3 - j) (λj _=>⟨rfl,rfl⟩) 0 (cv _) (aV rfl (by try(refine sX (ai @eY (ai @eZ (@qe))) ?_;try exact trivial);try simp[u6]) ⟨_,rfl⟩ ⟨_,rfl⟩) (λj hj=> ?_)
 match j,hj with
 |0,_=>
  (refine sX (ai @eY (ai @eZ (@qe))) ?_;try exact trivial)
  repeat'(first|refine bK ?_|((first|refine bL λK hK=> ?_|refine bI ?_|show bC _ _ _ _ _|refine bl (afe r hr t ht _) ?_);(refine sX (ai @eY (ai @eZ (@qe))) ?_;try exact trivial))|(refine kA ?_;clear hK K)|(intro hg;try exact aw)|exact fin|apply ai)
  exact⟨1,ag,ag,aV rfl (by try(refine sX (ai @eY (ai @eZ (@qe))) ?_;try exact trivial);try simp[u6]) ⟨_,rfl⟩ ⟨_,rfl⟩⟩
 |1,_=>
  simp only[u6]
  (refine sX (ai @eY (ai @eZ (@qe))) ?_;try exact trivial)
  repeat'(first|refine bK ?_|((first|refine bL λK hK=> ?_|refine bI ?_|show bC _ _ _ _ _|refine bl (ab7 r hr t ht) ?_);(refine sX (ai @eY (ai @eZ (@qe))) ?_;try exact trivial))|(refine kA ?_;clear hK K)|(intro hg;try exact aw)|exact fin|apply ai)
  exact⟨2,ag,ag,aV rfl (by try(refine sX (ai @eY (ai @eZ (@qe))) ?_;try exact trivial);try simp[u6]) ⟨_,rfl⟩ ⟨_,rfl⟩⟩
 |2,_=>
  simp only[u6]
  (refine sX (ai @eY (ai @eZ (@qe))) ?_;try exact trivial)
  repeat'(first|refine bK ?_|((first|refine bL λK hK=> ?_|refine bI ?_|show bC _ _ _ _ _|refine bl (Ug r hr t ht) ?_);(refine sX (ai @eY (ai @eZ (@qe))) ?_;try exact trivial))|(refine kA ?_;clear hK K)|(intro hg;try exact aw)|exact fin|apply ai)
  exact⟨3,ag,ag,aV rfl (by try(refine sX (ai @eY (ai @eZ (@qe))) ?_;try exact trivial);try simp[u6]) ⟨_,rfl⟩ ⟨_,rfl⟩⟩
 |3,_=>
  simp only[u6]
  (refine sX (ai @eY (ai @eZ (@qe))) ?_;try exact trivial)
  repeat'(first|refine bK ?_|((first|refine bL λK hK=> ?_|refine bI ?_|show bC _ _ _ _ _);(refine sX (ai @eY (ai @eZ (@qe))) ?_;try exact trivial))|(refine kA ?_;clear hK K)|(intro hg;try exact aw)|exact fin|apply ai)
theorem acz (r:dY)(hr:iw r)(t:gv)(ht:ow t):ax ae 310 [tK r t,i64 (here r t)] (i64 (nJ r t)):=by
 have b3:=DP hr ht;have b4:=NA b3 ht.h ht.d;have b8:36700<=nJ r t/\nJ r t<=3000000000:=by unfold nJ;omega
 have h4:=ht.h;have h6:=ht.d
 refine aR func310 ntmps310 results310 call310 rfl ay λw0 S0 M0=> ?_;repeat'(first|refine bK ?_|((first|refine bL λK hK=> ?_|refine bI ?_|show bC _ _ _ _ _|refine bl (D4 _ _ ag ag) ?_);(refine sX (ai @Q5 (ai @Q8 (ai @Q7 (ai @Q4 (ai @Q3 (@Q6)))))) ?_;try exact trivial))|(refine kA ?_;clear hK K)|(intro hg;try exact aw)|exact fin|apply ai)
theorem acF (r:dY)(hr:iw r)(t:gv)(ht:ow t):ax ae 311 [tK r t,i64 (here r t)] (i64 (pH r t)):=by
 have b3:=DP hr ht;have b5:=M9 b3 ht.d ht.w;have b6:=xe ht.d;have b7:=xe (t:=min t.wt t.dy) (by have:=ht.d;have:=ht.w;omega);have h6:=ht.d;have h7:=ht.w
 refine aR func311 ntmps311 results311 call311 rfl ay λw0 S0 M0=> ?_;repeat'(first|refine bK ?_|((first|refine bL λK hK=> ?_|refine bI ?_|show bC _ _ _ _ _|refine bl (O6 _ _) ?_|refine bl (HI _ _) ?_|refine bl (D4 _ _ ag ag) ?_|refine bl (abH _ ag) ?_);(refine sX (ai @Q5 (ai @Q8 (ai @Q7 (ai @Q4 (ai @Q3 (@Q6)))))) ?_;try exact trivial))|(refine kA ?_;clear hK K)|(intro hg;try exact aw)|exact fin|apply ai)
theorem Ui (r:dY)(hr:iw r)(t:gv)(ht:ow t):ax ae 290 [pC r,Ad t] (vG r t):=by
 refine aR func290 ntmps290 results290 call290 rfl ay λw0 S0 M0=> ?_;repeat'(first|refine aB ?_|refine aC λK hK=> ?_|refine cA (acG r hr t ht) ?_|refine cA (acz r hr t ht) ?_|refine cA (acF r hr t ht) ?_|(refine kA ?_;clear hK K)|(intro hg;try exact aw)|exact fin|apply ai)
abbrev Gt (s:cg):nE:=⟨false, .arr,1,λl=>[rM s (l.headD 0),rN s (l.headD 0)],[]⟩
abbrev stM (s:cg):D:= .agg [i64 s.hl,i64 s.hh,i64 s.gl,i64 s.gh,i64 s.dr,i64 s.rd,i64 s.ea,i64 s.sl, .list (s.ck.map k8), .eN (Gt s)]
abbrev uu (s:cg):List D:=[i64 s.hl,i64 s.hh,i64 s.gl,i64 s.gh,i64 s.dr,i64 s.rd,i64 s.ea,i64 s.sl, .list (s.ck.map k8), .eN (Gt s)]
abbrev rH:D:= .agg [i64 0,i64 0,i64 0,i64 0,i64 0,i64 0,i64 0,i64 0, .val (.slice none 0 0), .val (.map none)]
theorem look_ok (s:cg):ax ae 192 [iP s] (stM s):=by
 refine aR func192 ntmps192 results192 call192 rfl ay λw0 S0 M0=> ?_;repeat'(first|(show az _ (.region 1 _ false) _ _;refine Iw λK hK=> ?_;refine av ?_)|refine aB ?_|refine aC λK hK=> ?_|(refine kA ?_;clear hK K)|(refine⟨(Gt s:nE),rfl, ?_⟩)|(intro hg;try exact aw)|exact fin|apply ai)
 all_goals skip
theorem RN {s:cg}{i k:Nat}:lf s i k↔(s.dr * fK (nth s.ck i).day (nth s.ck k).day < (nth s.ck i).lo - (nth s.ck k).hi\/s.dr * fK (nth s.ck i).day (nth s.ck k).day < (nth s.ck k).lo - (nth s.ck i).hi):=by
 unfold lf;generalize s.dr * fK (nth s.ck i).day (nth s.ck k).day=d;omega
theorem agf (s:cg)(hs:fb s)(i k:Nat)(hi:i < s.ck.length)(hk:k < s.ck.length):ax ae 242 [stM s,k8 (nth s.ck i),k8 (nth s.ck k)] (.bool (decide (lf s i k))):=by
 have nd:=hs.d;have c1:=hs.c i hi;have c2:=hs.c k hk;have b1:=kv nd.1 nd.2 (zh c1.1 c2.1).1 (zh c1.1 c2.1).2;have b5: -2000<=(nth s.ck i).lo/\(nth s.ck i).lo<=(nth s.ck i).hi/\(nth s.ck i).hi<=2000:=c1.2;have b6: -2000<=(nth s.ck k).lo/\(nth s.ck k).lo<=(nth s.ck k).hi/\(nth s.ck k).hi<=2000:=c2.2;refine aR func242 ntmps242 results242 call242 rfl ay λw0 S0 M0=> ?_;repeat'(first|refine aB ?_|refine aC λK hK=> ?_|refine cA (QI _ _ c1.1 c2.1) ?_|(refine kA ?_;clear hK K)|(intro hg;try exact aw)|exact fin|apply ai)
 ·refine gi ?_;rw[decide_eq_true_iff,decide_eq_true_iff,RN];omega
 ·rw[decide_eq_true (RN.2 ag)]
theorem QJ (s:cg)(hs:fb s):ax ae 193 [stM s] (zr s):=by
 have hl:=hs.n;refine aR func193 ntmps193 results193 call193 rfl ay λw0 S0 M0=> ?_;repeat'(first|refine aB ?_|refine aC λK hK=> ?_|(refine kA ?_;clear hK K)|(intro hg;try exact aw)|exact fin|apply ai)
 refine dH (ι:=Nat) (λj=>[(1, .box 0 0),(5,i64 0),(6,i64 0),(7, .bool false),(13, .list (s.ck.map k8)),(14,i64 s.ck.length),(15,i64 j)]) (λ_=>[.mu (uu s)]) (λ_=>[])
  (λj=>j<=s.ck.length/\∀a b,a < b->b < s.ck.length->a < j->¬lf s a b) (λj=>s.ck.length - j) (λ_ _=>⟨rfl,rfl⟩) 0 ⟨cv _,λa b _ _ h=>absurd h (Nat.not_lt_zero a)⟩ (aV rfl (by try(refine av ?_;try exact trivial);try simp) ⟨_,rfl⟩ ⟨_,rfl⟩) (λj ⟨hj,hi⟩=> ?_)
 (refine av ?_;try exact trivial)
 repeat'(first|refine aB ?_|refine aC λK hK=> ?_|(refine kA ?_;clear hK K)|(intro hg;try exact aw)|exact fin|apply ai)
 ·refine dH (ι:=Nat) (λk=>[(1, .box 0 0),(5,i64 0),(6,i64 0),(7, .bool false),(8,i64 j),(9, .box 1 0),(10,i64 k),(13, .list (s.ck.map k8)),(14,i64 s.ck.length),(15,i64 j)]) (λ_=>[.mu (uu s), .mu [i64 (nth s.ck j).day,i64 (nth s.ck j).lo,i64 (nth s.ck j).hi]]) (λ_=>[])
   (λk=>j < k/\k<=s.ck.length/\∀b,j < b->b < k->¬lf s j b) (λk=>s.ck.length - k) (λ_ _=>⟨rfl,rfl⟩) (j + 1) ⟨ag,ag,λb h1 h2=>by omega⟩ (aV rfl (by try(refine av ?_;try exact trivial);try simp) ⟨_,rfl⟩ ⟨_,rfl⟩) (λk ⟨tn,hk,hb⟩=> ?_)
  (refine av ?_;try exact trivial)
  repeat'(first|refine aB ?_|refine aC λK hK=> ?_|refine cA (agf s hs j k ag ag) ?_|(refine kA ?_;clear hK K)|(intro hg;try exact aw)|exact fin|apply ai)
  ·refine(Ej ⟨tn,ag,hg,λa b h1 h2 h3=> ?_⟩).symm;rcases h3 with h3|⟨rfl,h3⟩
   ·exact hi a b h1 h2 h3
   ·exact hb b h1 h3
  ·refine⟨k + 1,⟨ag,ag,λb h1 h2=> ?_⟩,ag,aV rfl (by try(refine av ?_;try exact trivial);try simp) ⟨_,rfl⟩ ⟨_,rfl⟩⟩;by_cases h9:b=k
   ·rw[h9];exact hg
   ·exact hb b h1 ag
  ·refine⟨j + 1,⟨ag,λa b h1 h2 h3=> ?_⟩,ag,aV rfl (by try(refine av ?_;try exact trivial);try simp) ⟨_,rfl⟩ ⟨_,rfl⟩⟩;rcases Nat.lt_or_eq_of_le (Nat.le_of_lt_succ h3)with h4|h4
   ·exact hi a b h1 h2 h4
   ·subst h4;exact hb b h1 ag
 ·exact(Ek λa b h1 h2=>hi a b h1 h2 ag).symm
theorem agr (s:cg)(hl:s.ck.length<=9223372036854775807)(f:Bool)(h:¬(fb s/\f=true)):ax ae 133 [iP s, .bool f] (.aQ [rH,i64 2]):=by
 by_cases hs:fb s
 ·obtain rfl:f=false:=by cases f<;>simp_all
  have hv:ax ae 191 [iP s] (.bool true):=decide_eq_true hs▸DY s hl;refine aR IL IJ II IP rfl ay λw0 S0 M0=> ?_;repeat'(first|refine aB ?_|refine aC λK hK=> ?_|refine cA (hv) ?_|(refine kA ?_;clear hK K)|(exact(rfl:(q9 none 0 0).oneCell'=true))|(exact(rfl:(EC none).oneCell'=true))|(intro hg;try exact aw)|exact fin|apply ai)
 ·have hv:ax ae 191 [iP s] (.bool false):=decide_eq_false hs▸DY s hl;refine aR IL IJ II IP rfl ay λw0 S0 M0=> ?_;repeat'(first|refine aB ?_|refine aC λK hK=> ?_|refine cA (hv) ?_|(refine kA ?_;clear hK K)|(exact(rfl:(q9 none 0 0).oneCell'=true))|(exact(rfl:(EC none).oneCell'=true))|(intro hg;try exact aw)|exact fin|apply ai)
theorem agq (s:cg)(hs:fb s)(hc:¬jc s):ax ae 133 [iP s, .bool true] (.aQ [rH,i64 7]):=by
 have hl:=hs.n;have hv:ax ae 191 [iP s] (.bool true):=decide_eq_true hs▸DY s ag;obtain⟨i,k,h⟩:=(RO s).resolve_left hc;have hk:ax ae 193 [stM s] (.aQ [i64 i,i64 k, .bool true]):=Ej h▸QJ s hs;refine aR IL IJ II IP rfl ay λw0 S0 M0=> ?_;repeat'(first|refine aB ?_|refine aC λK hK=> ?_|refine cA (hv) ?_|refine cA (look_ok s) ?_|refine cA (hk) ?_|(refine kA ?_;clear hK K)|(exact(rfl:(q9 none 0 0).oneCell'=true))|(exact(rfl:(EC none).oneCell'=true))|(intro hg;try exact aw)|exact fin|apply ai)
theorem Sy (s:cg)(hs:fb s)(hc:jc s):ax ae 133 [iP s, .bool true] (.aQ [stM s,i64 0]):=by
 have hl:=hs.n;have hv:ax ae 191 [iP s] (.bool true):=decide_eq_true hs▸DY s ag;have hk:ax ae 193 [stM s] (.aQ [i64 0,i64 0, .bool false]):=Ek hc▸QJ s hs;refine aR IL IJ II IP rfl ay λw0 S0 M0=> ?_;repeat'(first|refine aB ?_|refine aC λK hK=> ?_|refine cA (hv) ?_|refine cA (look_ok s) ?_|refine cA (hk) ?_|(refine kA ?_;clear hK K)|(exact(rfl:(q9 none 0 0).oneCell'=true))|(exact(rfl:(EC none).oneCell'=true))|(intro hg;try exact aw)|exact fin|apply ai)
end Go.Proofs.YtopobgihpdaggaaGreatDoor
namespace Go.Proofs.YtopobgihpdaggaaGreatDoor
set_option maxRecDepth 100000
set_option maxHeartbeats 4000000
open Go.Ab
attribute[local irreducible] az dI dR ax IA
def BZ (s:cg)(day:Int)(k:Nat):D:=ql ((nth s.ck k).lo - s.dr * fK day (nth s.ck k).day) ((nth s.ck k).hi + s.dr * fK day (nth s.ck k).day)
theorem af2 (s:cg)(hs:fb s)(day:Int)(hd:0<=day/\day<=400):Iter ae 243 [.ro (uu s), .ro [i64 day]] ((dB s.ck.length).map λk=>[BZ s day k]):=by
 have hl:=hs.n;have nd:=hs.d;refine Gu func243 ntmps243 results243 call243 rfl ay λl J Jx=> ?_;repeat'(first
   |refine qv ?_
   |refine qB ?_
   |refine qw ?_
   |refine qy ?_
   |refine qu ?_
   |refine qA ?_
   |refine qx ?_
   |(refine qz ?_;(refine av ?_;try exact trivial))
   |(refine jC λw0 S0 M0 oq=>mA λK hK=> ?_;(refine av ?_;try exact trivial))
   |(refine jC λw0 S0 M0 oq=>ph Tryz.ty.mixed aj λK hK=> ?_;(refine av ?_;try exact trivial))
   |(refine hK _ ?_;clear hK K;simp only[dE,dG,if_true,Nat.reduceEqDiff,reduceIte])
   |(show dE _ _ _ _ _;simp only[dE,dG,if_true,Nat.reduceEqDiff,reduceIte])
   |(show ji _ _ _ _;simp only[ji,dE,dG,if_true,Nat.reduceEqDiff,reduceIte])
   |(show dG _ _ _ _ _;simp only[dE,dG,if_true,Nat.reduceEqDiff,reduceIte])
   |(intro hg;first|(exfalso;omega)|(exfalso;contradiction)|skip)
   |apply ai
   |(with_reducible rfl)
   |(clear hK;omega)
   |omega)
 refine Gy (ι:=Nat) (λj=>[(0, .val (.func (.yield l) #[] #[])),(1, .ro (uu s)),(2, .ro [i64 day]),(9, .list (s.ck.map k8)),(10,i64 s.ck.length),(11,i64 j)]) (λj=>(true,j)) (λj=>j<=s.ck.length) (λj=>s.ck.length - j) (λ_ _=>rfl) 0 (cv _) rfl (aV rfl (by try(refine av ?_;try exact trivial);try simp) ⟨_,rfl⟩ ⟨_,rfl⟩) (λj hj=> ?_);have b1:=λh=>hs.fK hd (k:=j) h;have b2:=λh=>hs.c j h;have b5:j < s.ck.length-> -2000<=(nth s.ck j).lo/\(nth s.ck j).lo<=(nth s.ck j).hi/\(nth s.ck j).hi<=2000:=λh=>(hs.c j h).2
 (refine av ?_;try exact trivial)
 repeat'(first
   |refine qv ?_
   |refine qB ?_
   |refine qw ?_
   |refine qy ?_
   |refine qu ?_
   |refine qA ?_
   |refine qx ?_
   |(refine qz ?_;(refine av ?_;try exact trivial))
   |((refine bl (QI day _ hd (b2 ag).1) ?_;try(refine av ?_;try exact trivial)))
   |((refine abc 12 rfl λK1 aK=> ?_;(refine av ?_;try exact trivial)))
   |(refine aK _ _ rfl rfl ?_ ?_ (λb=> ?_);rotate_left;((refine av ?_;try exact trivial));((refine av ?_;try exact trivial)))
   |(refine jC λw0 S0 M0 oq=>mA λK hK=> ?_;(refine av ?_;try exact trivial))
   |(refine jC λw0 S0 M0 oq=>ph Tryz.ty.mixed aj λK hK=> ?_;(refine av ?_;try exact trivial))
   |(refine hK _ ?_;clear hK K;simp only[dE,dG,if_true,Nat.reduceEqDiff,reduceIte])
   |(show dE _ _ _ _ _;simp only[dE,dG,if_true,Nat.reduceEqDiff,reduceIte])
   |(show ji _ _ _ _;simp only[ji,dE,dG,if_true,Nat.reduceEqDiff,reduceIte])
   |(show dG _ _ _ _ _;simp only[dE,dG,if_true,Nat.reduceEqDiff,reduceIte])
   |(intro hg;first|(exfalso;omega)|(exfalso;contradiction)|skip)
   |apply ai
   |(with_reducible rfl)
   |(clear hK;omega)
   |omega)
 ·simp_all
 ·have hb:b=true:=by simp_all
  subst hb;exact⟨j + 1,ag,ag,rfl,aV rfl (by try(refine av ?_;try exact trivial);try simp) ⟨_,rfl⟩ ⟨_,rfl⟩⟩
 ·have gE:j < s.ck.length:=ag;show((dB s.ck.length).map λk=>[BZ s day k])[j]? =_;simp[gE,BZ]
 ·show j=(dB s.ck.length).length;simp;omega
theorem af1 (s:cg)(day:Int):ax ae 194 [stM s,i64 day] (.aD 243 [.ro (uu s), .ro [i64 day]]):=by
 refine aR func194 ntmps194 results194 call194 rfl ay λw0 S0 M0=> ?_;repeat'(first|(refine ou 0 _ _ rfl rfl ?_;simp only[bF,Nat.reduceAdd])|(refine ou 1 _ _ rfl rfl ?_;simp only[bF,Nat.reduceAdd])|refine aB ?_|refine aC λK hK=> ?_|(refine kA ?_;clear hK K)|(intro hg;try exact aw)|exact fin|apply ai)
theorem PA (s:cg)(hs:fb s)(day:Int)(hd:0<=day/\day<=400):ax ae 135 [stM s,i64 day] (ql (rM s day) (rN s day)):=by
 refine aR func135 ntmps135 results135 call135 rfl ay λw0 S0 M0=> ?_;have hl:=hs.n;have nd:=hs.d;repeat'(first|(show az _ (.region 1 _ false) _ _;refine Iw λK hK=> ?_;refine av ?_)|refine aB ?_|refine aC λK hK=> ?_|refine cA (af1 s day) ?_|(refine kA ?_;clear hK K)|(intro hg;try exact aw)|exact fin|apply ai)
 ·rfl
 refine SE (gf:=243) (cs:=[.ro (uu s), .ro [i64 day]]) (dp:=[.ro (uu s), .ro [i64 day]]) (xs:=(dB s.ck.length).map λk=>[BZ s day k]) (by try(refine av ?_;try exact trivial)) (by try(refine av ?_;try exact trivial)) (af2 s hs day hd) (λx hx=>by obtain⟨y,_,rfl⟩:=List.mem_map.1 hx;rfl) ay
  (bj [(1,i64 day),(2,D.box 0 0),(4, .box 1 0),(7, .box 3 0)]) (λk=>[.mu (uu s), .mu [i64 0,i64 0], .mu [i64 0,i64 0], .mu [i64 (oN s day k),i64 (oY s day k)]]) (λ_=>[]) 4
  (Gj rfl (by try(refine av ?_;try exact trivial);try simp[oN,oY]) ⟨_,rfl⟩ ⟨_,rfl⟩) (CQ rfl) (λ_ _=>rfl) ?_ ay ?_ ?_
 ·intro k hk;exact⟨λ_=> .undef,qo _ rfl⟩
 ·intro k x hk w1 S1 M1 l o1 b1 hO;rw[List.getElem?_map,Option.map_eq_some_iff]at hk;obtain⟨y,hy,rfl⟩:=hk;obtain⟨nZ,rfl⟩:=List.getElem?_eq_some_iff.1 hy;simp only[List.length_range]at nZ;rw[List.getElem_range];have e1:oN s day (k + 1)=max (oN s day k) ((nth s.ck k).lo - s.dr * fK day (nth s.ck k).day):=rfl;have e2:oY s day (k + 1)=min (oY s day k) ((nth s.ck k).hi + s.dr * fK day (nth s.ck k).day):=rfl;rw[e1,e2];show az _ _ _ ⟨41,put (bj [(1,i64 day),(2,D.box 0 0),(4, .box 1 0),(7, .box 3 0)]) 22 (ql ((nth s.ck k).lo - s.dr * fK day (nth s.ck k).day) ((nth s.ck k).hi + s.dr * fK day (nth s.ck k).day)),_,_⟩
  (refine av ?_;try exact trivial)
  repeat'(first|refine aB ?_|refine aC λK hK=> ?_|refine cA (HI _ _) ?_|refine cA (O6 _ _) ?_|(refine kA ?_;clear hK K)|(intro hg;try exact aw)|exact fin|apply ai)
  simp only[CW];exact⟨rfl,λ_=> .inl rfl,⟨_,rfl⟩,⟨_,rfl⟩⟩
 ·rw[show((dB s.ck.length).map λk=>[BZ s day k]).length=s.ck.length by simp];show az _ _ _ _
  (refine av ?_;try exact trivial)
  repeat'(first|(show az _ (.region 8 _ false) _ _;refine Iw λK hK=> ?_;refine av ?_)|refine aB ?_|refine aC λK hK=> ?_|(refine kA ?_;clear hK K)|(intro hg;try exact aw)|exact fin|apply ai)
  all_goals try rfl
end Go.Proofs.YtopobgihpdaggaaGreatDoor
namespace Go.Proofs.YtopobgihpdaggaaGreatDoor
open Go.Ab
attribute[local irreducible] az dI dR ax IA
noncomputable def np (s:cg)(fine:Prop)[Decidable fine]:Int:=if fb s/\fine then(if jc s then 0 else 7)else 2
section
variable {s:cg} {fine:Prop} [Decidable fine]
theorem adt (h:¬(fb s/\fine)):np s fine=2:=by unfold np;rw[if_neg h]
theorem ads (h:fb s/\fine)(hc:¬jc s):np s fine=7:=by unfold np;rw[if_pos h,if_neg hc]
theorem Ra (h:fb s/\fine)(hc:jc s):np s fine=0:=by unfold np;rw[if_pos h,if_pos hc]
theorem aga (hl:s.ck.length<=9223372036854775807):ax ae 133 [iP s, .bool (decide fine)] (.aQ [if np s fine=0 then stM s else rH,i64 (np s fine)]):=by
 by_cases h:fb s/\fine
 ·by_cases hc:jc s
  ·rw[Ra h hc,decide_eq_true h.2];exact Sy s h.1 hc
  ·rw[ads h hc,decide_eq_true h.2];exact agq s h.1 hc
 ·rw[adt h];exact agr s hl _ (by simpa using h)
theorem adq (h:np s fine=0):(fb s/\fine)/\jc s:=by
 unfold np at h;split at h
 ·split at h
  ·exact⟨‹_›,‹_›⟩
  ·omega
 ·omega
end
end Go.Proofs.YtopobgihpdaggaaGreatDoor
namespace Go.Proofs.YtopobgihpdaggaaGreatDoor
set_option maxRecDepth 100000
set_option maxHeartbeats 4000000
open Go.Ab
attribute[local irreducible] az dI dR ax IA
theorem af9 (a b:Int)(h:Bool):ax ae 312 [ql a b, .bool h] (i64 (if h=true then a else b)):=by
 cases h
 ·refine aR func312 ntmps312 results312 call312 rfl ay λw0 S0 M0=> ?_;repeat'(first|refine aB ?_|refine aC λK hK=> ?_|(refine kA ?_;clear hK K)|(intro hg;try exact aw)|exact fin|apply ai)
 ·refine aR func312 ntmps312 results312 call312 rfl ay λw0 S0 M0=> ?_;repeat'(first|refine aB ?_|refine aC λK hK=> ?_|(refine kA ?_;clear hK K)|(intro hg;try exact aw)|exact fin|apply ai)
def HU (s:cg)(r:dY)(lo he dr we:Bool):gv:=
 ⟨if(!lo)=true then rM s r.day else rN s r.day,if(!lo)=true then -s.rd else s.rd,if lo=true then s.gl else s.gh,if he=true then s.hl else s.hh,if(!lo)=true then r.al else r.ah,if dr=true then r.dl else r.dh,if we=true then r.wl else r.wh⟩
theorem ady {s:cg}{r:dY}(hs:fb s)(hr:iw r)(hn:jc s)(lo he dr we:Bool):ov s r (HU s r lo he dr we):=by
 have h1:=Pt hs hn r.day;have h3:=hs.h;have h4:=hs.g;have h5:=hs.r;have h6:=hr.a;have h7:=hr.y;have h8:=hr.w
 unfold gw at *;unfold ov HU;simp only;refine⟨?_, ?_, ?_, ?_, ?_, ?_, ?_⟩<;>split<;>omega
theorem adx (s:cg)(hs:fb s)(r:dY)(hr:iw r)(lo he dr we:Bool):ax ae 291 [stM s,pC r, .bool lo, .bool he, .bool dr, .bool we] (Ad (HU s r lo he dr we)):=by
 have h5:=hs.r;refine aR func291 ntmps291 results291 call291 rfl ay λw0 S0 M0=> ?_;repeat'(first|refine aB ?_|((first|(show az _ (.region 3 _ true) _ _;refine tN [(13,12),(26,12),(30,12),(38,12),(44,12),(49,12),(55,12),(60,12)] Tryz.ty.mixed aj λK hK=> ?_)|show Sep _ _);refine av ?_)|refine aC λK hK=> ?_|refine cA (PA s hs r.day hr.d) ?_|refine cA (af9 _ _ _) ?_|(refine kA ?_;clear hK K)|(intro hg;try exact aw)|exact fin|apply ai)
 cases lo<;>rfl
abbrev f_ (r:dY):List D:=[i64 r.day,i64 r.min,i64 r.zq,i64 r.gn,i64 r.al,i64 r.ah,i64 r.dl,i64 r.dh,i64 r.wl,i64 r.wh]
theorem Pp (r:dY)(t:gv):ax ae 293 [vG r t] (i64 (here r t)):=by
 refine aR func293 ntmps293 results293 call293 rfl ay λw0 S0 M0=> ?_;repeat'(first|refine aB ?_|refine aC λK hK=> ?_|(refine kA ?_;clear hK K)|(intro hg;try exact aw)|exact fin|apply ai)
theorem Po (r:dY)(t:gv):ax ae 294 [vG r t] (i64 (nJ r t)):=by
 refine aR func294 ntmps294 results294 call294 rfl ay λw0 S0 M0=> ?_;repeat'(first|refine aB ?_|refine aC λK hK=> ?_|(refine kA ?_;clear hK K)|(intro hg;try exact aw)|exact fin|apply ai)
theorem Pn (r:dY)(t:gv):ax ae 295 [vG r t] (i64 (pH r t)):=by
 refine aR func295 ntmps295 results295 call295 rfl ay λw0 S0 M0=> ?_;repeat'(first|refine aB ?_|refine aC λK hK=> ?_|(refine kA ?_;clear hK K)|(intro hg;try exact aw)|exact fin|apply ai)
theorem Pq (r:dY)(hr:iw r)(t:gv)(ht:ow t)(w:FuncId)(n:Int)(h:ax ae w [vG r t] (i64 n)):ax ae 289 [Ad t, .ro [.aD w []], .ro (f_ r)] (i64 n):=by
 refine aR func289 ntmps289 results289 call289 rfl ay λw0 S0 M0=> ?_;repeat'(first|refine aB ?_|refine aC λK hK=> ?_|refine cA (Ui r hr t ht) ?_|refine cA (h) ?_|(refine kA ?_;clear hK K)|(intro hg;try exact aw)|exact fin|apply ai)
theorem aaO (r:dY)(w:FuncId):ax ae 288 [.aD w [], .ro (f_ r)] (.aD 289 [.ro [.aD w []], .ro (f_ r)]):=by
 refine aR func288 ntmps288 results288 call288 rfl ay λw0 S0 M0=> ?_;repeat'(first|(refine ou 0 _ _ rfl rfl ?_;simp only[bF,Nat.reduceAdd])|refine aB ?_|refine aC λK hK=> ?_|(refine kA ?_;clear hK K)|(intro hg;try exact aw)|exact fin|apply ai)
theorem HS (r:dY)(hr:iw r)(t u:gv)(ht:ow t)(hu:ow u)(w:FuncId)(n m:Int)(h1:ax ae w [vG r t] (i64 n))(h2:ax ae w [vG r u] (i64 m)):
  ax ae 292 [Ad t,Ad u, .aD 289 [.ro [.aD w []], .ro (f_ r)]] (ql n m):=by
 refine aR func292 ntmps292 results292 call292 rfl ay λw0 S0 M0=> ?_;repeat'(first|refine aB ?_|refine aC λK hK=> ?_|refine cA (Pq r hr t ht w n h1) ?_|refine cA (Pq r hr u hu w m h2) ?_|(refine kA ?_;clear hK K)|(intro hg;try exact aw)|exact fin|apply ai)
theorem acK (s:cg)(hl:s.ck.length<=9223372036854775807)(r:dY):ax ae 252 [iP s,pC r]
  (.aQ [if np s (iw r)=0 then Pa s r else .agg [i64 0,i64 0,i64 0,i64 0,i64 0,i64 0],i64 (np s (iw r))]):=by
 have ha:=aga (s:=s) (fine:=iw r) hl;by_cases h:np s (iw r)=0
 ·have h2:=adq h;have hs:=h2.1.1;have hr:=h2.1.2;have b:=λlo he dr we=>vO hs hr (ady hs hr h2.2 lo he dr we);rw[h]at ha⊢;rw[if_pos rfl]at ha⊢;refine aR func252 ntmps252 results252 call252 rfl ay λw0 S0 M0=> ?_;repeat'(first|(refine ou 1 _ _ rfl rfl ?_;simp only[bF,Nat.reduceAdd])|refine aB ?_|((first|(show az _ (.region 1 _ true) _ _;refine tN [(2,6),(3,6)] Tryz.ty.mixed aj λK hK=> ?_)|(show az _ (.region 5 _ true) _ _;refine B9 [(6,9),(6,10),(3,9),(3,10),(10,9),(9,10)] [0,1,2,3,4,5] 6 7 [8,9] Tryz.ty.mixed aj λK hK=> ?_)|(show az _ (.region 6 _ true) _ _;refine B9 [(6,11),(6,12),(3,11),(3,12),(12,11),(11,12)] [0,1,2,3,4,5] 6 7 [8,9] Tryz.ty.mixed aj λK hK=> ?_)|(show az _ (.region 7 _ true) _ _;refine tN [(9,4),(10,4),(11,4),(12,4)] Tryz.ty.mixed aj λK hK=> ?_)|show Sep _ _);refine av ?_)|refine aC λK hK=> ?_|refine cA (QG _) ?_|refine cA (ha) ?_|refine cA (adx s hs r hr _ _ _ _) ?_|refine cA (aaO r _) ?_|refine cA (HS r hr _ _ (b _ _ _ _) (b _ _ _ _) 293 _ _ (Pp r _) (Pp r _)) ?_|refine cA (HS r hr _ _ (b _ _ _ _) (b _ _ _ _) 294 _ _ (Po r _) (Po r _)) ?_|refine cA (HS r hr _ _ (b _ _ _ _) (b _ _ _ _) 295 _ _ (Pn r _) (Pn r _)) ?_|(refine kA ?_;clear hK K)|(show ra _ _;refine FC rfl ?_ ?_ rfl)|(show tR _ _;first|refine FA|refine Fz ?_ ?_)|(show @Eq D _ _;(refine av ?_;try exact trivial);done)|(show @Eq (List Bx) _ _;(refine av ?_;try exact trivial);done)|(intro hg;try exact aw)|exact fin|apply ai)
  all_goals rfl
 ·generalize np s (iw r)=e at *;rw[if_neg h]at ha⊢;refine aR func252 ntmps252 results252 call252 rfl ay λw0 S0 M0=> ?_;repeat'(first|refine aB ?_|((first|(show az _ (.region 1 _ true) _ _;refine tN [(2,6),(3,6)] Tryz.ty.mixed aj λK hK=> ?_)|(show az _ (.region 5 _ true) _ _;refine B9 [(6,9),(6,10),(3,9),(3,10),(10,9),(9,10)] [0,1,2,3,4,5] 6 7 [8,9] Tryz.ty.mixed aj λK hK=> ?_)|(show az _ (.region 6 _ true) _ _;refine B9 [(6,11),(6,12),(3,11),(3,12),(12,11),(11,12)] [0,1,2,3,4,5] 6 7 [8,9] Tryz.ty.mixed aj λK hK=> ?_)|(show az _ (.region 7 _ true) _ _;refine tN [(9,4),(10,4),(11,4),(12,4)] Tryz.ty.mixed aj λK hK=> ?_)|show Sep _ _);refine av ?_)|refine aC λK hK=> ?_|refine cA (QG _) ?_|refine cA (ha) ?_|(refine kA ?_;clear hK K)|(show ra _ _;refine FC rfl ?_ ?_ rfl)|(show tR _ _;first|refine FA|refine Fz ?_ ?_)|(show @Eq D _ _;(refine av ?_;try exact trivial);done)|(show @Eq (List Bx) _ _;(refine av ?_;try exact trivial);done)|(exact(rfl:(q9 none 0 0).oneCell'=true))|(exact(rfl:(EC none).oneCell'=true))|(intro hg;try exact aw)|exact fin|apply ai)
end Go.Proofs.YtopobgihpdaggaaGreatDoor
namespace Go.mD
open Go.Lib
def parts (c:UInt8):List UInt8->List (List UInt8)
 |[]=>[[]]
 |b::s=>if b=c then[]::parts c s else match parts c s with
  |w::ws=>(b::w)::ws
  |[]=>[[b]]
theorem Y5 (c:UInt8):∀s,parts c s≠[]
 |[]=>by simp[parts]
 |b::s=>by
  unfold parts;split
  ·simp
  ·split<;>simp
theorem F4 {c b:UInt8}{s:List UInt8}(h:b≠c):∃w ws,parts c s=w::ws/\parts c (b::s)=(b::w)::ws:=by
 cases hp:parts c s with
 |nil=>exact absurd hp (Y5 c s)
 |cons w ws=>
  refine⟨w,ws,rfl, ?_⟩;rw[parts,if_neg h,hp]
theorem Oy {c:UInt8}{s:List UInt8}:parts c (c::s)=[]::parts c s:=by rw[parts,if_pos rfl]
theorem F3 (c:UInt8):∀s,∀w∈parts c s,c∉w
 |[],w,hw=>by simp[parts]at hw;subst hw;simp
 |b::s,w,hw=>by
  by_cases h:b=c
  ·subst h;rw[Oy]at hw;rcases eX.1 hw with rfl|hw
   ·simp
   ·exact F3 b s w hw
  ·obtain⟨x,xs,h1,h2⟩:=F4 (s:=s) h;rw[h2]at hw;rcases eX.1 hw with rfl|hw
   ·have:=F3 c s x (by rw[h1];exact List.mem_cons_self ..);simp only[eX,not_or];exact⟨λe=>h e.symm,this⟩
   ·exact F3 c s w (by rw[h1];exact List.mem_cons_of_mem _ hw)
theorem Oz (c:UInt8)(t:List UInt8):∀p:List UInt8,c∉p->parts c (p++c::t)=p::parts c t
 |[],_=>Oy
 |b::p,h=>by
  simp only[eX,not_or]at h;have ih:=Oz c t p h.2;obtain⟨w,ws,h1,h2⟩:=F4 (c:=c) (b:=b) (s:=p++c::t) (λe=>h.1 e.symm);rw[List.cons_append,h2];rw[ih]at h1;cases h1;rfl
theorem Ow (c:UInt8):∀p:List UInt8,c∉p->parts c p=[p]
 |[],_=>rfl
 |b::p,h=>by
  simp only[eX,not_or]at h;have ih:=Ow c p h.2;obtain⟨w,ws,h1,h2⟩:=F4 (c:=c) (b:=b) (s:=p) (λe=>h.1 e.symm);rw[h2];rw[ih]at h1;cases h1;rfl
theorem ae8 (c:UInt8):∀p:List UInt8,c∉p->p.count c=0:=λp h=>List.count_eq_zero.2 h
theorem F9 {c:UInt8}{s:List UInt8}{j:Nat}:occAt s [c] j=true↔s[j]? =some c:=by
 unfold occAt;cases h:s.drop j with
 |nil=>
  have:s[j]? =none:=by rw[List.getElem?_eq_none_iff];have:=List.length_drop (l:=s) (i:=j);rw[h]at this;simp at this;omega
  simp[this]
 |cons a t=>
  have:s[j]? =some a:=by have:=List.getElem?_drop (xs:=s) (i:=j) (j:=0);rw[h]at this;simpa using this.symm
  rw[this];simp only[List.isPrefixOf,Bool.and_true,beq_iff_eq,Option.some.injEq];exact eq_comm
theorem aa7 {c:UInt8}{s:List UInt8}(h:c∉s):index s [c]= -1:=index_none λj _=>by
 rw[Bool.eq_false_iff];intro hh;exact h (fM (F9.1 hh))
theorem Gx {c:UInt8}{p t:List UInt8}(h:c∉p):index (p++c::t) [c]=p.length:=
 index_first (by simp) (F9.2 (by simp)) λj hj=>by
  rw[Bool.eq_false_iff];intro hh;have:=F9.1 hh;rw[cZ hj]at this;exact h (fM this)
theorem H4 {c:UInt8}:∀s:List UInt8,c∈s->∃p t,s=p++c::t/\c∉p
 |b::s,h=>by
  by_cases hb:b=c
  ·exact⟨[],s,by rw[hb];rfl,by simp⟩
  ·obtain⟨p,t,e,hp⟩:=H4 s (by rcases eX.1 h with h|h;exact absurd h.symm hb;exact h);exact⟨b::p,t,by rw[e];rfl,by simp only[eX,not_or];exact⟨λe=>hb e.symm,hp⟩⟩
theorem Nt (c:UInt8):∀(k:Nat) (s:List UInt8),s.count c=k->splitK [c] 0 k s=parts c s
 |0,s,h=>by
  have hf:c∉s:=List.count_eq_zero.1 h;rw[Ow c s hf];rfl
 |k + 1,s,h=>by
  obtain⟨p,t,rfl,hp⟩:=H4 s (List.count_pos_iff.1 (show 0 < s.count c by omega));have hc:t.count c=k:=by rw[List.count_append,ae8 c p hp]at h;simp at h;omega
  have e:splitK [c] 0 (k + 1) (p++c::t)=p::splitK [c] 0 k t:=by
   have h1:¬((index (p++c::t) [c] == -1)=true):=by rw[Gx hp];simp
   rw[splitK,if_neg h1,Gx hp];simp
  rw[Oz c t p hp,<-Nt c k t hc,e]
def sR (c:UInt8)(s:ByteArray):List ByteArray:=(parts c s.data.toList).map λw=>⟨w.toArray⟩
theorem Nu (c:UInt8)(s:ByteArray):splitB ⟨#[c]⟩ 0 (countB s ⟨#[c]⟩) s=sR c s:=by
 have h:=splitB_data ⟨#[c]⟩ 0 (countB s ⟨#[c]⟩) s;have e:countB s ⟨#[c]⟩=s.data.toList.count c:=by unfold countB;exact count_one c _
 rw[e]at h⊢;rw[show(ByteArray.mk #[c]).data.toList=[c]from rfl,Nt c _ _ rfl]at h;unfold sR;rw[<-h,List.map_map]
 conv=>lhs;rw[<-List.map_id (splitB _ _ _ _)]
 refine List.map_congr_left λx _=> ?_;show x=⟨x.data.toList.toArray⟩;simp
theorem H0 {u:Nat}(h:u < 10):decDigits u=[zC (48 + u)]:=by rw[decDigits,dif_pos h]
theorem H3 {u:Nat}(h:¬u < 10):decDigits u=decDigits (u / 10)++[zC (48 + u % 10)]:=by rw[decDigits,dif_neg h]
def oP (b:UInt8):Prop:=48<=b.toNat/\b.toNat<=57
instance(b:UInt8):Decidable (oP b):=by unfold oP;infer_instance
theorem Ed {n:Nat}(h:n < 10):(zC (48 + n)).toNat=48 + n:=by
 rw[UInt8.toNat_ofNat'];omega
theorem H2:∀(u:Nat),∀b∈decDigits u,oP b:=by
 intro u;induction u using Nat.strongRecOn with
 |_ u ih=>
  intro b hb;by_cases h:u < 10
  ·rw[H0 h]at hb;simp only[xE]at hb;subst hb;unfold oP;rw[Ed h];omega
  ·rw[H3 h]at hb;rcases List.mem_append.1 hb with hb|hb
   ·exact ih (u / 10) (by omega) b hb
   ·simp only[xE]at hb;subst hb;unfold oP;rw[Ed (Nat.mod_lt _ (by decide))];omega
def val (l:List UInt8):Nat:=l.foldl (λn b=>10 * n + (b.toNat - 48)) 0
theorem M_ (l:List UInt8)(b:UInt8):val (l++[b])=10 * val l + (b.toNat - 48):=by simp[val]
theorem Ut:∀u:Nat,val (decDigits u)=u:=by
 intro u;induction u using Nat.strongRecOn with
 |_ u ih=>
  by_cases h:u < 10
  ·rw[H0 h];show 10 * 0 + ((zC (48 + u)).toNat - 48)=u;rw[Ed h];omega
  ·rw[H3 h,M_,ih (u / 10) (by omega),Ed (Nat.mod_lt _ (by decide))];omega
theorem Rp (u:Nat):decDigits u≠[]:=by
 by_cases h:u < 10
 ·rw[H0 h];simp
 ·rw[H3 h];simp
theorem Pw (n:Int)(h:0<=n):itoa n=decDigits n.toNat:=by unfold itoa;rw[if_neg (by omega)]
theorem aaY (n:Int)(h:n < 0):itoa n=45::decDigits n.natAbs:=by unfold itoa;rw[if_pos h]
theorem aeB (u:Nat):(45:UInt8)∉decDigits u:=λh=>by have:=H2 u 45 h;unfold oP at this;exact absurd this.1 (by decide)
end Go.mD
namespace Go.Lib
theorem aa8 (c:UInt8):∀s:List UInt8,index s [c]=indexByte s c:=by
 intro s;by_cases h:c∈s
 ·obtain⟨p,t,rfl,hp⟩:=Go.mD.H4 s h;rw[Go.mD.Gx hp];rcases Int.lt_or_le (indexByte (p++c::t) c) 0 with hn|hn
  ·have hm:indexByte (p++c::t) c= -1:=by have:=indexByte_ge (p++c::t) c;omega
   exact absurd (by simp) (indexByte_none hm p.length)
  ·obtain⟨o,ho⟩:=agX hn;obtain⟨h1,h2⟩:=indexByte_some ho;rw[ho];rcases Nat.lt_trichotomy o p.length with aU|he|Hh
   ·rw[cZ aU]at h1;exact absurd (fM h1) hp
   ·rw[he]
   ·exact absurd (by simp) (h2 p.length Hh)
 ·rw[Go.mD.aa7 h];rcases Int.lt_or_le (indexByte s c) 0 with hn|hn
  ·have:=indexByte_ge s c;omega
  ·obtain⟨o,ho⟩:=agX hn;exact absurd (fM (indexByte_some ho).1) h
end Go.Lib
namespace Go.Proofs
set_option maxRecDepth 100000
set_option maxHeartbeats 4000000
open Go.Shelf
open Go.RowKit in
def Tryz.Gk:xU:=⟨λ|156=>113|165=>154|166=>48|169=>49|240=>84|241=>218|276=>115|277=>278|n=>n,λ|31=>73|9=>9|3=>3|4=>4|0=>0|20=>20|72=>107|76=>114|70=>104|37=>105|75=>113|127=>164|164=>201|5=>5|80=>116|n=>n,λ|n=>n⟩
theorem Tryz.O9:Go.Proofs.Lays.n156 ae Tryz.Gk:={
 mixed:=by kernel_rfl
 f156:=func113.trans (congrArg some (by kernel_rfl))
 f165:=func154.trans (congrArg some (by kernel_rfl))
 f166:=func48.trans (congrArg some (by kernel_rfl))
 f169:=func49.trans (congrArg some (by kernel_rfl))
 f240:=func84.trans (congrArg some (by kernel_rfl))
 f241:=func218.trans (congrArg some (by kernel_rfl))
 f276:=func115.trans (congrArg some (by kernel_rfl))
 f277:=func278.trans (congrArg some (by kernel_rfl))
 t0:=IG
 a0:=IK
 z0:=IH
 v0:=IF
 t3:=tQ
 a3:=xq
 z3:=xo
 v3:=xl
 t4:=vp
 a4:=xp
 z4:=xn
 v4:=xk
 t9:=xm
 a9:=zF
 z9:=zE
 v9:=zD
 t20:=underlying20
 a20:=isAgg20
 z20:=sizeOf20
 v20:=zeroValue20
 t31:=underlying73
 a31:=isAgg73
 z31:=sizeOf73
 v31:=zeroValue73
 t37:=underlying105
 a37:=isAgg105
 z37:=sizeOf105
 v37:=zeroValue105
 t70:=underlying104
 a70:=isAgg104
 z70:=sizeOf104
 v70:=zeroValue104
 t72:=underlying107
 a72:=isAgg107
 z72:=sizeOf107
 v72:=zeroValue107
 t75:=underlying113
 a75:=isAgg113
 z75:=sizeOf113
 v75:=zeroValue113
 t76:=underlying114
 a76:=isAgg114
 z76:=sizeOf114
 v76:=zeroValue114
 t127:=underlying164
 a127:=isAgg164
 z127:=sizeOf164
 v127:=zeroValue164
 t164:=underlying201
 a164:=isAgg201
 z164:=sizeOf201
 v164:=zeroValue201}
theorem Tryz.Cw:Builder.Extra ae Tryz.Gk:={
 sizeBuilder:=by kernel_rfl
 liesBuilder:=by kernel_rfl
 t5:=Cb
 a5:=Cd
 z5:=Cc
 v5:=Ca
 infoByte:=by kernel_rfl
 cellsByte:=by kernel_rfl
 sizeByte:=by kernel_rfl
 neB5:=by decide}
open Go.RowKit in
theorem Tryz.strings_Join (bk o c:Nat)(xs:List ByteArray)(sep:ByteArray)(w:World)(wP:∀(j:Nat) x,xs[j]? =some x->w.cell? ⟨bk,o + j,none⟩=some (.string x))(r8:bk < w.heap.size)(hN:xs.length<=140737488355328)(fA:xs.length<=c)(hlen:(Lib.join (xs.map (·.data.toList)) sep.data.toList).length<=140737488355328):
  Calls ae 113 #[.slice (some ⟨bk,o,none⟩) xs.length c, .string sep] w λe w'=>e= .returned (.string ⟨(Lib.join (xs.map (·.data.toList)) sep.data.toList).toArray⟩)/\Below w.heap.size w w':=Any.strings_Join Tryz.O9 Tryz.Cw bk o c xs sep w wP r8 hN fA hlen
def Tryz.aab:xU:=⟨λ|125=>172|128=>233|129=>220|n=>n,λ|46=>244|3=>3|51=>287|53=>228|4=>4|5=>5|9=>9|n=>n,λ|n=>n⟩
theorem Tryz.aac:Go.Proofs.Lays.n125 ae Tryz.aab:={
 mixed:=by kernel_rfl
 f125:=func172.trans (congrArg some (by kernel_rfl))
 f128:=func233.trans (congrArg some (by kernel_rfl))
 f129:=func220.trans (congrArg some (by kernel_rfl))
 t3:=tQ
 a3:=xq
 z3:=xo
 v3:=xl
 t4:=vp
 a4:=xp
 z4:=xn
 v4:=xk
 t5:=Cb
 a5:=Cd
 z5:=Cc
 v5:=Ca
 t9:=xm
 a9:=zF
 z9:=zE
 v9:=zD
 t46:=EG
 a46:=EM
 z46:=EI
 v46:=EE
 t51:=EF
 a51:=EL
 z51:=EH
 v51:=ED
 t53:=underlying228
 a53:=isAgg228
 z53:=sizeOf228
 v53:=zeroValue228}
theorem Tryz.bits_Len (x:Int)(w:World)(h0:0<=x)(h1:x<=18446744073709551615):
  Calls ae 172 #[.int .u64 x] w λe w'=>e= .returned (.int .i64 (Lib.bitLen x.toNat))/\w'=w:=Any.bits_Len Tryz.aac x w h0 h1
def Tryz.aad:xU:=⟨λ|122=>173|215=>234|n=>n,λ|3=>3|4=>4|n=>n,λ|n=>n⟩
theorem Tryz.aae:Go.Proofs.Lays.n122 ae Tryz.aad:={
 mixed:=by kernel_rfl
 f122:=func173.trans (congrArg some (by kernel_rfl))
 f215:=func234.trans (congrArg some (by kernel_rfl))
 t3:=tQ
 a3:=xq
 z3:=xo
 v3:=xl
 t4:=vp
 a4:=xp
 z4:=xn
 v4:=xk}
open Go.RowKit in
theorem Tryz.cmp_Compare_int (x y:Int)(w:World):
  Calls ae 173 #[.int .i64 x, .int .i64 y] w λe w'=>e= .returned (.int .i64 (Lib.compareInt x y))/\w'=w:=Any.cmp_Compare_int Tryz.aae x y w
def Tryz.Z5:xU:=⟨λ|171=>47|243=>83|246=>114|283=>155|284=>156|285=>157|286=>158|129=>220|317=>219|318=>221|319=>222|320=>223|337=>279|338=>280|n=>n,λ|3=>3|9=>9|2=>2|4=>4|171=>227|0=>0|53=>228|37=>105|5=>5|173=>231|212=>286|51=>287|20=>20|213=>288|46=>244|232=>373|233=>374|n=>n,λ|17=>1|18=>2|19=>3|n=>n⟩
theorem Tryz.Z6:Go.Proofs.LaysM.n171 ae Tryz.Z5:={
 mixed:=by kernel_rfl
 f129:=func220.trans (congrArg some (by kernel_rfl))
 f171:=func47.trans (congrArg some (by kernel_rfl))
 f243:=func83.trans (congrArg some (by kernel_rfl))
 f246:=func114.trans (congrArg some (by kernel_rfl))
 f283:=func155.trans (congrArg some (by kernel_rfl))
 f284:=func156.trans (congrArg some (by kernel_rfl))
 f285:=func157.trans (congrArg some (by kernel_rfl))
 f286:=func158.trans (congrArg some (by kernel_rfl))
 f317:=func219.trans (congrArg some (by kernel_rfl))
 f318:=func221.trans (congrArg some (by kernel_rfl))
 f319:=func222.trans (congrArg some (by kernel_rfl))
 f320:=func223.trans (congrArg some (by kernel_rfl))
 f337:=func279.trans (congrArg some (by kernel_rfl))
 f338:=func280.trans (congrArg some (by kernel_rfl))
 t0:=IG
 a0:=IK
 z0:=IH
 v0:=IF
 t2:=underlying2
 a2:=isAgg2
 z2:=sizeOf2
 v2:=zeroValue2
 t3:=tQ
 a3:=xq
 z3:=xo
 v3:=xl
 t4:=vp
 a4:=xp
 z4:=xn
 v4:=xk
 t5:=Cb
 a5:=Cd
 z5:=Cc
 v5:=Ca
 t9:=xm
 a9:=zF
 z9:=zE
 v9:=zD
 t20:=underlying20
 a20:=isAgg20
 z20:=sizeOf20
 v20:=zeroValue20
 t37:=underlying105
 a37:=isAgg105
 z37:=sizeOf105
 v37:=zeroValue105
 t46:=EG
 a46:=EM
 z46:=EI
 v46:=EE
 t51:=EF
 a51:=EL
 z51:=EH
 v51:=ED
 t53:=underlying228
 a53:=isAgg228
 z53:=sizeOf228
 v53:=zeroValue228
 t171:=underlying227
 a171:=isAgg227
 z171:=sizeOf227
 v171:=zeroValue227
 t173:=underlying231
 a173:=isAgg231
 z173:=sizeOf231
 v173:=zeroValue231
 t212:=underlying286
 a212:=isAgg286
 z212:=sizeOf286
 v212:=zeroValue286
 t213:=underlying288
 a213:=isAgg288
 z213:=sizeOf288
 t232:=underlying373
 a232:=isAgg373
 z232:=sizeOf373
 v232:=zeroValue373
 t233:=underlying374
 a233:=isAgg374
 z233:=sizeOf374
 v233:=zeroValue374
 g17:=by kernel_rfl
 g18:=by kernel_rfl
 g19:=by kernel_rfl
 i0:=by kernel_rfl
 i2:=by kernel_rfl
 i3:=by kernel_rfl
 i4:=by kernel_rfl
 i5:=by kernel_rfl
 i9:=by kernel_rfl
 i20:=by kernel_rfl
 i37:=by kernel_rfl
 i46:=by kernel_rfl
 i51:=by kernel_rfl
 i53:=by kernel_rfl
 i171:=by kernel_rfl
 i173:=by kernel_rfl
 i212:=by kernel_rfl
 i232:=by kernel_rfl
 i233:=by kernel_rfl
 m17:=by kernel_rfl
 m18:=by kernel_rfl
 m19:=by kernel_rfl}
open Go.RowKit Go.Sort Go.Lib in
theorem Tryz.strconv_Itoa (n:Int)(h0: -9223372036854775808<=n)(h1:n<=9223372036854775807)(w:World)(abp:Lib.TabIs ae w "internal/strconv.uint64pow10" .u64 Lib.pow10Tab):
  Calls ae 47 #[.int .i64 n] w λe w'=>e= .returned (.string ⟨(Lib.itoa n).toArray⟩)/\∃k os,w'=grow (w.drewN k) os:=Any.strconv_Itoa Tryz.Z6 n h0 h1 w abp
def Tryz.Z_:xU:=⟨λ|143=>203|219=>136|217=>197|225=>198|224=>199|267=>200|266=>245|314=>246|n=>n,λ|9=>9|3=>3|4=>4|5=>5|46=>244|146=>304|51=>287|n=>n,λ|1=>0|n=>n⟩
theorem Tryz.O_:Go.Proofs.Lays.n143 ae Tryz.Z_:={
 mixed:=by kernel_rfl
 f143:=SO.trans (congrArg some (by kernel_rfl))
 f217:=SS.trans (congrArg some (by kernel_rfl))
 f219:=SU.trans (congrArg some (by kernel_rfl))
 f224:=SQ.trans (congrArg some (by kernel_rfl))
 f225:=SR.trans (congrArg some (by kernel_rfl))
 f266:=SN.trans (congrArg some (by kernel_rfl))
 f267:=SP.trans (congrArg some (by kernel_rfl))
 f314:=SM.trans (congrArg some (by kernel_rfl))
 t3:=tQ
 a3:=xq
 z3:=xo
 v3:=xl
 t4:=vp
 a4:=xp
 z4:=xn
 v4:=xk
 t5:=Cb
 a5:=Cd
 z5:=Cc
 v5:=Ca
 t9:=xm
 a9:=zF
 z9:=zE
 v9:=zD
 t46:=EG
 a46:=EM
 z46:=EI
 v46:=EE
 t51:=EF
 a51:=EL
 z51:=EH
 v51:=ED
 t146:=SI
 a146:=SL
 z146:=SJ
 v146:=SH
 g1:=by kernel_rfl}
open Go.RowKit Go.Lib in
theorem Tryz.strings_Index_one (s:ByteArray)(c:UInt8)(w:World):
  Calls ae 203 #[.string s, .string ⟨#[c]⟩] w λe w'=>e= .returned (.int .i64 (Lib.indexByte s.data.toList c))/\w'=w:=Any.strings_Index_one Tryz.O_ s c w
def Tryz.Z':xU:=⟨λ|138=>202|195=>247|218=>249|143=>203|219=>136|217=>197|225=>198|224=>199|267=>200|266=>245|314=>246|n=>n,λ|9=>9|3=>3|4=>4|5=>5|0=>0|46=>244|146=>304|51=>287|n=>n,λ|1=>0|n=>n⟩
theorem Tryz.aaa:Go.Proofs.Lays.n138 ae Tryz.Z':={
 mixed:=by kernel_rfl
 f138:=func202.trans (congrArg some (by kernel_rfl))
 f143:=SO.trans (congrArg some (by kernel_rfl))
 f195:=func247.trans (congrArg some (by kernel_rfl))
 f217:=SS.trans (congrArg some (by kernel_rfl))
 f218:=func249.trans (congrArg some (by kernel_rfl))
 f219:=SU.trans (congrArg some (by kernel_rfl))
 f224:=SQ.trans (congrArg some (by kernel_rfl))
 f225:=SR.trans (congrArg some (by kernel_rfl))
 f266:=SN.trans (congrArg some (by kernel_rfl))
 f267:=SP.trans (congrArg some (by kernel_rfl))
 f314:=SM.trans (congrArg some (by kernel_rfl))
 t0:=IG
 a0:=IK
 z0:=IH
 v0:=IF
 t3:=tQ
 a3:=xq
 z3:=xo
 v3:=xl
 t4:=vp
 a4:=xp
 z4:=xn
 v4:=xk
 t5:=Cb
 a5:=Cd
 z5:=Cc
 v5:=Ca
 t9:=xm
 a9:=zF
 z9:=zE
 v9:=zD
 t46:=EG
 a46:=EM
 z46:=EI
 v46:=EE
 t51:=EF
 a51:=EL
 z51:=EH
 v51:=ED
 t146:=SI
 a146:=SL
 z146:=SJ
 v146:=SH
 g1:=by kernel_rfl}
open Go.RowKit Go.Lib in
theorem Tryz.strings_Count_one (s:ByteArray)(c:UInt8)(w:World):
  Calls ae 202 #[.string s, .string ⟨#[c]⟩] w λe w'=>e= .returned (.int .i64 (Lib.countByte s.data.toList c))/\w'=w:=Any.strings_Count_one Tryz.aaa s c w
def Tryz.aaf:xU:=⟨λ|101=>153|208=>217|206=>277|n=>n,λ|9=>9|4=>4|3=>3|n=>n,λ|n=>n⟩
theorem Tryz.aag:Go.Proofs.Lays.n101 ae Tryz.aaf:={
 mixed:=by kernel_rfl
 f101:=func153.trans (congrArg some (by kernel_rfl))
 f206:=func277.trans (congrArg some (by kernel_rfl))
 f208:=func217.trans (congrArg some (by kernel_rfl))
 t3:=tQ
 a3:=xq
 z3:=xo
 v3:=xl
 t4:=vp
 a4:=xp
 z4:=xn
 v4:=xk
 t9:=xm
 a9:=zF
 z9:=zE
 v9:=zD}
open Go.RowKit Go.Lib in
theorem Tryz.strings_TrimPrefix (s p:ByteArray)(w:World):
  Calls ae 153 #[.string s, .string p] w λe w'=>e= .returned (.string ⟨(Lib.trimPrefix s.data.toList p.data.toList).toArray⟩)/\w'=w:=Any.strings_TrimPrefix Tryz.aag s p w
def Tryz.Z8:xU:=⟨λ|146=>110|221=>137|268=>201|138=>202|143=>203|195=>247|197=>248|218=>249|219=>136|260=>286|217=>197|225=>198|224=>199|267=>200|266=>245|314=>246|n=>n,λ|9=>9|31=>73|3=>3|4=>4|0=>0|105=>306|21=>21|5=>5|46=>244|119=>378|139=>381|138=>380|146=>304|51=>287|n=>n,λ|1=>0|3=>4|4=>5|n=>n⟩
theorem Tryz.Z9:Go.Proofs.Lays.n146 ae Tryz.Z8:={
 mixed:=by kernel_rfl
 f138:=func202.trans (congrArg some (by kernel_rfl))
 f143:=SO.trans (congrArg some (by kernel_rfl))
 f146:=func110.trans (congrArg some (by kernel_rfl))
 f195:=func247.trans (congrArg some (by kernel_rfl))
 f197:=func248.trans (congrArg some (by kernel_rfl))
 f217:=SS.trans (congrArg some (by kernel_rfl))
 f218:=func249.trans (congrArg some (by kernel_rfl))
 f219:=SU.trans (congrArg some (by kernel_rfl))
 f221:=func137.trans (congrArg some (by kernel_rfl))
 f224:=SQ.trans (congrArg some (by kernel_rfl))
 f225:=SR.trans (congrArg some (by kernel_rfl))
 f260:=func286.trans (congrArg some (by kernel_rfl))
 f266:=SN.trans (congrArg some (by kernel_rfl))
 f267:=SP.trans (congrArg some (by kernel_rfl))
 f268:=func201.trans (congrArg some (by kernel_rfl))
 f314:=SM.trans (congrArg some (by kernel_rfl))
 t0:=IG
 a0:=IK
 z0:=IH
 v0:=IF
 t3:=tQ
 a3:=xq
 z3:=xo
 v3:=xl
 t4:=vp
 a4:=xp
 z4:=xn
 v4:=xk
 t5:=Cb
 a5:=Cd
 z5:=Cc
 v5:=Ca
 t9:=xm
 a9:=zF
 z9:=zE
 v9:=zD
 t21:=underlying21
 a21:=isAgg21
 z21:=sizeOf21
 v21:=zeroValue21
 t31:=underlying73
 a31:=isAgg73
 z31:=sizeOf73
 v31:=zeroValue73
 t46:=EG
 a46:=EM
 z46:=EI
 v46:=EE
 t51:=EF
 a51:=EL
 z51:=EH
 v51:=ED
 t105:=underlying306
 a105:=isAgg306
 z105:=sizeOf306
 v105:=zeroValue306
 t119:=underlying378
 a119:=isAgg378
 z119:=sizeOf378
 t138:=underlying380
 a138:=isAgg380
 z138:=sizeOf380
 v138:=zeroValue380
 t139:=underlying381
 a139:=isAgg381
 z139:=sizeOf381
 v139:=zeroValue381
 t146:=SI
 a146:=SL
 z146:=SJ
 v146:=SH
 g1:=by kernel_rfl
 g3:=by kernel_rfl
 g4:=by kernel_rfl}
end Go.Proofs
namespace Go.Proofs
set_option maxRecDepth 100000
set_option maxHeartbeats 4000000
open Go.Shelf Go.RowKit Go.Lib
theorem WT {P:Program}{ρ:Ren}(L:Lays.n146 P ρ)(hi9:(P.info? (ρ.t 9)).map (λi=>(i.zero,i.size,i.bytes))=some (some (.string ByteArray.empty),1,16))(s:ByteArray)(ch:UInt8)(w:World)
  (hs:s.size < 4294967281):
  Calls P (ρ.f 146) #[.string s, .string ⟨#[ch]⟩] w λe w'=>
   e= .returned (.slice (some ⟨w.heap.size,0,none⟩) (xM s ⟨#[ch]⟩ + 1) (xM s ⟨#[ch]⟩ + 1))/\w'=w.alloc (.cells ((Lib.splitB ⟨#[ch]⟩ 0 (xM s ⟨#[ch]⟩) s).map EB).toArray (ρ.t 9)):=by
 have h1:1<=(ByteArray.mk #[ch]).size:=cx _;have hle:=Lib.countB_le ⟨#[ch]⟩ h1 s.size s (cx _);have hlen:=Lib.splitB_all ⟨#[ch]⟩ h1 0 _ s rfl;have c:=Any.strings_genSplit_core {L with} hi9 s ⟨#[ch]⟩ 0 (-1) (xM s ⟨#[ch]⟩ + 1) w hs h1 (cv _)
  (λx cc hx=>(Any.strings_Index_one {L with} x ch _).mono λe w' ⟨he,hw⟩=>⟨by
   rw[he];show E6 (gX .i64 _)=E6 (gX .i64 (Lib.index x.data.toList [ch]));rw[aa8],hw⟩)
  ((Any.strings_Count_one {L with} s ch w).mono λe w' ⟨he,hw⟩=>⟨by
   rw[he];show _=E6 (gX .i64 ((Lib.count s.data.toList [ch]:Nat):Int));rw[Lib.count_one];rfl,hw⟩) (by decide) (by decide) (by rw[if_pos (by decide)];omega)
 rw[Nat.add_sub_cancel,hlen]at c;have e2:Lib.cellsOf (Lib.splitB ⟨#[ch]⟩ 0 (xM s ⟨#[ch]⟩) s) (xM s ⟨#[ch]⟩ + 1)=((Lib.splitB ⟨#[ch]⟩ 0 (xM s ⟨#[ch]⟩) s).map EB).toArray:=by rw[<-hlen];exact Lib.cellsOf_full _
 rw[e2]at c;have t3:=L.t3;have t9:=L.t9;have t31:=L.t31
 have a3:=L.a3;have a9:=L.a9;have a31:=L.a31
 have z3:=L.z3;have v3:=L.v3;have z9:=L.z9;have v9:=L.v9;have z31:=L.z31;have v31:=L.v31
 have aom:∀args w,(callFunc (ρ.f 221) args).run P w= .ok (.enter (ρ.f 221) args) w:=enters_of L.f221 (by kernel_rfl) rfl
 go_enter L.f146,Body.n146_ntmps ρ
 go_wp2_with (go_at_fn (ρ.f 221);refine c.mono ?_;rintro e w' ⟨rfl,hw⟩;rw[hw])
 go_ret
 exact⟨rfl,rfl⟩
end Go.Proofs
