import Derived.Test.YtafmfhkplgapjaaGreatDoorZ08
set_option linter.unusedVariables false
set_option linter.unusedSimpArgs false
open And renaming intro->af
open Bool renaming false_eq_true->bK
open Int renaming add_mul_ediv_right->alP,cast_ofNat_Int->sA,ediv_eq_zero_of_lt->alO,mul_comm->OQ,mul_tdiv_add_tmod->alM,natCast_one->fe,natCast_zero->fb,tdiv->Cq,tdiv_eq_ediv_of_nonneg->z_,tmod->yc
open List renaming all_eq_true->iD,getD_eq_getElem?_getD->ic,length_cons->lV,length_map->iB,mem_map->eJ,mem_range->oR,range->ct
open Nat renaming le_of_lt_succ->Fu,lt_or_eq_of_le->Jt,lt_or_ge->ft,mul_one->Ch,not_lt_zero->dF,zero_add->fK,zero_le->bD
open Go.Proofs.Tryz renaming call114->OD,func114->OA,ntmps114->Ow,prog->aa,results114->Ou
open Go.Value renaming map->I8,slice->uG
open Go.Proofs.Tryz
namespace Go.Proofs.YtafmfhkplgapjaaGreatDoor.Sc
set_option maxRecDepth 100000
set_option maxHeartbeats 4000000
open Go.Ab
attribute[local irreducible] av dL dY ak
theorem yG (n lo hi:Int):ak aa 108 [i64 n,i64 lo,i64 hi] (.bool (decide (lo<=n/\n<=hi))):=by
 refine cT func108 ntmps108 results108 call108 λw0 S0 M0=> ?_;repeat'(first|refine aq ?_|refine au λK hK=> ?_|(intro hg;try exact ai)|exact fin|apply af)
 all_goals(refine gi ?_;simp only[decide_eq_true_eq,bK,false_iff,iff_false,true_iff,iff_true];omega)
theorem amG (l:List Int)(h:Small l):ak aa 329 [ints l] (i64 (tM (nth l) l.length)):=by
 refine cT func329 ntmps329 results329 call329 λw0 S0 M0=> ?_;repeat'(first|refine aq ?_|refine au λK hK=> ?_|(intro hg;try exact ai)|exact fin|apply af)
 refine dn (ι:=Nat) (λj=>[(0,ints l),(3,i64 (tM (nth l) j)),(6,ints l),(7,i64 l.length),(8,i64 j)]) (λ_=>[]) (λ_=>[])
  (λj=>j<=l.length) (λj=>l.length - j) (λ_ _=>⟨rfl,rfl⟩) 0 (bD _) (br rfl (by try(refine nG ?_;try exact trivial);try simp[tM]) ⟨_,rfl⟩ ⟨_,rfl⟩) (λj hj=> ?_)
 have h1:=PS (f:=nth l) (lo:=0) (hi:=100) j (λi _=>h.2 i);have h2:=h.2 j;have h4:=h.1
 (refine nG ?_;try exact trivial)
 repeat'(first|refine aq ?_|refine au λK hK=> ?_|(intro hg;try exact ai)|exact fin|apply af)
 ·exact⟨j + 1,ae,ae,br rfl (by try(refine nG ?_;try exact trivial);try simp[tM]) ⟨_,rfl⟩ ⟨_,rfl⟩⟩
 ·obtain rfl:j=l.length:=ae;rfl
theorem afz (l:List Int)(gf:FuncId)(cs:List D)(aw:Cl cs)(p:Int->Bool)(hl:l.length<=9223372036854775807)(hp:∀i,i < l.length->ak aa gf (i64 (nth l i)::cs) (.bool (p (nth l i)))):ak aa 215 [ints l, .ag gf cs] (i64 (rf p l)):=by
 refine cT func215 ntmps215 results215 call215 λw0 S0 M0=> ?_;repeat'(first|refine bh ?_|((first|refine bj λK hK=> ?_|refine bg ?_);(refine kh (af @aw.1 (@aw.2)) ?_))|(show bb _ _ _ _ _;(refine kh (af @aw.1 (@aw.2)) ?_))|(intro hg;try exact ai)|exact fin|apply af)
 refine dn (ι:=Nat) (λj=>[(0,ints l),(1, .ag gf cs),(6,ints l),(7,i64 l.length),(8,i64 j)]) (λ_=>[]) (λ_=>[])
  (λj=>j<=l.length/\∀i,i < j->p (nth l i)=false) (λj=>l.length - j) (λ_ _=>⟨by simp[cq,bN,aw.names],rfl⟩) 0 ⟨bD _,λi h=>absurd h (dF i)⟩ (br rfl (by try(refine kh (af @aw.1 (@aw.2)) ?_;try exact trivial);try simp) ⟨_,rfl⟩ ⟨_,rfl⟩) (λj ⟨hj,hi⟩=> ?_)
 (refine kh (af @aw.1 (@aw.2)) ?_;try exact trivial)
 repeat'(first|refine bh ?_|((first|refine bj λK hK=> ?_|refine bg ?_);(refine kh (af @aw.1 (@aw.2)) ?_))|(refine bo (hp j ae) ?_;try(refine kh (af @aw.1 (@aw.2)) ?_))|(show bb _ _ _ _ _;(refine kh (af @aw.1 (@aw.2)) ?_))|(intro hg;try exact ai)|exact fin|apply af)
 ·congr 1;exact(zu ae hi hg).symm
 ·refine⟨j + 1,⟨ae,λi h=> ?_⟩,ae,br rfl (by try(refine kh (af @aw.1 (@aw.2)) ?_;try exact trivial);try simp) ⟨_,rfl⟩ ⟨_,rfl⟩⟩;by_cases h9:i=j
  ·rw[h9];exact hg
  ·exact hi i ae
 ·congr 1;exact(zw λi h=>hi i ae).symm
theorem NL (l:List Int)(gf:FuncId)(cs:List D)(aw:Cl cs)(p:Int->Bool)(hl:l.length<=9223372036854775807)(hp:∀i,i < l.length->ak aa gf (i64 (nth l i)::cs) (.bool (p (nth l i)))):ak aa 146 [ints l, .ag gf cs] (.bool (l.any p)):=by
 refine cT func146 ntmps146 results146 call146 λw0 S0 M0=> ?_;repeat'(first|refine bh ?_|((first|refine bj λK hK=> ?_|refine bg ?_);(refine kh (af @aw.1 (@aw.2)) ?_))|(refine bo (afz l gf cs aw p hl hp) ?_;try(refine kh (af @aw.1 (@aw.2)) ?_))|(show bb _ _ _ _ _;(refine kh (af @aw.1 (@aw.2)) ?_))|(intro hg;try exact ai)|exact fin|apply af)
 ·rw[zx]
theorem aj9:Cl []:=⟨λ_ _=>rfl,λ_ _=>rfl⟩
theorem Q8 (a b c:Int):ak aa 107 [.agg [i64 a,i64 b,i64 c]] (.bool (decide (ss a b c))):=by
 refine cT func107 ntmps107 results107 call107 λw0 S0 M0=> ?_;repeat'(first|refine aq ?_|refine au λK hK=> ?_|(refine bo (yG _ _ _) ?_;try refine nG ?_)|(intro hg;try exact ai)|exact fin|apply af)
 all_goals(refine gi ?_;simp only[decide_eq_true_eq,bK,false_iff,iff_false,true_iff,iff_true];try simp only[ss];omega)
theorem ZV (m:Int)(h1: -200000000000<=m)(h2:m<=200000000000):(m.tmod 10000 < 0->m / 10000=m.tdiv 10000 - 1)/\(¬m.tmod 10000 < 0->m / 10000=m.tdiv 10000)/\ -20000000<=m.tdiv 10000/\m.tdiv 10000<=20000000:=by
 have e2:m.tmod 10000=m - 10000 * m.tdiv 10000:=by have:=alM m 10000;omega
 rcases Int.lt_or_le m 0 with h|h
 ·have e3:m.tdiv 10000= - (- m / 10000):=by
   rw[<-Int.neg_neg m,Int.neg_tdiv,z_ ae];simp
  generalize m.tmod 10000=x at *;generalize m.tdiv 10000=y at *;omega
 ·have e3:m.tdiv 10000=m / 10000:=z_ h;generalize m.tmod 10000=x at *;generalize m.tdiv 10000=y at *;omega
theorem adm (a b c n:Int)(hp:ss a b c)(h1: -200000000<=n)(h2:n<=200000000):ak aa 109 [.agg [i64 a,i64 b,i64 c],i64 n] (i64 (KT a b c n)):=by
 obtain⟨⟨a1,a2⟩,⟨c1,c2⟩,b1,b2⟩:=hp;have h3:=G8 (a:=b) (b:=n) (A:=1000) (B:=200000000) b1 b2 h1 h2;obtain⟨q1,q2,q3,q4⟩:=ZV (b * n) ae ae;have h4: -200000000000<=b * n:=ae;have h5:b * n<=200000000000:=ae;clear h3;have DY:KT a b c n=max c (a + b * n / 10000):=rfl;rw[DY];generalize b * n / 10000=z at *;refine cT func109 ntmps109 results109 call109 λw0 S0 M0=> ?_;repeat'(first|refine aq ?_|refine au λK hK=> ?_|(intro hg;try exact ai)|exact fin|apply af)
 ·rw[q1 hg]
 ·rw[q2 hg]
theorem adq (a b c n:Int):ak aa 75 [.agg [i64 a,i64 b,i64 c],i64 n] (.aF (if ss a b c/\ -100000000<=n/\n<=100000000 then[i64 (KT a b c n),i64 0]else[i64 0,i64 2])):=by
 refine cT func75 ntmps75 results75 call75 λw0 S0 M0=> ?_;by_cases hp:ss a b c
 ·skip
  repeat'(first|refine aq ?_|refine au λK hK=> ?_|((first|refine bo (Q8 _ _ _) ?_|refine bo (yG _ _ _) ?_|refine bo (adm a b c n hp ae ae) ?_);try refine nG ?_)|(intro hg;try exact ai)|exact fin|apply af)
  ·rw[if_neg (λh=>hg h.2)]
  ·rw[if_pos ⟨hp,ae⟩]
 ·skip
  repeat'(first|refine aq ?_|refine au λK hK=> ?_|((first|refine bo (Q8 _ _ _) ?_|refine bo (yG _ _ _) ?_);try refine nG ?_)|(intro hg;try exact ai)|exact fin|apply af)
  rw[if_neg (λh=>hp h.1)]
theorem afy (l:List (List Int))(gf:FuncId)(cs:List D)(aw:Cl cs)(p:List Int->Bool)(hl:l.length<=9223372036854775807)(hp:∀i,i < l.length->ak aa gf (ints (nth l i)::cs) (.bool (p (nth l i)))):ak aa 220 [(.list (l.map ints)), .ag gf cs] (i64 (rf p l)):=by
 refine cT func220 ntmps220 results220 call220 λw0 S0 M0=> ?_;repeat'(first|refine bh ?_|((first|refine bj λK hK=> ?_|refine bg ?_);(refine kh (af @aw.1 (@aw.2)) ?_))|(show bb _ _ _ _ _;(refine kh (af @aw.1 (@aw.2)) ?_))|(intro hg;try exact ai)|exact fin|apply af)
 refine dn (ι:=Nat) (λj=>[(0,(.list (l.map ints))),(1, .ag gf cs),(6,(.list (l.map ints))),(7,i64 l.length),(8,i64 j)]) (λ_=>[]) (λ_=>[])
  (λj=>j<=l.length/\∀i,i < j->p (nth l i)=false) (λj=>l.length - j) (λ_ _=>⟨by simp[cq,bN,aw.names],rfl⟩) 0 ⟨bD _,λi h=>absurd h (dF i)⟩ (br rfl (by try(refine kh (af @aw.1 (@aw.2)) ?_;try exact trivial);try simp) ⟨_,rfl⟩ ⟨_,rfl⟩) (λj ⟨hj,hi⟩=> ?_)
 (refine kh (af @aw.1 (@aw.2)) ?_;try exact trivial)
 repeat'(first|refine bh ?_|((first|refine bj λK hK=> ?_|refine bg ?_);(refine kh (af @aw.1 (@aw.2)) ?_))|(refine bo (hp j ae) ?_;try(refine kh (af @aw.1 (@aw.2)) ?_))|(show bb _ _ _ _ _;(refine kh (af @aw.1 (@aw.2)) ?_))|(intro hg;try exact ai)|exact fin|apply af)
 ·congr 1;exact(zu ae hi hg).symm
 ·refine⟨j + 1,⟨ae,λi h=> ?_⟩,ae,br rfl (by try(refine kh (af @aw.1 (@aw.2)) ?_;try exact trivial);try simp) ⟨_,rfl⟩ ⟨_,rfl⟩⟩;by_cases h9:i=j
  ·rw[h9];exact hg
  ·exact hi i ae
 ·congr 1;exact(zw λi h=>hi i ae).symm
theorem ajU (l:List (List Int))(gf:FuncId)(cs:List D)(aw:Cl cs)(p:List Int->Bool)(hl:l.length<=9223372036854775807)(hp:∀i,i < l.length->ak aa gf (ints (nth l i)::cs) (.bool (p (nth l i)))):ak aa 161 [(.list (l.map ints)), .ag gf cs] (.bool (l.any p)):=by
 refine cT func161 ntmps161 results161 call161 λw0 S0 M0=> ?_;repeat'(first|refine bh ?_|((first|refine bj λK hK=> ?_|refine bg ?_);(refine kh (af @aw.1 (@aw.2)) ?_))|(refine bo (afy l gf cs aw p hl hp) ?_;try(refine kh (af @aw.1 (@aw.2)) ?_))|(show bb _ _ _ _ _;(refine kh (af @aw.1 (@aw.2)) ?_))|(intro hg;try exact ai)|exact fin|apply af)
 ·rw[zx]
def so (c:Int)(W:List Int)(S:List (List Int)):Prop:=(2<=c/\c<=3)/\(1<=W.length/\W.length<=3)/\S.length<=6/\(∀i,i < W.length->0<=nth W i/\nth W i<=100)/\
 ∀i,i < S.length->(nth S i).length=W.length/\∀k,k < (nth S i).length->1<=nth (nth S i) k/\nth (nth S i) k<=2 ^ c.toNat - 1
instance(c:Int) (W:List Int) (S:List (List Int)):Decidable (so c W S):=by unfold so;infer_instance
def XL (c:Int)(W:List Int)(S:List (List Int))(f:List (List (List Int))):Prop:=f.length=S.length/\
 ∀i,i < f.length->(nth f i).length=W.length/\∀k,k < (nth f i).length->((nth (nth f i) k).length:Int)=c/\OG (nth (nth f i) k)
instance(c:Int) (W:List Int) (S:List (List Int)) (f:List (List (List Int))):Decidable (XL c W S f):=by unfold XL;infer_instance
theorem any_false {α:Type}[Inhabited α]{p:α->Bool}{l:List α}:l.any p=false↔∀i,i < l.length->p (nth l i)=false:=by
 rw[<-Bool.not_eq_true,WJ];constructor
 ·intro h i hi;cases hp:p (nth l i)
  ·rfl
  ·exact absurd ⟨i,hi,hp⟩ h
 ·rintro h ⟨i,hi,hp⟩;rw[h i hi]at hp;cases hp
theorem ac6 (n:Int):ak aa 160 [i64 n] (.bool (!decide (0<=n/\n<=100))):=by
 refine cT func160 ntmps160 results160 call160 λw0 S0 M0=> ?_;repeat'(first|refine aq ?_|refine au λK hK=> ?_|(refine bo (yG _ _ _) ?_;try refine nG ?_)|(intro hg;try exact ai)|exact fin|apply af)
theorem ac5 (n c:Int)(W:List Int)(S:List (List Int))(hc:2<=c/\c<=3):ak aa 163 [i64 n, .ro [i64 c,ints W,ug S]] (.bool (!decide (1<=n/\n<=2 ^ c.toNat - 1))):=by
 obtain rfl|rfl:c=2\/c=3:=ae
 ·refine cT func163 ntmps163 results163 call163 λw0 S0 M0=> ?_;repeat'(first|refine aq ?_|refine au λK hK=> ?_|(refine bo (yG _ _ _) ?_;try refine nG ?_)|(intro hg;try exact ai)|exact fin|apply af)
  simp
 ·refine cT func163 ntmps163 results163 call163 λw0 S0 M0=> ?_;repeat'(first|refine aq ?_|refine au λK hK=> ?_|(refine bo (yG _ _ _) ?_;try refine nG ?_)|(intro hg;try exact ai)|exact fin|apply af)
  simp
def BW (c:Int)(W:List Int)(r:List Int):Bool:=decide (r.length≠W.length)||r.any (λn=> !decide (1<=n/\n<=2 ^ c.toNat - 1))
theorem ac4 (r:List Int)(c:Int)(W:List Int)(S:List (List Int))(hc:2<=c/\c<=3)(hW:W.length<=3):ak aa 162 [ints r, .ro [i64 c,ints W,ug S]] (.bool (BW c W r)):=by
 refine cT func162 ntmps162 results162 call162 λw0 S0 M0=> ?_;repeat'(first|refine aq ?_|refine au λK hK=> ?_|(refine bo (NL r 163 [.ro [i64 c,ints W,ug S]] ⟨λ_ _=>rfl,λ_ _=>rfl⟩ (λn=> !decide (1<=n/\n<=2 ^ c.toNat - 1)) ae (λi _=>ac5 _ c W S hc)) ?_;try refine nG ?_)|(intro hg;try exact ai)|exact fin|apply af)
 ·have h9:r.length=W.length:=ae;simp[BW,h9]
 ·have h9:r.length≠W.length:=ae;simp[BW,h9]
theorem Z' (c:Int)(W:List Int)(S:List (List Int)):so c W S↔(2<=c/\c<=3)/\(1<=W.length/\W.length<=3)/\S.length<=6/\W.any (λn=> !decide (0<=n/\n<=100))=false/\S.any (BW c W)=false:=by
 rw[any_false,any_false];unfold so BW;simp only[Bool.or_eq_false_iff,decide_eq_false_iff_not,any_false,Bool.not_eq_false',decide_eq_true_eq,ne_eq,Decidable.not_not]
theorem ac3 (c:Int)(W:List Int)(S:List (List Int)):ak aa 113 [.agg [i64 c,ints W,ug S]] (.bool (decide (so c W S))):=by
 refine cT func113 ntmps113 results113 call113 λw0 S0 M0=> ?_;repeat'(first|(refine j6 0 _ _ rfl rfl ?_;simp only[aU,Nat.reduceAdd])|refine aq ?_|refine au λK hK=> ?_|((first|refine bo (yG _ _ _) ?_|refine bo (NL W 160 [] aj9 (λn=> !decide (0<=n/\n<=100)) ae (λi _=>ac6 _)) ?_|refine bo (ajU S 162 [.ro [i64 c,ints W,ug S]] ⟨λ_ _=>rfl,λ_ _=>rfl⟩ (BW c W) ae (λi _=>ac4 _ c W S ae ae)) ?_);try refine nG ?_)|(intro hg;try exact ai)|exact fin|apply af)
 all_goals
  refine gi ?_;simp only[decide_eq_true_eq,bK,Bool.not_eq_true'];rw[Z'];constructor
  ·intro h;first
   |exact h.elim
   |exact⟨ae,ae,ae,by assumption,h⟩
  ·rintro⟨h1,h2,h3,h4,h5⟩;first
   |exact h5
   |(exfalso;omega)
   |(rw[hg]at h4;cases h4)
theorem adp (c:Int)(W:List Int)(S:List (List Int)):ak aa 79 [.agg [i64 c,ints W,ug S]] (i64 (if so c W S then 0 else 2)):=by
 refine cT func79 ntmps79 results79 call79 λw0 S0 M0=> ?_;repeat'(first|refine aq ?_|refine au λK hK=> ?_|(refine bo (ac3 c W S) ?_;try refine nG ?_)|(intro hg;try exact ai)|exact fin|apply af)
 ·rw[if_neg hg]
 ·rw[if_pos hg]
end Go.Proofs.YtafmfhkplgapjaaGreatDoor.Sc
namespace Go.Proofs.YtafmfhkplgapjaaGreatDoor
open Go.Ab
structure qC where
 st:Int
 tk:Int
 pr:Int
 dl:Int
 dh:Int
 ur:Int
 co:Int
 deriving Inhabited,DecidableEq
structure qE where
 a:Int
 b:Int
 d:Int
 deriving Inhabited,DecidableEq
structure qD where
 ol:Int
 oh:Int
 dy:Int
 ni:Int
 deriving Inhabited,DecidableEq
structure oM where
 st:Int
 rp:List qC
 lk:List qE
 pt:List qD
 fa:Int
 wi:Int
 ho:Int
 da:Int
 du:Int
 deriving Inhabited
structure aJ where
 aL:List (b9×Int)
 fl:List (Int×Int)
 tu:List Int
 mo:Int
 to:Int
 tf:Int
 tm:Int
 wd:Int
 rw:Int
 sl:Int
 w:oM
 cl:Int
 wt:List Int
 pb:Int
 pr:Int
 pl:Int
 dy:Int
 deriving Inhabited
abbrev mP (r:qC):D:= .agg [i64 r.st,i64 r.tk,i64 r.pr,i64 r.dl,i64 r.dh,i64 r.ur,i64 r.co]
abbrev mU (l:qE):D:= .agg [i64 l.a,i64 l.b,i64 l.d]
abbrev mS (p:qD):D:= .agg [i64 p.ol,i64 p.oh,i64 p.dy,i64 p.ni]
abbrev kd (p:Int×Int):D:= .agg [i64 p.1,i64 p.2]
abbrev mF (x:b9×Int):D:= .agg [i64 x.1.hl,i64 x.1.hh,i64 x.1.gl,i64 x.1.gh,i64 x.1.dr,i64 x.1.rd,i64 x.1.ea,i64 x.1.sl, .list (x.1.ck.map mE),i64 x.2]
abbrev kM (w:oM):List D:=[i64 w.st, .list (w.rp.map mP), .list (w.lk.map mU), .list (w.pt.map mS),i64 w.fa,i64 w.wi,i64 w.ho,i64 w.da,i64 w.du]
abbrev BM (fl:List (Int×Int))(tu:List Int)(mo:Int):List D:=[.list (fl.map kd),ints tu,i64 mo]
abbrev eb (s:aJ):List D:=[.list (s.aL.map mF), .list (s.fl.map kd),ints s.tu,i64 s.mo,i64 s.to,i64 s.tf,i64 s.tm,i64 s.wd,i64 s.rw,i64 s.sl,i64 s.w.st, .list (s.w.rp.map mP), .list (s.w.lk.map mU), .list (s.w.pt.map mS),i64 s.w.fa,i64 s.w.wi,i64 s.w.ho,i64 s.w.da,i64 s.w.du,i64 s.cl,ints s.wt,i64 s.pb,i64 s.pr,i64 s.pl,i64 s.dy]
abbrev ji (s:aJ):D:= .agg (eb s)
abbrev Hd (s:aJ):List D:=[i64 s.wd,i64 s.rw,i64 s.sl, .list []]
def yd (p:Int×Int):Prop:=0<=p.1/\p.1<=p.2/\p.2<=99999
instance(p:Int×Int):Decidable (yd p):=by unfold yd;infer_instance
def xQ (n:Int):Prop:=0<=n/\n<=1023
instance(n:Int):Decidable (xQ n):=by unfold xQ;infer_instance
def k8 (fl:List (Int×Int))(tu:List Int)(mo:Int):Prop:=(∀i,i < fl.length->yd (nth fl i))/\(∀i,i < tu.length->xQ (nth tu i))/\(1<=fl.length/\fl.length<=3)/\tu.length=10/\0<=mo/\mo<=2
instance(fl:List (Int×Int)) (tu:List Int) (mo:Int):Decidable (k8 fl tu mo):=by unfold k8;infer_instance
def vR (a b c:Int):Prop:=(0<=a/\a<=10000)/\(0<=c/\c<=10000)/\0<=b/\b<=100
instance(a b c:Int):Decidable (vR a b c):=by unfold vR;infer_instance
def vW (n:Int)(r:qC):Prop:=(0<=r.st/\r.st<=n - 1)/\(0<=r.tk/\r.tk<=10080)/\(0<=r.pr/\r.pr<=99999)/\(0<=r.dl/\r.dl<=r.dh/\r.dh<=2880)/\(0<=r.ur/\r.ur<=2880)/\0<=r.co/\r.co<=10000
instance(n:Int) (r:qC):Decidable (vW n r):=by unfold vW;infer_instance
def vY (n:Int)(l:qE):Prop:=(0<=l.a/\l.a<=n - 1)/\(0<=l.b/\l.b<=n - 1)/\l.a≠l.b/\1<=l.d/\l.d<=99999
instance(n:Int) (l:qE):Decidable (vY n l):=by unfold vY;infer_instance
def vX (p:qD):Prop:=(0<=p.ol/\p.ol<=p.oh/\p.oh<=2880)/\p.oh - p.ol<=300/\(0<=p.dy/\p.dy<=50000)/\0<=p.ni/\p.ni<=50000
instance(p:qD):Decidable (vX p):=by unfold vX;infer_instance
def vQ (w:oM):Prop:=(∀i,i < w.rp.length->vW w.st (nth w.rp i))/\(∀i,i < w.lk.length->vY w.st (nth w.lk i))/\(∀i,i < w.pt.length->vX (nth w.pt i))/\
 (1<=w.st/\w.st<=6)/\w.rp.length<=9/\w.lk.length<=8/\w.pt.length<=4/\(1<=w.fa/\w.fa<=99999)/\(1<=w.wi/\w.wi<=2880)/\(1<=w.ho/\w.ho<=2880)/\0<=w.da/\w.da<=w.du/\w.du<=1440
instance(w:oM):Decidable (vQ w):=by unfold vQ;infer_instance
def oN (s:aJ):Prop:=(1<=s.wd/\s.wd<=6)/\(1<=s.rw/\s.rw<=5)/\0<=s.sl/\s.sl<=5000
instance(s:aJ):Decidable (oN s):=by unfold oN;infer_instance
def kJ (s:aJ):Prop:=(1<=s.aL.length/\s.aL.length<=3)/\(1<=s.dy/\s.dy<=4)/\oN s/\(∀i,i < s.aL.length->(0<=(nth s.aL i).2/\(nth s.aL i).2<=s.wd * s.rw - 1)/\fY (nth s.aL i).1/\lI (nth s.aL i).1)/\
 k8 s.fl s.tu s.mo/\vR s.to s.tf s.tm/\vQ s.w/\Sc.so s.cl s.wt []/\Sc.ss s.pb s.pr s.pl
def qB (s:aJ):Prop:=(∀i,i < s.aL.length->i < 6->(nth s.aL i).1.ck.length<=15)/\s.aL.length<=5/\s.fl.length<=5/\s.tu.length<=14/\s.w.rp.length<=12/\s.w.lk.length<=12/\s.w.pt.length<=6/\s.wt.length<=5
def Fm (s:aJ):Prop:=s.aL.length<=9223372036854775807/\s.fl.length<=9223372036854775807/\s.tu.length<=9223372036854775807/\s.w.rp.length<=9223372036854775807/\s.w.lk.length<=9223372036854775807/\s.w.pt.length<=9223372036854775807/\s.wt.length<=9223372036854775807/\
 ∀i,i < s.aL.length->(nth s.aL i).1.ck.length<=9223372036854775807
end Go.Proofs.YtafmfhkplgapjaaGreatDoor
namespace Go.Proofs.YtafmfhkplgapjaaGreatDoor
set_option maxRecDepth 100000
set_option maxHeartbeats 4000000
open Go.Ab
attribute[local irreducible] av dL dY ak aH cY IA ez aP fM
theorem ahE (a b:Int)(h1:0<=a/\a<=400)(h2:0<=b/\b<=400):ak aa 125 [i64 a,i64 b] (i64 (max (a - b) (b - a))):=by
 refine cT func125 ntmps125 results125 call125 λw0 S0 M0=> ?_;repeat'(first|refine aq ?_|refine au λK hK=> ?_|(intro hg;try exact ai)|exact fin|apply af)
theorem aan (s:b9)(hl:s.ck.length<=9223372036854775807):ak aa 18 [jO s] (.bool (decide (fY s))):=by
 refine cT func18 ntmps18 results18 call18 λw0 S0 M0=> ?_;repeat'(first|refine aq ?_|refine au λK hK=> ?_|(intro hg;try exact ai)|exact fin|apply af)
 refine dn (ι:=Nat) (λj=>[(1, .box 0 0),(3,i64 j)]) (λ_=>[.mu (CM s)]) (λ_=>[])
  (λj=>j<=s.ck.length/\∀i,i < j->tC (nth s.ck i)) (λj=>s.ck.length - j) (λ_ _=>⟨rfl,rfl⟩) 0 ⟨bD _,λi h=>absurd h (dF i)⟩ bY (λj ⟨hj,hi⟩=> ?_)
 refine aj ?_;repeat'(first|refine aq ?_|refine au λK hK=> ?_|refine cA (ajb _) ?_|refine cA (AT _ _ _) ?_|refine cA (aaX _ _ _ _) ?_|(intro hg;try exact ai)|exact fin|apply af)
 ·rw[decide_eq_false (J_ (j:=j) ae λh=>hg h.2)]
 ·refine⟨j + 1,⟨ae,λi h=> ?_⟩,ae,bY⟩;by_cases h9:i=j
  ·rw[h9];exact⟨by assumption,hg⟩
  ·exact hi i ae
 ·rw[decide_eq_false (J_ (j:=j) ae λh=>hg h.1)]
 all_goals(
  have h9:(∀i,i < s.ck.length->tC (nth s.ck i))=True:=eq_true λi h=>hi i ae;refine gi ?_;simp only[decide_eq_true_eq,bK,false_iff,iff_false,true_iff,iff_true,J',h9,and_true];simp only[iL]at *;omega)
theorem ab9 (a b:Int)(h1:0<=a/\a<=400)(h2:0<=b/\b<=400):ak aa 125 [i64 a,i64 b] (i64 (fR a b)):=ahE a b h1 h2
theorem ajT (s:b9)(hs:fY s)(i k:Nat)(hi:i < s.ck.length)(hk:k < s.ck.length):ak aa 98 [jO s,i64 i,i64 k] (.bool (decide (mJ s i k))):=by
 have hl:=hs.n;have pA:=hs.d;have c1:=hs.c i hi;have c2:=hs.c k hk;have b1:=rM pA.1 pA.2 (BC c1.1 c2.1).1 (BC c1.1 c2.1).2;have b5: -2000<=(nth s.ck i).lo/\(nth s.ck i).lo<=(nth s.ck i).hi/\(nth s.ck i).hi<=2000:=c1.2;have b6: -2000<=(nth s.ck k).lo/\(nth s.ck k).lo<=(nth s.ck k).hi/\(nth s.ck k).hi<=2000:=c2.2;refine cT func98 ntmps98 results98 call98 λw0 S0 M0=> ?_;repeat'(first|refine aq ?_|((first|(show av _ (.region 1 _ true) _ _;refine Fa [(9,7),(9,8),(12,7),(12,8),(14,7),(14,8),(17,7),(17,8),(8,7),(7,8)] [0,1,2,3,4,5,6,7,8,9] 10 11 [12,13] Tryz.ty.mixed ax λK hK=> ?_)|show Sep _ _);refine aj ?_)|refine au λK hK=> ?_|refine cA (ab9 _ _ c1.1 c2.1) ?_|(show tw _ _;refine Kl rfl ?_ ?_ rfl)|(show vV _ _;first|refine Kj|refine Ki ?_ ?_)|(show @Eq D _ _;exact aj trivial)|(show @Eq (List Bx) _ _;exact aj trivial)|(intro hg;try exact ai)|exact fin|apply af)
 ·exact gi (decide_eq_true_iff.trans (decide_eq_true_iff (p:=mJ s i k)).symm)
theorem QN (s:b9)(hs:fY s):ak aa 59 [jO s] (BP s):=by
 have hl:=hs.n;refine cT func59 ntmps59 results59 call59 λw0 S0 M0=> ?_;repeat'(first|refine aq ?_|refine au λK hK=> ?_|(intro hg;try exact ai)|exact fin|apply af)
 refine dn (ι:=Nat) (λj=>[(1, .box 0 0),(5,i64 j)]) (λ_=>[.mu (CM s)]) (λ_=>[])
  (λj=>j<=s.ck.length/\∀a b,a < b->b < s.ck.length->a < j->¬mJ s a b) (λj=>s.ck.length - j) (λ_ _=>⟨rfl,rfl⟩) 0 ⟨bD _,λa b _ _ h=>absurd h (dF a)⟩ bY (λj ⟨hj,hi⟩=> ?_)
 refine aj ?_;repeat'(first|refine aq ?_|refine au λK hK=> ?_|(intro hg;try exact ai)|exact fin|apply af)
 ·refine dn (ι:=Nat) (λk=>[(1, .box 0 0),(5,i64 j),(6,i64 k)]) (λ_=>[.mu (CM s)]) (λ_=>[])
   (λk=>j < k/\k<=s.ck.length/\∀b,j < b->b < k->¬mJ s j b) (λk=>s.ck.length - k) (λ_ _=>⟨rfl,rfl⟩) (j + 1) ⟨ae,ae,λb h1 h2=>by omega⟩ bY (λk ⟨vr,hk,hb⟩=> ?_)
  refine aj ?_;repeat'(first|refine aq ?_|refine au λK hK=> ?_|refine cA (ajT s hs j k ae ae) ?_|(intro hg;try exact ai)|exact fin|apply af)
  ·refine(IH ⟨vr,ae,hg,λa b h1 h2 h3=> ?_⟩).symm;rcases h3 with h3|⟨rfl,h3⟩
   ·exact hi a b h1 h2 h3
   ·exact hb b h1 h3
  ·refine⟨k + 1,⟨ae,ae,λb h1 h2=> ?_⟩,ae,bY⟩;by_cases h9:b=k
   ·rw[h9];exact hg
   ·exact hb b h1 ae
  all_goals try refine⟨j + 1,⟨ae,λa b h1 h2 h3=> ?_⟩,ae,bY⟩
  rcases Jt (Fu h3)with h4|h4
  ·exact hi a b h1 h2 h4
  ·subst h4;exact hb b h1 ae
 ·refine(II λa b h1 h2=>hi a b h1 h2 ae).symm
theorem ac2 (s:b9)(hs:fY s):ak aa 19 [jO s] (.bool (decide (lI s))):=by
 rcases Wh s with h|⟨i,k,h⟩
 ·rw[decide_eq_true h];have hc:ak aa 59 [jO s] (.aF [i64 0,i64 0, .bool false]):=II h▸QN s hs;refine cT func19 ntmps19 results19 call19 λw0 S0 M0=> ?_;repeat'(first|refine aq ?_|refine au λK hK=> ?_|refine cA (hc) ?_|(intro hg;try exact ai)|exact fin|apply af)
 ·rw[decide_eq_false h.no];have hc:ak aa 59 [jO s] (.aF [i64 i,i64 k, .bool true]):=IH h▸QN s hs;refine cT func19 ntmps19 results19 call19 λw0 S0 M0=> ?_;repeat'(first|refine aq ?_|refine au λK hK=> ?_|refine cA (hc) ?_|(intro hg;try exact ai)|exact fin|apply af)
end Go.Proofs.YtafmfhkplgapjaaGreatDoor
namespace Go.Ab
open Go.RowKit Go
def N3 (c:Ctx)(x y:Operand)(dst:Option Tmp)(N:St->Prop)(s1:St):Prop:=
 bd s1 dst/\jh (s1.ev x) (s1.ev y) λa n m=>N (s1.put dst (.int a (a.wrap (n - m))))
theorem aP.sub {c:Ctx}{s:St}{K:St->Prop}{t t' ty:TypeId}{x y:Operand}{dst:Option Tmp}{pos:String}{aft:Array Edge}(h:N3 c x y dst K s):
  aP c ⟨dst, .binOp .sub t x y t',ty,pos,aft,none⟩ s K:=by
 obtain⟨hd,h⟩:=h;rintro a w N' Q' ⟨g,hg⟩ hN;obtain⟨q,n,m,h1,h2,hk⟩:=pQ (hg.ev x) (hg.ev y) h;refine gK (by intro cl h;cases h) ?_;unfold Oper.wp;have aV:(execOp a.eval ⟨dst, .binOp .sub t x y t',ty,pos,aft,none⟩).run c.P w= .ok (.value (.int q (q.wrap (n - m)))) w:=by
  simp[execOp,h1,h2,eqGuard,binOp,Op.intArith]
 rw[aV];exact hN _ _ _ ⟨g,hg.put hd (.int _ _ _)⟩ hk
theorem akS {c:Ctx}{x y:Operand}{dst:Option Tmp}{N:St->Prop}{s1:St}(a:IntKind)(n m:Int)(h1:s1.ev x= .int a n)(h2:s1.ev y= .int a m)(hd:bd s1 dst)(h:N (s1.put dst (.int a (a.wrap (n - m))))):N3 c x y dst N s1:=⟨hd,by rw[h1,h2];exact⟨rfl,h⟩⟩
end Go.Ab
namespace Go.Proofs.YtafmfhkplgapjaaGreatDoor
set_option maxRecDepth 100000
set_option maxHeartbeats 4000000
open Go.Ab
attribute[local irreducible] av dL dY ak aH IA
theorem Pk (n lo hi:Int):ak aa 60 [i64 n,i64 lo,i64 hi] (.bool (decide (lo<=n/\n<=hi))):=by
 refine cT func60 ntmps60 results60 call60 λw0 S0 M0=> ?_;repeat'(first|refine aq ?_|refine au λK hK=> ?_|(intro hg;try exact ai)|exact fin|apply af)
 all_goals(refine gi ?_;simp only[decide_eq_true_eq,bK,false_iff,iff_false,true_iff,iff_true];omega)
theorem JW (n lo hi:Int):ak aa 54 [i64 n,i64 lo,i64 hi] (.bool (decide (lo<=n/\n<=hi))):=by
 refine cT func54 ntmps54 results54 call54 λw0 S0 M0=> ?_;repeat'(first|refine aq ?_|refine au λK hK=> ?_|(intro hg;try exact ai)|exact fin|apply af)
 all_goals(refine gi ?_;simp only[decide_eq_true_eq,bK,false_iff,iff_false,true_iff,iff_true];omega)
theorem uP (n lo hi:Int):ak aa 62 [i64 n,i64 lo,i64 hi] (.bool (decide (lo<=n/\n<=hi))):=by
 refine cT func62 ntmps62 results62 call62 λw0 S0 M0=> ?_;repeat'(first|refine aq ?_|refine au λK hK=> ?_|(intro hg;try exact ai)|exact fin|apply af)
 all_goals(refine gi ?_;simp only[decide_eq_true_eq,bK,false_iff,iff_false,true_iff,iff_true];omega)
theorem YC (n lo hi:Int):ak aa 14 [i64 n,i64 lo,i64 hi] (.bool (decide (lo<=n/\n<=hi))):=by
 refine cT func14 ntmps14 results14 call14 λw0 S0 M0=> ?_;repeat'(first|refine aq ?_|refine au λK hK=> ?_|(intro hg;try exact ai)|exact fin|apply af)
 all_goals(refine gi ?_;simp only[decide_eq_true_eq,bK,false_iff,iff_false,true_iff,iff_true];omega)
theorem abV (a b d:Int):ak aa 21 [.agg [i64 a,i64 b,i64 d]] (.bool (decide (vR a b d))):=by
 refine cT func21 ntmps21 results21 call21 λw0 S0 M0=> ?_;repeat'(first|refine aq ?_|refine au λK hK=> ?_|refine cA (Pk _ _ _) ?_|(intro hg;try exact ai)|exact fin|apply af)
 all_goals(refine gi ?_;simp only[decide_eq_true_eq,bK,false_iff,iff_false,true_iff,iff_true];try simp only[vR];omega)
theorem abX (a b:Int):ak aa 53 [i64 a,i64 b] (.bool (decide ((1<=a/\a<=6)/\1<=b/\b<=5))):=by
 refine cT func53 ntmps53 results53 call53 λw0 S0 M0=> ?_;repeat'(first|refine aq ?_|refine au λK hK=> ?_|refine cA (JW _ _ _) ?_|(intro hg;try exact ai)|exact fin|apply af)
 all_goals(refine gi ?_;simp only[decide_eq_true_eq,bK,false_iff,iff_false,true_iff,iff_true];omega)
theorem ab7 (s:aJ):ak aa 16 [ji s, .list []] (.agg (Hd s)):=by
 refine cT func16 ntmps16 results16 call16 λw0 S0 M0=> ?_;repeat'(first|refine aq ?_|refine au λK hK=> ?_|(intro hg;try exact ai)|exact fin|apply af)
theorem ab8 (s:aJ):ak aa 15 [.agg (Hd s)] (.bool (decide (oN s))):=by
 refine cT func15 ntmps15 results15 call15 λw0 S0 M0=> ?_;repeat'(first|refine aq ?_|refine au λK hK=> ?_|refine cA (abX _ _) ?_|refine cA (JW _ _ _) ?_|(intro hg;try exact ai)|exact fin|apply af)
 all_goals first
  |(refine dn (ι:=Nat) (λj=>[(1, .box 0 0),(3,i64 0)]) (λ_=>[.mu (Hd s)]) (λ_=>[]) (λ_=>True) (λj=>0) (λ_ _=>⟨rfl,rfl⟩) 0 trivial bY (λj _=> ?_)
    refine aj ?_;repeat'(first|refine aq ?_|refine au λK hK=> ?_|(intro hg;try exact ai)|exact fin|apply af)
    all_goals(refine gi ?_;simp only[decide_eq_true_eq,bK,false_iff,iff_false,true_iff,iff_true];try simp only[oN];omega))
  |(refine gi ?_;simp only[decide_eq_true_eq,bK,false_iff,iff_false,true_iff,iff_true];try simp only[oN];omega)
theorem abZ (s:aJ)(h:oN s)(p:Int):ak aa 17 [.agg (Hd s),i64 p] (.bool (decide (0<=p/\p<=s.wd * s.rw - 1))):=by
 have h1:0<=s.wd * s.rw/\s.wd * s.rw<=6 * 5:=rM (by have:=h.1;omega) h.1.2 (by have:=h.2.1;omega) h.2.1.2;refine cT func17 ntmps17 results17 call17 λw0 S0 M0=> ?_;repeat'(first|refine aq ?_|refine au λK hK=> ?_|refine cA (JW _ _ _) ?_|(intro hg;try exact ai)|exact fin|apply af)
end Go.Proofs.YtafmfhkplgapjaaGreatDoor
namespace Go.Proofs.YtafmfhkplgapjaaGreatDoor
set_option maxRecDepth 100000
set_option maxHeartbeats 4000000
open Go.Ab
attribute[local irreducible] av dL dY ak aH cY IA ez aP fM
theorem all_succ {α:Type}[Inhabited α]{p:α->Prop}{l:List α}{j:Nat}(hi:∀i,i < j->p (nth l i))(h:p (nth l j)):∀i,i < j + 1->p (nth l i):=λi hj=>by
 rcases ft i j with h1|h1
 ·exact hi i h1
 ·obtain rfl:i=j:=ae;exact h
theorem acY (fl:List (Int×Int))(tu:List Int)(mo:Int)(hf:fl.length<=9223372036854775807)(ht:tu.length<=9223372036854775807):ak aa 20 [.agg (BM fl tu mo)] (.bool (decide (k8 fl tu mo))):=by
 refine cT func20 ntmps20 results20 call20 λw0 S0 M0=> ?_;repeat'(first|refine aq ?_|refine au λK hK=> ?_|(intro hg;try exact ai)|exact fin|apply af)
 refine dn (ι:=Nat) (λj=>[(1, .box 0 0),(3,i64 j)]) (λ_=>[.mu (BM fl tu mo)]) (λ_=>[])
  (λj=>j<=fl.length/\∀i,i < j->yd (nth fl i)) (λj=>fl.length - j) (λ_ _=>⟨rfl,rfl⟩) 0 ⟨bD _,λi h=>absurd h (dF i)⟩ bY (λj ⟨hj,hi⟩=> ?_)
 refine aj ?_;repeat'(first|refine aq ?_|refine au λK hK=> ?_|(intro hg;try exact ai)|exact fin|apply af)
 all_goals first
  |(exact⟨j + 1,⟨ae,all_succ hi (by unfold yd;omega)⟩,ae,bY⟩)
  |(rw[decide_eq_false];intro h;have:=h.1 j ae;unfold yd at this;omega)
  |skip
 refine dn (ι:=Nat) (λk=>[(1, .box 0 0),(5,i64 k)]) (λ_=>[.mu (BM fl tu mo)]) (λ_=>[])
  (λk=>k<=tu.length/\∀i,i < k->xQ (nth tu i)) (λk=>tu.length - k) (λ_ _=>⟨rfl,rfl⟩) 0 ⟨bD _,λi h=>absurd h (dF i)⟩ bY (λk ⟨hk,vu⟩=> ?_)
 have hA:(∀i,i < fl.length->yd (nth fl i))=True:=eq_true λi h=>hi i ae;refine aj ?_;repeat'(first|refine aq ?_|refine au λK hK=> ?_|refine cA (Pk _ _ _) ?_|(intro hg;try exact ai)|exact fin|apply af)
 all_goals first
  |(exact⟨k + 1,⟨ae,all_succ vu (by unfold xQ;omega)⟩,ae,bY⟩)
  |(rw[decide_eq_false];intro h;have:=h.2.1 k ae;unfold xQ at this;omega)
  |(have hB:(∀i,i < tu.length->xQ (nth tu i))=True:=eq_true λi h=>vu i ae
    refine gi ?_;simp only[k8,hA,hB,decide_eq_true_eq,bK,false_iff,iff_false,true_iff,iff_true,true_and];omega)
  |skip
theorem abW (w:oM)(h: -1000000000<=w.st/\w.st<=1000000000)(x:Int):ak aa 61 [.agg (kM w),i64 x] (.bool (decide (0<=x/\x<=w.st - 1))):=by
 refine cT func61 ntmps61 results61 call61 λw0 S0 M0=> ?_;repeat'(first|refine aq ?_|refine au λK hK=> ?_|refine cA (uP _ _ _) ?_|(intro hg;try exact ai)|exact fin|apply af)
theorem Qu (w:oM)(x:Int):∃b,ak aa 61 [.agg (kM w),i64 x] (.bool b):=by
 refine⟨decide (0<=x/\x<=IntKind.i64.wrap (w.st - 1)), ?_⟩;refine cT func61 ntmps61 results61 call61 λw0 S0 M0=> ?_;repeat'(first|(show av _ (.region 1 _ _) _ _;refine oK 3 (N3 _ (.tmp 7) (.const (.int .i64 1)) (some 8)) (λ_ _ h=>aP.sub h) rfl rfl (λK1 aA=> ?_);refine aj ?_)|(refine aA _ (akS .i64 w.st 1 rfl rfl (bC rfl) ?_);clear aA K1;simp only[aU,Nat.reduceAdd];refine aj ?_)|refine aq ?_|refine au λK hK=> ?_|refine cA (uP _ _ _) ?_|(intro hg;try exact ai)|exact fin|apply af)
theorem Ay (a b m:Int):ak aa 63 [.agg [i64 a,i64 b],i64 m] (.bool (decide (0<=a/\a<=b/\b<=m))):=by
 refine cT func63 ntmps63 results63 call63 λw0 S0 M0=> ?_;repeat'(first|refine aq ?_|refine au λK hK=> ?_|(intro hg;try exact ai)|exact fin|apply af)
 all_goals(refine gi ?_;simp only[decide_eq_true_eq,bK,false_iff,iff_false,true_iff,iff_true];omega)
theorem abO (w:oM)(hs:1<=w.st/\w.st<=6)(h1:w.rp.length<=9223372036854775807)(h2:w.lk.length<=9223372036854775807)(h3:w.pt.length<=9223372036854775807):ak aa 22 [.agg (kM w)] (.bool (decide (vQ w))):=by
 have aM:=abW w ae;refine cT func22 ntmps22 results22 call22 λw0 S0 M0=> ?_;repeat'(first|refine aq ?_|refine au λK hK=> ?_|(intro hg;try exact ai)|exact fin|apply af)
 refine dn (ι:=Nat) (λj=>[(1, .box 0 0),(3,i64 j)]) (λ_=>[.mu (kM w)]) (λ_=>[])
  (λj=>j<=w.rp.length/\∀i,i < j->vW w.st (nth w.rp i)) (λj=>w.rp.length - j) (λ_ _=>⟨rfl,rfl⟩) 0 ⟨bD _,λi h=>absurd h (dF i)⟩ bY (λj ⟨hj,hi⟩=> ?_)
 refine aj ?_;repeat'(first|refine aq ?_|refine au λK hK=> ?_|refine cA (aM _) ?_|refine cA (uP _ _ _) ?_|refine cA (Ay _ _ _) ?_|(intro hg;try exact ai)|exact fin|apply af)
 all_goals first
  |(exact⟨j + 1,⟨ae,all_succ hi (by unfold vW;omega)⟩,ae,bY⟩)
  |(rw[decide_eq_false];intro h;have:=h.1 j ae;unfold vW at this;omega)
  |skip
 refine dn (ι:=Nat) (λk=>[(1, .box 0 0),(5,i64 k)]) (λ_=>[.mu (kM w)]) (λ_=>[])
  (λk=>k<=w.lk.length/\∀i,i < k->vY w.st (nth w.lk i)) (λk=>w.lk.length - k) (λ_ _=>⟨rfl,rfl⟩) 0 ⟨bD _,λi h=>absurd h (dF i)⟩ bY (λk ⟨hk,vu⟩=> ?_)
 refine aj ?_;repeat'(first|refine aq ?_|refine au λK hK=> ?_|refine cA (aM _) ?_|refine cA (uP _ _ _) ?_|refine cA (Ay _ _ _) ?_|(intro hg;try exact ai)|exact fin|apply af)
 all_goals first
  |(exact⟨k + 1,⟨ae,all_succ vu (by unfold vY;omega)⟩,ae,bY⟩)
  |(rw[decide_eq_false];intro h;have:=h.2.1 k ae;unfold vY at this;omega)
  |skip
 refine dn (ι:=Nat) (λm=>[(1, .box 0 0),(7,i64 m)]) (λ_=>[.mu (kM w)]) (λ_=>[])
  (λm=>m<=w.pt.length/\∀i,i < m->vX (nth w.pt i)) (λm=>w.pt.length - m) (λ_ _=>⟨rfl,rfl⟩) 0 ⟨bD _,λi h=>absurd h (dF i)⟩ bY (λm ⟨hm,xl⟩=> ?_)
 have hA:(∀i,i < w.rp.length->vW w.st (nth w.rp i))=True:=eq_true λi h=>hi i ae;have hB:(∀i,i < w.lk.length->vY w.st (nth w.lk i))=True:=eq_true λi h=>vu i ae;refine aj ?_;repeat'(first|refine aq ?_|refine au λK hK=> ?_|refine cA (uP _ _ _) ?_|refine cA (Ay _ _ _) ?_|(intro hg;try exact ai)|exact fin|apply af)
 all_goals first
  |(exact⟨m + 1,⟨ae,all_succ xl (by unfold vX;omega)⟩,ae,bY⟩)
  |(rw[decide_eq_false];intro h;have:=h.2.2.1 m ae;unfold vX at this;omega)
  |(have hC:(∀i,i < w.pt.length->vX (nth w.pt i))=True:=eq_true λi h=>xl i ae
    refine gi ?_;simp only[vQ,hA,hB,hC,decide_eq_true_eq,bK,false_iff,iff_false,true_iff,iff_true,true_and];omega)
  |skip
theorem abM (w:oM)(hs:¬(1<=w.st/\w.st<=6))(h1:w.rp.length<=9223372036854775807)(h2:w.lk.length<=9223372036854775807)(h3:w.pt.length<=9223372036854775807):ak aa 22 [.agg (kM w)] (.bool false):=by
 obtain⟨F,aM⟩:∃F:Int->Bool,∀x,ak aa 61 [.agg (kM w),i64 x] (.bool (F x)):=⟨λx=>(Qu w x).choose,λx=>(Qu w x).choose_spec⟩;have hd:decide (1<=w.st/\w.st<=6)=false:=decide_eq_false hs;have Ee:ak aa 62 [i64 w.st,i64 1,i64 6] (.bool false):=hd▸uP w.st 1 6;refine cT func22 ntmps22 results22 call22 λw0 S0 M0=> ?_;repeat'(first|refine aq ?_|refine au λK hK=> ?_|(intro hg;try exact ai)|exact fin|apply af)
 refine dn (ι:=Nat) (λj=>[(1, .box 0 0),(3,i64 j)]) (λ_=>[.mu (kM w)]) (λ_=>[])
  (λj=>j<=w.rp.length) (λj=>w.rp.length - j) (λ_ _=>⟨rfl,rfl⟩) 0 (bD _) bY (λj hj=> ?_)
 generalize hb:F (nth w.rp j).st=b;have Tt:=aM (nth w.rp j).st;rw[hb]at Tt;refine aj ?_;repeat'(first|refine aq ?_|refine au λK hK=> ?_|refine cA (Tt) ?_|refine cA (uP _ _ _) ?_|refine cA (Ay _ _ _) ?_|(intro hg;try exact ai)|exact fin|apply af)
 all_goals first
  |(exact⟨j + 1,ae,ae,bY⟩)
  |skip
 refine dn (ι:=Nat) (λk=>[(1, .box 0 0),(5,i64 k)]) (λ_=>[.mu (kM w)]) (λ_=>[])
  (λk=>k<=w.lk.length) (λk=>w.lk.length - k) (λ_ _=>⟨rfl,rfl⟩) 0 (bD _) bY (λk hk=> ?_)
 have DR:=aM (nth w.lk k).a;have Ts:=aM (nth w.lk k).b;generalize F (nth w.lk k).a=b2 at DR;generalize F (nth w.lk k).b=b3 at Ts;refine aj ?_;repeat'(first|refine aq ?_|refine au λK hK=> ?_|refine cA (DR) ?_|refine cA (Ts) ?_|refine cA (uP _ _ _) ?_|refine cA (Ay _ _ _) ?_|(intro hg;try exact ai)|exact fin|apply af)
 all_goals first
  |(exact⟨k + 1,ae,ae,bY⟩)
  |skip
 refine dn (ι:=Nat) (λm=>[(1, .box 0 0),(7,i64 m)]) (λ_=>[.mu (kM w)]) (λ_=>[])
  (λm=>m<=w.pt.length) (λm=>w.pt.length - m) (λ_ _=>⟨rfl,rfl⟩) 0 (bD _) bY (λm hm=> ?_)
 refine aj ?_;repeat'(first|refine aq ?_|refine au λK hK=> ?_|refine cA (Ee) ?_|refine cA (uP _ _ _) ?_|refine cA (Ay _ _ _) ?_|(intro hg;try exact ai)|exact fin|apply af)
 all_goals first
  |(exact⟨m + 1,ae,ae,bY⟩)
  |skip
theorem abN (w:oM)(h1:w.rp.length<=9223372036854775807)(h2:w.lk.length<=9223372036854775807)(h3:w.pt.length<=9223372036854775807):ak aa 22 [.agg (kM w)] (.bool (decide (vQ w))):=by
 by_cases hs:1<=w.st/\w.st<=6
 ·exact abO w hs h1 h2 h3
 ·rw[decide_eq_false (λh=>hs h.2.2.2.1)];exact abM w hs h1 h2 h3
end Go.Proofs.YtafmfhkplgapjaaGreatDoor
namespace Go.Proofs.YtafmfhkplgapjaaGreatDoor.Sc
set_option maxRecDepth 100000
set_option maxHeartbeats 4000000
open Go.Ab
attribute[local irreducible] av dL dY ak
theorem AT (n lo hi:Int):ak aa 64 [i64 n,i64 lo,i64 hi] (.bool (decide (lo<=n/\n<=hi))):=by
 refine cT func64 ntmps64 results64 call64 λw0 S0 M0=> ?_;repeat'(first|refine aq ?_|refine au λK hK=> ?_|(intro hg;try exact ai)|exact fin|apply af)
 ·simp[hg]
 ·simp[hg]
theorem ady (a b c:Int):ak aa 24 [.agg [i64 a,i64 b,i64 c]] (.bool (decide (ss a b c))):=by
 refine cT func24 ntmps24 results24 call24 λw0 S0 M0=> ?_;repeat'(first|refine aq ?_|refine au λK hK=> ?_|(refine bo (AT _ _ _) ?_;try refine nG ?_)|(intro hg;try exact ai)|exact fin|apply af)
 all_goals(refine gi ?_;simp only[decide_eq_true_eq,bK,false_iff,iff_false,true_iff,iff_true];try simp only[ss];omega)
theorem abl (k:Int)(h0:0<=k)(hk:k<=20):ak aa 65 [i64 k] (i64 (2 ^ k.toNat)):=by
 refine cT func65 ntmps65 results65 call65 λw0 S0 M0=> ?_;repeat'(first|refine aq ?_|refine au λK hK=> ?_|(intro hg;try exact ai)|exact fin|apply af)
 refine dn (ι:=Nat) (λj=>[(0,i64 k),(3,i64 (2 ^ j)),(4,i64 j)]) (λ_=>[]) (λ_=>[])
  (λj=>(j:Int)<=k) (λj=>k.toNat - j) (λ_ _=>⟨rfl,rfl⟩) 0 h0 (br rfl ?_ ⟨_,rfl⟩ ⟨_,rfl⟩) (λj hj=> ?_)
 ·try(refine nG ?_;try exact trivial)
  simp
 have hb:(0:Int)<=2 ^ j/\(2:Int) ^ j<=1048576:=⟨Int.pow_nonneg aE,by
  have:(2:Nat) ^ j<=2 ^ 20:=Nat.pow_le_pow_right aE ae;have e:((2 ^ j:Nat):Int)=2 ^ j:=by simp
  omega⟩
 (refine nG ?_;try exact trivial)
 repeat'(first|refine aq ?_|refine au λK hK=> ?_|(intro hg;try exact ai)|exact fin|apply af)
 ·refine⟨j + 1,ae,ae,br rfl ?_ ⟨_,rfl⟩ ⟨_,rfl⟩⟩;try(refine nG ?_;try exact trivial)
  simp[Int.pow_succ,OQ]
 ·obtain rfl:j=k.toNat:=ae;rfl
end Go.Proofs.YtafmfhkplgapjaaGreatDoor.Sc
namespace Go.Proofs.YtafmfhkplgapjaaGreatDoor.Sc
open Go.Ab
attribute[local irreducible] av dL dY ak
end Go.Proofs.YtafmfhkplgapjaaGreatDoor.Sc
namespace Go.Proofs.YtafmfhkplgapjaaGreatDoor.Sc
set_option maxRecDepth 100000
set_option maxHeartbeats 4000000
open Go.Ab
attribute[local irreducible] av dL dY ak
theorem adn {c:Int}(hc:2<=c/\c<=3):∃m:Int,(2:Int) ^ c.toNat=m/\4<=m/\m<=8:=by
 obtain rfl|rfl:c=2\/c=3:=ae
 ·exact⟨4,aE,aE,aE⟩
 ·exact⟨8,aE,aE,aE⟩
theorem Z_ (c:Int)(W:List Int)(S:List (List Int))(hW:W.length<=1000000)(hS:S.length<=1000000):ak aa 23 [.agg [i64 c,ints W,ug S]] (.bool (decide (so c W S))):=by
 have q0:(2<=c/\c<=3)->∃m:Int,ak aa 65 [i64 c] (i64 m)/\(4<=m/\m<=8)/\(2:Int) ^ c.toNat=m:=λhc=>by
  obtain⟨m,h1,h2⟩:=adn hc;have:=abl c ae ae;rw[h1]at this;exact⟨m,this,h2,h1⟩
 refine cT func23 ntmps23 results23 call23 λw0 S0 M0=> ?_;repeat'(first|refine aq ?_|refine au λK hK=> ?_|(intro hg;try exact ai)|exact fin|apply af)
 refine dn (ι:=Nat) (λi=>[(1, .box 0 0),(3,i64 i)]) (λ_=>[.mu [i64 c,ints W,ug S]]) (λ_=>[])
  (λi=>i<=W.length/\∀a,a < i->0<=nth W a/\nth W a<=100) (λi=>W.length - i) (λ_ _=>⟨rfl,rfl⟩) 0 ⟨bD _,λi h=>absurd h (dF i)⟩ bY (λi ⟨hi,hb⟩=> ?_)
 refine aj ?_;repeat'(first|refine aq ?_|refine au λK hK=> ?_|refine cA (AT _ _ _) ?_|(intro hg;try exact ai)|exact fin|apply af)
 ·rw[decide_eq_false (λh=>hg (h.2.2.2.1 i ae))]
 ·refine⟨i + 1,⟨ae,λa h=> ?_⟩,ae,bY⟩;by_cases h9:a=i
  ·rw[h9];omega
  ·exact hb a ae
 ·rw[decide_eq_false (λh=>by have:=h.1;have:=h.2.1;have:=h.2.2.1;omega)]
 ·obtain⟨m,q1,hm,he⟩:=q0 ae;refine dn (ι:=Nat) (λk=>[(1, .box 0 0),(4,i64 k)]) (λ_=>[.mu [i64 c,ints W,ug S]]) (λ_=>[])
   (λk=>k<=S.length/\∀a,a < k->(nth S a).length=W.length/\∀b,b < (nth S a).length->1<=nth (nth S a) b/\nth (nth S a) b<=2 ^ c.toNat - 1) (λk=>S.length - k) (λ_ _=>⟨rfl,rfl⟩) 0 ⟨bD _,λi h=>absurd h (dF i)⟩ bY (λk ⟨hk,hd⟩=> ?_)
  refine aj ?_;repeat'(first|refine aq ?_|refine au λK hK=> ?_|(intro hg;try exact ai)|exact fin|apply af)
  ·rw[decide_eq_false (λh=>by have:=(h.2.2.2.2 k ae).1;omega)]
  ·refine dn (ι:=Nat) (λj=>[(1, .box 0 0),(4,i64 k),(5,i64 j)]) (λ_=>[.mu [i64 c,ints W,ug S]]) (λ_=>[])
    (λj=>j<=(nth S k).length/\∀b,b < j->1<=nth (nth S k) b/\nth (nth S k) b<=2 ^ c.toNat - 1) (λj=>(nth S k).length - j) (λ_ _=>⟨rfl,rfl⟩) 0 ⟨bD _,λi h=>absurd h (dF i)⟩ bY (λj ⟨hj,hf⟩=> ?_)
   refine aj ?_;repeat'(first|refine aq ?_|refine au λK hK=> ?_|refine cA (q1) ?_|refine cA (AT _ _ _) ?_|(intro hg;try exact ai)|exact fin|apply af)
   ·rw[decide_eq_false (λh=>by have:=(h.2.2.2.2 k ae).2 j ae;omega)]
   ·refine⟨j + 1,⟨ae,λa h=> ?_⟩,ae,bY⟩;by_cases h9:a=j
    ·rw[h9];omega
    ·exact hf a ae
   ·refine⟨k + 1,⟨ae,λa h=> ?_⟩,ae,bY⟩;by_cases h9:a=k
    ·rw[h9];exact⟨ae,λb hb=>hf b ae⟩
    ·exact hd a ae
  ·rw[decide_eq_true (show so c W S from⟨ae,ae,ae,λa ha=>hb a ae,λa ha=>hd a ae⟩)]
 ·rw[decide_eq_false (λh=>by have:=h.1;have:=h.2.1;have:=h.2.2.1;omega)]
 ·rw[decide_eq_false (λh=>by have:=h.1;have:=h.2.1;have:=h.2.2.1;omega)]
end Go.Proofs.YtafmfhkplgapjaaGreatDoor.Sc
namespace Go.Ab
open Go.RowKit Go
def j9 (d d':D):Prop:=∀(w:World) (g:Gh) (v:Value),Rel w g v d->Rel w g v d'
theorem j9.refl (d:D):j9 d d:=λ_ _ _ h=>h
theorem j9.nil:j9 (.val (.slice none 0 0)) (.list []):=λw g v h=>by
 cases h;exact .list g none 0 0 [] 0 (λ_=>Go.undef) rfl (λx hx=>by cases hx) (Nat.le_refl _) (λq hq=>by simp[flat]at hq) (λq d hd=>by simp[flat]at hd)
theorem j9.agg {cs cm:List D}(hl:cs.length=cm.length)(h:∀(q:Nat) (d':D),cm[q]? =some d'->∃d,cs[q]? =some d/\j9 d d'):j9 (.agg cs) (.agg cm):=λw g v hv=>by
 cases hv with
 |agg _ vs _ h1 h2 h3=>
  refine .agg _ vs _ (by rw[h1,hl]) (λq hq=>h2 q ae) (λq d' hd=> ?_);obtain⟨d,ng,dQ⟩:=h q d' hd;exact dQ _ _ _ (h3 q d ng)
theorem ak.le {P:Program}{f:FuncId}{ds bR:List D}{d:D}(h:ak P f bR d)(hl:ds.length=bR.length)(hr:∀(q:Nat) (x':D),bR[q]? =some x'->∃x,ds[q]? =some x/\j9 x x'):ak P f ds d:=
 ⟨h.1,λS M w args ht hg hM hn bw=>h.2 S M w args ht hg hM ae (λq x' hx=>by
  obtain⟨x,h1,h2⟩:=hr q x' hx;exact h2 _ _ _ (bw q x h1))⟩
end Go.Ab
namespace Go.Proofs.YtafmfhkplgapjaaGreatDoor
set_option maxRecDepth 100000
set_option maxHeartbeats 4000000
open Go.Ab
attribute[local irreducible] av dL dY ak aH IA
instance(s:aJ):Decidable (qB s):=by unfold qB;infer_instance
noncomputable instance(s:aJ):Decidable (kJ s):=Classical.propDecidable _
theorem abY (c:Int)(W:List Int)(hW:W.length<=1000000):ak aa 23 [.agg [i64 c,ints W, .val (.slice none 0 0)]] (.bool (decide (Sc.so c W []))):=
 (Sc.Z_ c W [] hW aO).le rfl (λq x' hx=>by
  match q,hx with
  |0,hx=>
   cases hx;refine⟨_,rfl,j9.agg rfl (λq d' hd=> ?_)⟩
   match q,hd with
   |0,hd=>cases hd;exact⟨_,rfl,j9.refl _⟩
   |1,hd=>cases hd;exact⟨_,rfl,j9.refl _⟩
   |2,hd=>cases hd;exact⟨_,rfl,j9.nil⟩)
theorem aa4 (s:aJ)(h:Fm s):ak aa 4 [ji s] (.bool (decide (qB s))):=by
 obtain⟨l1,l2,l3,l4,l5,l6,l7,l8⟩:=h;refine cT func4 ntmps4 results4 call4 λw0 S0 M0=> ?_;repeat'(first|refine aq ?_|refine au λK hK=> ?_|(intro hg;try exact ai)|exact fin|apply af)
 refine dn (ι:=Nat) (λj=>[(1, .box 0 0),(3,i64 j)]) (λ_=>[.mu (eb s)]) (λ_=>[])
  (λj=>j<=s.aL.length/\j<=6/\∀i,i < j->(nth s.aL i).1.ck.length<=15) (λj=>s.aL.length - j) (λ_ _=>⟨rfl,rfl⟩) 0 ⟨bD _,ae,λi h=>absurd h (dF i)⟩ bY (λj ⟨hj,hj6,hi⟩=> ?_)
 have l9:=l8 j;refine aj ?_;repeat'(first|refine aq ?_|refine au λK hK=> ?_|(intro hg;try exact ai)|exact fin|apply af)
 all_goals first
  |(exact⟨j + 1,⟨ae,ae,λi h=>by
    rcases ft i j with h1|h1
    ·exact hi i h1
    ·obtain rfl:i=j:=ae;omega⟩,ae,bY⟩)
  |(rw[decide_eq_false];intro h;have:=h.1 j ae ae;omega)
  |skip
 all_goals first
  |(rw[decide_eq_false (λh=>by unfold qB at h;omega)])
  |(refine gi ?_
    rw[decide_eq_true_iff,decide_eq_true_iff];unfold qB;constructor
    ·intro h0;refine⟨λi h1 h2=>hi i ae, ?_⟩;omega
    ·intro h0;omega)
  |skip
end Go.Proofs.YtafmfhkplgapjaaGreatDoor
namespace Go.Proofs.YtafmfhkplgapjaaGreatDoor
set_option maxRecDepth 100000
set_option maxHeartbeats 4000000
open Go.Ab
attribute[local irreducible] av dL dY ak aH cY IA ez aP fM
def O0 (s:aJ)(x:b9×Int):Prop:=(0<=x.2/\x.2<=s.wd * s.rw - 1)/\fY x.1/\lI x.1
theorem J8 (s:aJ):kJ s↔(1<=s.aL.length/\s.aL.length<=3)/\(1<=s.dy/\s.dy<=4)/\oN s/\(∀i,i < s.aL.length->O0 s (nth s.aL i))/\
 k8 s.fl s.tu s.mo/\vR s.to s.tf s.tm/\vQ s.w/\Sc.so s.cl s.wt []/\Sc.ss s.pb s.pr s.pl:=Iff.rfl
theorem Qt (s:aJ)(h:qB s)(hl:Fm s):ak aa 5 [ji s] (.bool (decide (kJ s))):=by
 obtain⟨l1,l2,l3,l4,l5,l6,l7,l8⟩:=hl;obtain⟨m1,m2,m3,m4,m5,m6,m7,m8⟩:=h;have c0:=ab7 s;have c1:=ab8 s;have c2:=acY s.fl s.tu s.mo ae ae;have c3:=abV s.to s.tf s.tm;have c4:=abN s.w ae ae ae;have c5:=abY s.cl s.wt ae;have c6:=Sc.ady s.pb s.pr s.pl;refine cT func5 ntmps5 results5 call5 λw0 S0 M0=> ?_;repeat'(first|refine aq ?_|refine au λK hK=> ?_|refine cA (YC _ _ _) ?_|refine cA (c0) ?_|refine cA (c1) ?_|(intro hg;try exact ai)|exact fin|apply af)
 all_goals first
  |(rw[decide_eq_false (λh=>by rw[J8]at h;first|omega|exact absurd h.2.2.1 (by assumption))])
  |skip
 refine dn (ι:=Nat) (λj=>[(1, .box 0 0),(3,i64 j)]) (λ_=>[.mu (eb s)]) (λ_=>[])
  (λj=>j<=s.aL.length/\∀i,i < j->O0 s (nth s.aL i)) (λj=>s.aL.length - j) (λ_ _=>⟨rfl,rfl⟩) 0 ⟨bD _,λi h=>absurd h (dF i)⟩ bY (λj ⟨hj,hi⟩=> ?_)
 have c7:oN s:=by assumption
 have c8:=abZ s c7;have c9:=λhj=>aan (nth s.aL j).1 (l8 j hj);refine aj ?_;repeat'(first|refine aq ?_|refine au λK hK=> ?_|refine cA (c0) ?_|refine cA (c8 _) ?_|refine cA (c9 ae) ?_|refine cA (ac2 _ (by assumption)) ?_|refine cA (c2) ?_|refine cA (c3) ?_|refine cA (c4) ?_|refine cA (c5) ?_|refine cA (c6) ?_|(intro hg;try exact ai)|exact fin|apply af)
 all_goals first
  |(exact⟨j + 1,⟨ae,all_succ hi (by unfold O0;refine⟨ae, ?_, ?_⟩<;>assumption)⟩,ae,bY⟩)
  |(rw[decide_eq_false (λh=>by
    rw[J8]at h;first
    |omega
    |exact absurd (h.2.2.2.1 j ae).2.1 (by assumption)
    |exact absurd (h.2.2.2.1 j ae).2.2 (by assumption)
    |(have:=(h.2.2.2.1 j ae).1;omega)
    |exact absurd h.2.2.2.2.1 (by assumption)
    |exact absurd h.2.2.2.2.2.1 (by assumption)
    |exact absurd h.2.2.2.2.2.2.1 (by assumption)
    |exact absurd h.2.2.2.2.2.2.2.1 (by assumption))])
  |(refine gi ?_
    rw[decide_eq_true_iff,decide_eq_true_iff,J8];refine⟨λh0=>⟨ae,ae,c7,λi h=>hi i ae,by assumption,by assumption,by assumption,by assumption,h0⟩,λh0=>h0.2.2.2.2.2.2.2.2⟩)
  |skip
theorem Hi {α:Type}{a:α}{l m:List α}:List.append (a::l) m=a::List.append l m:=rfl
theorem Hh {α:Type}{m:List α}:List.append ([]:List α) m=m:=rfl
theorem any_none {α:Type}[Inhabited α]{p:α->Bool}{l:List α}(h:∀i,i < l.length->p (nth l i)=false):l.any p=false:=by
 cases hb:l.any p with
 |false=>rfl
 |true=>
  obtain⟨i,hi,hp⟩:=WJ.1 hb;rw[h i hi]at hp;cases hp
theorem Rf (n lo hi:Int):ak aa 95 [i64 n,i64 lo,i64 hi] (.bool (decide (lo<=n/\n<=hi))):=by
 refine cT func95 ntmps95 results95 call95 λw0 S0 M0=> ?_;repeat'(first|refine aq ?_|refine au λK hK=> ?_|(intro hg;try exact ai)|exact fin|apply af)
 all_goals(refine gi ?_;simp only[decide_eq_true_eq,bK,false_iff,iff_false,true_iff,iff_true];omega)
theorem ado (n lo hi:Int):ak aa 150 [i64 n,i64 lo,i64 hi] (.bool (decide (lo<=n/\n<=hi))):=by
 refine cT func150 ntmps150 results150 call150 λw0 S0 M0=> ?_;repeat'(first|refine aq ?_|refine au λK hK=> ?_|(intro hg;try exact ai)|exact fin|apply af)
 all_goals(refine gi ?_;simp only[decide_eq_true_eq,bK,false_iff,iff_false,true_iff,iff_true];omega)
theorem Df (n lo hi:Int):ak aa 34 [i64 n,i64 lo,i64 hi] (.bool (decide (lo<=n/\n<=hi))):=by
 refine cT func34 ntmps34 results34 call34 λw0 S0 M0=> ?_;repeat'(first|refine aq ?_|refine au λK hK=> ?_|(intro hg;try exact ai)|exact fin|apply af)
 all_goals(refine gi ?_;simp only[decide_eq_true_eq,bK,false_iff,iff_false,true_iff,iff_true];omega)
theorem wJ (n lo hi:Int)(h:lo<=n/\n<=hi):ak aa 95 [i64 n,i64 lo,i64 hi] (.bool true):=by have:=Rf n lo hi;rwa [decide_eq_true h]at this
theorem pY (n lo hi:Int)(h:lo<=n/\n<=hi):ak aa 150 [i64 n,i64 lo,i64 hi] (.bool true):=by have:=ado n lo hi;rwa [decide_eq_true h]at this
theorem KS (n lo hi:Int)(h:lo<=n/\n<=hi):ak aa 34 [i64 n,i64 lo,i64 hi] (.bool true):=by have:=Df n lo hi;rwa [decide_eq_true h]at this
theorem afh (l:List (Int×Int))(gf:FuncId)(cs:List D)(aw:Cl cs)(p:Int×Int->Bool)(hl:l.length<=9223372036854775807)(hp:∀i,i < l.length->ak aa gf (kd (nth l i)::cs) (.bool (p (nth l i)))):ak aa 214 [.list (l.map kd), .ag gf cs] (i64 (rf p l)):=by
 refine cT func214 ntmps214 results214 call214 λw0 S0 M0=> ?_;repeat'(first|refine bh ?_|((first|refine bj λK hK=> ?_|refine bg ?_|show bb _ _ _ _ _);(refine sX (af @aw.1 (@aw.2)) ?_))|(intro hg;try exact ai)|exact fin|apply af)
 refine dn (ι:=Nat) (λj=>[(0, .list (l.map kd)),(1, .ag gf cs),(6, .list (l.map kd)),(7,i64 l.length),(8,i64 j)]) (λ_=>[]) (λ_=>[])
  (λj=>j<=l.length/\∀i,i < j->p (nth l i)=false) (λj=>l.length - j) (λ_ _=>⟨by simp[cq,bN,aw.names],rfl⟩) 0 ⟨bD _,λi h=>absurd h (dF i)⟩ (br rfl (by try refine sX (af @aw.1 (@aw.2)) ?_;try simp) ⟨_,rfl⟩ ⟨_,rfl⟩) (λj ⟨hj,hi⟩=> ?_)
 refine sX (af @aw.1 (@aw.2)) ?_;repeat'(first|refine bh ?_|((first|refine bj λK hK=> ?_|refine bg ?_|show bb _ _ _ _ _|refine bo (hp j ae) ?_);(refine sX (af @aw.1 (@aw.2)) ?_))|(intro hg;try exact ai)|exact fin|apply af)
 all_goals first
  |(congr 1;exact(zu ae hi (by assumption)).symm)
  |(refine⟨j + 1,⟨ae,λi h=> ?_⟩,ae,br rfl (by try refine sX (af @aw.1 (@aw.2)) ?_;try simp) ⟨_,rfl⟩ ⟨_,rfl⟩⟩
    by_cases h9:i=j
    ·rw[h9];assumption
    ·exact hi i ae)
  |(congr 1;exact(zw λi h=>hi i ae).symm)
  |skip
theorem ake (l:List (Int×Int))(gf:FuncId)(cs:List D)(aw:Cl cs)(p:Int×Int->Bool)(hl:l.length<=9223372036854775807)(hp:∀i,i < l.length->ak aa gf (kd (nth l i)::cs) (.bool (p (nth l i)))):ak aa 144 [.list (l.map kd), .ag gf cs] (.bool (l.any p)):=by
 refine cT func144 ntmps144 results144 call144 λw0 S0 M0=> ?_;repeat'(first|refine bh ?_|((first|refine bj λK hK=> ?_|refine bg ?_|show bb _ _ _ _ _|refine bo (afh l gf cs aw p hl hp) ?_);(refine sX (af @aw.1 (@aw.2)) ?_))|(intro hg;try exact ai)|exact fin|apply af)
 all_goals rw[zx]
theorem akf (l:List (Int×Int))(gf:FuncId)(cs:List D)(aw:Cl cs)(hl:l.length<=9223372036854775807)(hp:∀i,i < l.length->ak aa gf (kd (nth l i)::cs) (.bool false)):ak aa 144 [.list (l.map kd), .ag gf cs] (.bool false):=by
 have:=ake l gf cs aw (λ_=>false) hl hp
 rwa [any_none (λ_ _=>rfl)]at this
theorem afi (l:List (qC))(gf:FuncId)(cs:List D)(aw:Cl cs)(p:qC->Bool)(hl:l.length<=9223372036854775807)(hp:∀i,i < l.length->ak aa gf (mP (nth l i)::cs) (.bool (p (nth l i)))):ak aa 216 [.list (l.map mP), .ag gf cs] (i64 (rf p l)):=by
 refine cT func216 ntmps216 results216 call216 λw0 S0 M0=> ?_;repeat'(first|refine bh ?_|((first|refine bj λK hK=> ?_|refine bg ?_|show bb _ _ _ _ _);(refine sX (af @aw.1 (@aw.2)) ?_))|(intro hg;try exact ai)|exact fin|apply af)
 refine dn (ι:=Nat) (λj=>[(0, .list (l.map mP)),(1, .ag gf cs),(6, .list (l.map mP)),(7,i64 l.length),(8,i64 j)]) (λ_=>[]) (λ_=>[])
  (λj=>j<=l.length/\∀i,i < j->p (nth l i)=false) (λj=>l.length - j) (λ_ _=>⟨by simp[cq,bN,aw.names],rfl⟩) 0 ⟨bD _,λi h=>absurd h (dF i)⟩ (br rfl (by try refine sX (af @aw.1 (@aw.2)) ?_;try simp) ⟨_,rfl⟩ ⟨_,rfl⟩) (λj ⟨hj,hi⟩=> ?_)
 refine sX (af @aw.1 (@aw.2)) ?_;repeat'(first|refine bh ?_|((first|refine bj λK hK=> ?_|refine bg ?_|show bb _ _ _ _ _|refine bo (hp j ae) ?_);(refine sX (af @aw.1 (@aw.2)) ?_))|(intro hg;try exact ai)|exact fin|apply af)
 all_goals first
  |(congr 1;exact(zu ae hi (by assumption)).symm)
  |(refine⟨j + 1,⟨ae,λi h=> ?_⟩,ae,br rfl (by try refine sX (af @aw.1 (@aw.2)) ?_;try simp) ⟨_,rfl⟩ ⟨_,rfl⟩⟩
    by_cases h9:i=j
    ·rw[h9];assumption
    ·exact hi i ae)
  |(congr 1;exact(zw λi h=>hi i ae).symm)
  |skip
theorem akg (l:List (qC))(gf:FuncId)(cs:List D)(aw:Cl cs)(p:qC->Bool)(hl:l.length<=9223372036854775807)(hp:∀i,i < l.length->ak aa gf (mP (nth l i)::cs) (.bool (p (nth l i)))):ak aa 151 [.list (l.map mP), .ag gf cs] (.bool (l.any p)):=by
 refine cT func151 ntmps151 results151 call151 λw0 S0 M0=> ?_;repeat'(first|refine bh ?_|((first|refine bj λK hK=> ?_|refine bg ?_|show bb _ _ _ _ _|refine bo (afi l gf cs aw p hl hp) ?_);(refine sX (af @aw.1 (@aw.2)) ?_))|(intro hg;try exact ai)|exact fin|apply af)
 all_goals rw[zx]
theorem akh (l:List (qC))(gf:FuncId)(cs:List D)(aw:Cl cs)(hl:l.length<=9223372036854775807)(hp:∀i,i < l.length->ak aa gf (mP (nth l i)::cs) (.bool false)):ak aa 151 [.list (l.map mP), .ag gf cs] (.bool false):=by
 have:=akg l gf cs aw (λ_=>false) hl hp
 rwa [any_none (λ_ _=>rfl)]at this
theorem afk (l:List (qE))(gf:FuncId)(cs:List D)(aw:Cl cs)(p:qE->Bool)(hl:l.length<=9223372036854775807)(hp:∀i,i < l.length->ak aa gf (mU (nth l i)::cs) (.bool (p (nth l i)))):ak aa 218 [.list (l.map mU), .ag gf cs] (i64 (rf p l)):=by
 refine cT func218 ntmps218 results218 call218 λw0 S0 M0=> ?_;repeat'(first|refine bh ?_|((first|refine bj λK hK=> ?_|refine bg ?_|show bb _ _ _ _ _);(refine sX (af @aw.1 (@aw.2)) ?_))|(intro hg;try exact ai)|exact fin|apply af)
 refine dn (ι:=Nat) (λj=>[(0, .list (l.map mU)),(1, .ag gf cs),(6, .list (l.map mU)),(7,i64 l.length),(8,i64 j)]) (λ_=>[]) (λ_=>[])
  (λj=>j<=l.length/\∀i,i < j->p (nth l i)=false) (λj=>l.length - j) (λ_ _=>⟨by simp[cq,bN,aw.names],rfl⟩) 0 ⟨bD _,λi h=>absurd h (dF i)⟩ (br rfl (by try refine sX (af @aw.1 (@aw.2)) ?_;try simp) ⟨_,rfl⟩ ⟨_,rfl⟩) (λj ⟨hj,hi⟩=> ?_)
 refine sX (af @aw.1 (@aw.2)) ?_;repeat'(first|refine bh ?_|((first|refine bj λK hK=> ?_|refine bg ?_|show bb _ _ _ _ _|refine bo (hp j ae) ?_);(refine sX (af @aw.1 (@aw.2)) ?_))|(intro hg;try exact ai)|exact fin|apply af)
 all_goals first
  |(congr 1;exact(zu ae hi (by assumption)).symm)
  |(refine⟨j + 1,⟨ae,λi h=> ?_⟩,ae,br rfl (by try refine sX (af @aw.1 (@aw.2)) ?_;try simp) ⟨_,rfl⟩ ⟨_,rfl⟩⟩
    by_cases h9:i=j
    ·rw[h9];assumption
    ·exact hi i ae)
  |(congr 1;exact(zw λi h=>hi i ae).symm)
  |skip
theorem akk (l:List (qE))(gf:FuncId)(cs:List D)(aw:Cl cs)(p:qE->Bool)(hl:l.length<=9223372036854775807)(hp:∀i,i < l.length->ak aa gf (mU (nth l i)::cs) (.bool (p (nth l i)))):ak aa 154 [.list (l.map mU), .ag gf cs] (.bool (l.any p)):=by
 refine cT func154 ntmps154 results154 call154 λw0 S0 M0=> ?_;repeat'(first|refine bh ?_|((first|refine bj λK hK=> ?_|refine bg ?_|show bb _ _ _ _ _|refine bo (afk l gf cs aw p hl hp) ?_);(refine sX (af @aw.1 (@aw.2)) ?_))|(intro hg;try exact ai)|exact fin|apply af)
 all_goals rw[zx]
theorem akl (l:List (qE))(gf:FuncId)(cs:List D)(aw:Cl cs)(hl:l.length<=9223372036854775807)(hp:∀i,i < l.length->ak aa gf (mU (nth l i)::cs) (.bool false)):ak aa 154 [.list (l.map mU), .ag gf cs] (.bool false):=by
 have:=akk l gf cs aw (λ_=>false) hl hp
 rwa [any_none (λ_ _=>rfl)]at this
theorem afj (l:List (qD))(gf:FuncId)(cs:List D)(aw:Cl cs)(p:qD->Bool)(hl:l.length<=9223372036854775807)(hp:∀i,i < l.length->ak aa gf (mS (nth l i)::cs) (.bool (p (nth l i)))):ak aa 219 [.list (l.map mS), .ag gf cs] (i64 (rf p l)):=by
 refine cT func219 ntmps219 results219 call219 λw0 S0 M0=> ?_;repeat'(first|refine bh ?_|((first|refine bj λK hK=> ?_|refine bg ?_|show bb _ _ _ _ _);(refine sX (af @aw.1 (@aw.2)) ?_))|(intro hg;try exact ai)|exact fin|apply af)
 refine dn (ι:=Nat) (λj=>[(0, .list (l.map mS)),(1, .ag gf cs),(6, .list (l.map mS)),(7,i64 l.length),(8,i64 j)]) (λ_=>[]) (λ_=>[])
  (λj=>j<=l.length/\∀i,i < j->p (nth l i)=false) (λj=>l.length - j) (λ_ _=>⟨by simp[cq,bN,aw.names],rfl⟩) 0 ⟨bD _,λi h=>absurd h (dF i)⟩ (br rfl (by try refine sX (af @aw.1 (@aw.2)) ?_;try simp) ⟨_,rfl⟩ ⟨_,rfl⟩) (λj ⟨hj,hi⟩=> ?_)
 refine sX (af @aw.1 (@aw.2)) ?_;repeat'(first|refine bh ?_|((first|refine bj λK hK=> ?_|refine bg ?_|show bb _ _ _ _ _|refine bo (hp j ae) ?_);(refine sX (af @aw.1 (@aw.2)) ?_))|(intro hg;try exact ai)|exact fin|apply af)
 all_goals first
  |(congr 1;exact(zu ae hi (by assumption)).symm)
  |(refine⟨j + 1,⟨ae,λi h=> ?_⟩,ae,br rfl (by try refine sX (af @aw.1 (@aw.2)) ?_;try simp) ⟨_,rfl⟩ ⟨_,rfl⟩⟩
    by_cases h9:i=j
    ·rw[h9];assumption
    ·exact hi i ae)
  |(congr 1;exact(zw λi h=>hi i ae).symm)
  |skip
theorem aki (l:List (qD))(gf:FuncId)(cs:List D)(aw:Cl cs)(p:qD->Bool)(hl:l.length<=9223372036854775807)(hp:∀i,i < l.length->ak aa gf (mS (nth l i)::cs) (.bool (p (nth l i)))):ak aa 157 [.list (l.map mS), .ag gf cs] (.bool (l.any p)):=by
 refine cT func157 ntmps157 results157 call157 λw0 S0 M0=> ?_;repeat'(first|refine bh ?_|((first|refine bj λK hK=> ?_|refine bg ?_|show bb _ _ _ _ _|refine bo (afj l gf cs aw p hl hp) ?_);(refine sX (af @aw.1 (@aw.2)) ?_))|(intro hg;try exact ai)|exact fin|apply af)
 all_goals rw[zx]
theorem akj (l:List (qD))(gf:FuncId)(cs:List D)(aw:Cl cs)(hl:l.length<=9223372036854775807)(hp:∀i,i < l.length->ak aa gf (mS (nth l i)::cs) (.bool false)):ak aa 157 [.list (l.map mS), .ag gf cs] (.bool false):=by
 have:=aki l gf cs aw (λ_=>false) hl hp
 rwa [any_none (λ_ _=>rfl)]at this
theorem Yi (p:Int×Int)(h:yd p):ak aa 145 [kd p] (.bool false):=by
 have h1:=h.1;have h2:=h.2.1;have h3:=h.2.2;refine cT func145 ntmps145 results145 call145 λw0 S0 M0=> ?_;repeat'(first|refine aq ?_|refine au λK hK=> ?_|(intro hg;try exact ai)|exact fin|apply af)
 all_goals first|(rw[decide_eq_false ae])|skip
theorem Yh (n:Int)(h:xQ n):ak aa 147 [i64 n] (.bool false):=by
 have c1:=wJ n 0 1023 h;refine cT func147 ntmps147 results147 call147 λw0 S0 M0=> ?_;repeat'(first|refine aq ?_|refine au λK hK=> ?_|refine cA (c1) ?_|(intro hg;try exact ai)|exact fin|apply af)
 all_goals first|rfl|skip
theorem akm (l:List Int)(gf:FuncId)(hl:l.length<=9223372036854775807)(hp:∀i,i < l.length->ak aa gf [i64 (nth l i)] (.bool false)):ak aa 146 [ints l, .ag gf []] (.bool false):=by
 have:=Sc.NL l gf [] ⟨λ_ _=>rfl,λ_ _=>rfl⟩ (λ_=>false) hl hp
 rwa [any_none (λ_ _=>rfl)]at this
theorem O' (fl:List (Int×Int))(tu:List Int)(mo:Int)(h:k8 fl tu mo):ak aa 110 [.agg (BM fl tu mo)] (.bool true):=by
 obtain⟨h1,h2,h3,h4,h5⟩:=h;have c1:=wJ (fl.length:Int) 1 3 ae;have c2:=wJ mo 0 2 ae;have c3:=akf fl 145 [] ⟨λ_ _=>rfl,λ_ _=>rfl⟩ ae (λi hi=>Yi _ (h1 i hi));have c4:=akm tu 147 ae (λi hi=>Yh _ (h2 i hi));refine cT func110 ntmps110 results110 call110 λw0 S0 M0=> ?_;repeat'(first|refine aq ?_|refine au λK hK=> ?_|refine cA (c1) ?_|refine cA (c2) ?_|refine cA (c3) ?_|refine cA (c4) ?_|(intro hg;try exact ai)|exact fin|apply af)
 all_goals first|rfl|skip
theorem YG (fl:List (Int×Int))(tu:List Int)(mo:Int)(h:k8 fl tu mo):ak aa 76 [.agg (BM fl tu mo)] (i64 0):=by
 have c1:=O' fl tu mo h;refine cT func76 ntmps76 results76 call76 λw0 S0 M0=> ?_;repeat'(first|refine aq ?_|refine au λK hK=> ?_|refine cA (c1) ?_|(intro hg;try exact ai)|exact fin|apply af)
 all_goals first|rfl|skip
def ox (a b d:Int)(n k:Int):Int:=(a + d * max 0 (n - b)) + (k - 1) * (((a + d * max 0 (n - b)) + 1) / 2)
theorem Pn (a b d:Int)(h:vR a b d)(n k:Int)(hn:0<=n/\n<=100)(hk:1<=k/\k<=3):ak aa 48 [.agg [i64 a,i64 b,i64 d],i64 n,i64 k] (.aF [i64 (ox a b d n k),i64 0]):=by
 obtain⟨h1,h2,h3⟩:=h;have c1:=wJ a 0 10000 h1;have c2:=wJ d 0 10000 h2;have c3:=wJ b 0 100 h3;have c4:=wJ n 0 100 hn;have c5:=wJ k 1 3 hk;have m1:0<=d * max 0 (n - b)/\d * max 0 (n - b)<=10000 * 100:=rM h2.1 h2.2 ae ae;unfold ox;generalize hm:d * max 0 (n - b)=m at m1⊢;have m2:0<=(k - 1) * ((a + m + 1) / 2)/\(k - 1) * ((a + m + 1) / 2)<=2 * 1000000:=rM ae ae ae ae;have m3:(a + m + 1).tdiv 2=(a + m + 1) / 2:=z_ ae;refine cT func48 ntmps48 results48 call48 λw0 S0 M0=> ?_;repeat'(first|refine bh ?_|((first|refine bj λK hK=> ?_|refine bg ?_|show bb _ _ _ _ _|refine bo (c1) ?_|refine bo (c2) ?_|refine bo (c3) ?_|refine bo (c4) ?_|refine bo (c5) ?_);(refine sX (af @hm (@m3)) ?_))|(intro hg;try exact ai)|exact fin|apply af)
 all_goals first|rfl|omega|skip
theorem RE (a b m:Int)(h:0<=a/\a<=b/\b<=m):ak aa 217 [.agg [i64 a,i64 b],i64 m] (.bool true):=by
 refine cT func217 ntmps217 results217 call217 λw0 S0 M0=> ?_;repeat'(first|refine aq ?_|refine au λK hK=> ?_|(intro hg;try exact ai)|exact fin|apply af)
 all_goals(rw[decide_eq_true ae])
theorem YJ (w:oM)(hw:1<=w.st/\w.st<=6)(r:qC)(h:vW w.st r):ak aa 153 [.agg (kM w),mP r] (.bool true):=by
 obtain⟨h1,h2,h3,h4,h5,h6⟩:=h;have c1:=pY r.st 0 (w.st - 1) h1;have c2:=pY r.tk 0 10080 h2;have c3:=pY r.pr 0 99999 h3;have c4:=RE r.dl r.dh 2880 h4;have c5:=pY r.ur 0 2880 h5;have c6:=pY r.co 0 10000 h6;refine cT func153 ntmps153 results153 call153 λw0 S0 M0=> ?_;repeat'(first|refine aq ?_|refine au λK hK=> ?_|refine cA (c1) ?_|refine cA (c2) ?_|refine cA (c3) ?_|refine cA (c4) ?_|refine cA (c5) ?_|refine cA (c6) ?_|(intro hg;try exact ai)|exact fin|apply af)
 all_goals first|rfl|skip
theorem YL (w:oM)(hw:1<=w.st/\w.st<=6)(r:qE)(h:vY w.st r):ak aa 156 [.agg (kM w),mU r] (.bool true):=by
 obtain⟨h1,h2,h3,h4⟩:=h;have c1:=pY r.a 0 (w.st - 1) h1;have c2:=pY r.b 0 (w.st - 1) h2;have c3:=pY r.d 1 99999 h4;have h5:(r.a=r.b)=False:=eq_false h3;refine cT func156 ntmps156 results156 call156 λw0 S0 M0=> ?_;repeat'(first|refine bh ?_|((first|refine bj λK hK=> ?_|refine bg ?_|show bb _ _ _ _ _|refine bo (c1) ?_|refine bo (c2) ?_|refine bo (c3) ?_);(refine sX (@h5) ?_))|(intro hg;try exact ai)|exact fin|apply af)
 all_goals first|rfl|skip
theorem YK (p:qD)(h:vX p):ak aa 159 [mS p] (.bool true):=by
 obtain⟨h1,h2,h3,h4⟩:=h;have c1:=RE p.ol p.oh 2880 h1;have c2:=pY p.dy 0 50000 h3;have c3:=pY p.ni 0 50000 h4;refine cT func159 ntmps159 results159 call159 λw0 S0 M0=> ?_;repeat'(first|refine aq ?_|refine au λK hK=> ?_|refine cA (c1) ?_|refine cA (c2) ?_|refine cA (c3) ?_|(intro hg;try exact ai)|exact fin|apply af)
 all_goals first|rfl|skip
theorem YU (w:oM)(hw:1<=w.st/\w.st<=6)(r:qC)(h:vW w.st r):ak aa 152 [mP r, .ro (kM w)] (.bool false):=by
 have c1:=YJ w hw r h;refine cT func152 ntmps152 results152 call152 λw0 S0 M0=> ?_;repeat'(first|refine aq ?_|refine au λK hK=> ?_|refine cA (c1) ?_|(intro hg;try exact ai)|exact fin|apply af)
 all_goals rfl
theorem YT (w:oM)(hw:1<=w.st/\w.st<=6)(r:qE)(h:vY w.st r):ak aa 155 [mU r, .ro (kM w)] (.bool false):=by
 have c1:=YL w hw r h;refine cT func155 ntmps155 results155 call155 λw0 S0 M0=> ?_;repeat'(first|refine aq ?_|refine au λK hK=> ?_|refine cA (c1) ?_|(intro hg;try exact ai)|exact fin|apply af)
 all_goals rfl
theorem YS (p:qD)(h:vX p):ak aa 158 [mS p] (.bool false):=by
 have c1:=YK p h;refine cT func158 ntmps158 results158 call158 λw0 S0 M0=> ?_;repeat'(first|refine aq ?_|refine au λK hK=> ?_|refine cA (c1) ?_|(intro hg;try exact ai)|exact fin|apply af)
 all_goals rfl
theorem ajY (w:oM)(h:vQ w):ak aa 112 [.agg (kM w)] (.bool true):=by
 obtain⟨h1,h2,h3,h4,h5,h6,h7,h8,h9,nk,H_⟩:=h;have c1:=pY w.st 1 6 h4;have c2:=pY w.fa 1 99999 h8;have c3:=pY w.wi 1 2880 h9;have c4:=pY w.ho 1 2880 nk;have c5:=akh w.rp 152 [.ro (kM w)] ⟨λ_ _=>rfl,λ_ _=>rfl⟩ ae (λi hi=>YU w h4 _ (h1 i hi));have c6:=akl w.lk 155 [.ro (kM w)] ⟨λ_ _=>rfl,λ_ _=>rfl⟩ ae (λi hi=>YT w h4 _ (h2 i hi));have c7:=akj w.pt 158 [] ⟨λ_ _=>rfl,λ_ _=>rfl⟩ ae (λi hi=>YS _ (h3 i hi));refine cT func112 ntmps112 results112 call112 λw0 S0 M0=> ?_;repeat'(first|(refine j6 0 _ _ rfl rfl ?_;simp only[aU,Nat.reduceAdd])|refine bh ?_|((first|refine bj λK hK=> ?_|refine bg ?_|show bb _ _ _ _ _|refine bo (c1) ?_|refine bo (c2) ?_|refine bo (c3) ?_|refine bo (c4) ?_|refine bo (c5) ?_|refine bo (c6) ?_|refine bo (c7) ?_);(refine sX (af @Hi (@Hh)) ?_))|(intro hg;try exact ai)|exact fin|apply af)
 all_goals first|rfl|skip
theorem ajZ (w:oM)(h:vQ w):ak aa 78 [.agg (kM w)] (i64 0):=by
 have c1:=ajY w h;refine cT func78 ntmps78 results78 call78 λw0 S0 M0=> ?_;repeat'(first|refine aq ?_|refine au λK hK=> ?_|refine cA (c1) ?_|(intro hg;try exact ai)|exact fin|apply af)
 all_goals first|rfl|skip
abbrev Lz (s:b9):eP:=⟨false, .arr,1,λl=>[ue s (l.headD 0),uf s (l.headD 0)],[]⟩
abbrev stM (s:b9):D:= .agg [i64 s.hl,i64 s.hh,i64 s.gl,i64 s.gh,i64 s.dr,i64 s.rd,i64 s.ea,i64 s.sl, .list (s.ck.map mE), .bM (Lz s)]
abbrev wF (s:b9):List D:=[i64 s.hl,i64 s.hh,i64 s.gl,i64 s.gh,i64 s.dr,i64 s.rd,i64 s.ea,i64 s.sl, .list (s.ck.map mE), .bM (Lz s)]
abbrev tY:D:= .agg [i64 0,i64 0,i64 0,i64 0,i64 0,i64 0,i64 0,i64 0, .val (.slice none 0 0), .val (.map none)]
theorem look_ok (s:b9):ak aa 165 [jO s] (stM s):=by
 refine cT func165 ntmps165 results165 call165 λw0 S0 M0=> ?_;repeat'(first|(show av _ (.region 1 _ false) _ _;refine Oc λK hK=> ?_;refine aj ?_)|refine aq ?_|refine au λK hK=> ?_|(refine⟨(Lz s:eP),rfl, ?_⟩)|(intro hg;try exact ai)|exact fin|apply af)
 all_goals skip
theorem We {s:b9}{i k:Nat}:mJ s i k↔(s.dr * fR (nth s.ck i).day (nth s.ck k).day < (nth s.ck i).lo - (nth s.ck k).hi\/s.dr * fR (nth s.ck i).day (nth s.ck k).day < (nth s.ck k).lo - (nth s.ck i).hi):=by
 unfold mJ;generalize s.dr * fR (nth s.ck i).day (nth s.ck k).day=d;omega
theorem ak6 (s:b9)(hs:fY s)(i k:Nat)(hi:i < s.ck.length)(hk:k < s.ck.length):ak aa 223 [stM s,mE (nth s.ck i),mE (nth s.ck k)] (.bool (decide (mJ s i k))):=by
 have pA:=hs.d;have c1:=hs.c i hi;have c2:=hs.c k hk;have b1:=rM pA.1 pA.2 (BC c1.1 c2.1).1 (BC c1.1 c2.1).2;have b5: -2000<=(nth s.ck i).lo/\(nth s.ck i).lo<=(nth s.ck i).hi/\(nth s.ck i).hi<=2000:=c1.2;have b6: -2000<=(nth s.ck k).lo/\(nth s.ck k).lo<=(nth s.ck k).hi/\(nth s.ck k).hi<=2000:=c2.2;refine cT func223 ntmps223 results223 call223 λw0 S0 M0=> ?_;repeat'(first|refine aq ?_|refine au λK hK=> ?_|refine cA (U9 _ _ c1.1 c2.1) ?_|(intro hg;try exact ai)|exact fin|apply af)
 ·refine gi ?_;rw[decide_eq_true_iff,decide_eq_true_iff,We];omega
 ·rw[decide_eq_true (We.2 ae)]
theorem U_ (s:b9)(hs:fY s):ak aa 166 [stM s] (BP s):=by
 have hl:=hs.n;refine cT func166 ntmps166 results166 call166 λw0 S0 M0=> ?_;repeat'(first|refine aq ?_|refine au λK hK=> ?_|(intro hg;try exact ai)|exact fin|apply af)
 refine dn (ι:=Nat) (λj=>[(1, .box 0 0),(5,i64 0),(6,i64 0),(7, .bool false),(13, .list (s.ck.map mE)),(14,i64 s.ck.length),(15,i64 j)]) (λ_=>[.mu (wF s)]) (λ_=>[])
  (λj=>j<=s.ck.length/\∀a b,a < b->b < s.ck.length->a < j->¬mJ s a b) (λj=>s.ck.length - j) (λ_ _=>⟨rfl,rfl⟩) 0 ⟨bD _,λa b _ _ h=>absurd h (dF a)⟩ bY (λj ⟨hj,hi⟩=> ?_)
 refine aj ?_;repeat'(first|refine aq ?_|refine au λK hK=> ?_|(intro hg;try exact ai)|exact fin|apply af)
 ·refine dn (ι:=Nat) (λk=>[(1, .box 0 0),(5,i64 0),(6,i64 0),(7, .bool false),(8,i64 j),(9, .box 1 0),(10,i64 k),(13, .list (s.ck.map mE)),(14,i64 s.ck.length),(15,i64 j)]) (λ_=>[.mu (wF s), .mu [i64 (nth s.ck j).day,i64 (nth s.ck j).lo,i64 (nth s.ck j).hi]]) (λ_=>[])
   (λk=>j < k/\k<=s.ck.length/\∀b,j < b->b < k->¬mJ s j b) (λk=>s.ck.length - k) (λ_ _=>⟨rfl,rfl⟩) (j + 1) ⟨ae,ae,λb h1 h2=>by omega⟩ bY (λk ⟨vr,hk,hb⟩=> ?_)
  refine aj ?_;repeat'(first|refine aq ?_|refine au λK hK=> ?_|refine cA (ak6 s hs j k ae ae) ?_|(intro hg;try exact ai)|exact fin|apply af)
  ·refine(IH ⟨vr,ae,hg,λa b h1 h2 h3=> ?_⟩).symm;rcases h3 with h3|⟨rfl,h3⟩
   ·exact hi a b h1 h2 h3
   ·exact hb b h1 h3
  ·refine⟨k + 1,⟨ae,ae,λb h1 h2=> ?_⟩,ae,bY⟩;by_cases h9:b=k
   ·rw[h9];exact hg
   ·exact hb b h1 ae
  ·refine⟨j + 1,⟨ae,λa b h1 h2 h3=> ?_⟩,ae,bY⟩;rcases Jt (Fu h3)with h4|h4
   ·exact hi a b h1 h2 h4
   ·subst h4;exact hb b h1 ae
 ·exact(II λa b h1 h2=>hi a b h1 h2 ae).symm
theorem ale (s:b9)(hl:s.ck.length<=9223372036854775807)(f:Bool)(h:¬(fY s/\f=true)):ak aa 114 [jO s, .bool f] (.aF [tY,i64 2]):=by
 by_cases hs:fY s
 ·obtain rfl:f=false:=by cases f<;>simp_all
  have hv:ak aa 164 [jO s] (.bool true):=decide_eq_true hs▸Ia s hl;refine cT OA Ow Ou OD λw0 S0 M0=> ?_;repeat'(first|refine aq ?_|refine au λK hK=> ?_|refine cA (hv) ?_|(exact(rfl:(uG none 0 0).oneCell'=true))|(exact(rfl:(I8 none).oneCell'=true))|(intro hg;try exact ai)|exact fin|apply af)
 ·have hv:ak aa 164 [jO s] (.bool false):=decide_eq_false hs▸Ia s hl;refine cT OA Ow Ou OD λw0 S0 M0=> ?_;repeat'(first|refine aq ?_|refine au λK hK=> ?_|refine cA (hv) ?_|(exact(rfl:(uG none 0 0).oneCell'=true))|(exact(rfl:(I8 none).oneCell'=true))|(intro hg;try exact ai)|exact fin|apply af)
theorem ald (s:b9)(hs:fY s)(hc:¬lI s):ak aa 114 [jO s, .bool true] (.aF [tY,i64 7]):=by
 have hl:=hs.n;have hv:ak aa 164 [jO s] (.bool true):=decide_eq_true hs▸Ia s ae;obtain⟨i,k,h⟩:=(Wh s).resolve_left hc;have hk:ak aa 166 [stM s] (.aF [i64 i,i64 k, .bool true]):=IH h▸U_ s hs;refine cT OA Ow Ou OD λw0 S0 M0=> ?_;repeat'(first|refine aq ?_|refine au λK hK=> ?_|refine cA (hv) ?_|refine cA (look_ok s) ?_|refine cA (hk) ?_|(exact(rfl:(uG none 0 0).oneCell'=true))|(exact(rfl:(I8 none).oneCell'=true))|(intro hg;try exact ai)|exact fin|apply af)
theorem WV (s:b9)(hs:fY s)(hc:lI s):ak aa 114 [jO s, .bool true] (.aF [stM s,i64 0]):=by
 have hl:=hs.n;have hv:ak aa 164 [jO s] (.bool true):=decide_eq_true hs▸Ia s ae;have hk:ak aa 166 [stM s] (.aF [i64 0,i64 0, .bool false]):=II hc▸U_ s hs;refine cT OA Ow Ou OD λw0 S0 M0=> ?_;repeat'(first|refine aq ?_|refine au λK hK=> ?_|refine cA (hv) ?_|refine cA (look_ok s) ?_|refine cA (hk) ?_|(exact(rfl:(uG none 0 0).oneCell'=true))|(exact(rfl:(I8 none).oneCell'=true))|(intro hg;try exact ai)|exact fin|apply af)
def E3 (s:b9)(day:Int)(k:Nat):D:=sI ((nth s.ck k).lo - s.dr * fR day (nth s.ck k).day) ((nth s.ck k).hi + s.dr * fR day (nth s.ck k).day)
theorem akN (s:b9)(hs:fY s)(day:Int)(hd:0<=day/\day<=400):Iter aa 224 [.ro (wF s), .ro [i64 day]] ((ct s.ck.length).map λk=>[E3 s day k]):=by
 have hl:=hs.n;have pA:=hs.d;refine LA func224 ntmps224 results224 call224 rfl aO λl J Jx=> ?_;repeat'(first
   |refine nU ?_
   |refine n3 ?_
   |refine nV ?_
   |refine nX ?_
   |refine nT ?_
   |refine nZ ?_
   |refine nW ?_
   |(refine nY ?_;(refine aj ?_;try exact trivial))
   |(refine gF λw0 S0 M0 oq=>kI λK hK=> ?_;(refine aj ?_;try exact trivial))
   |(refine gF λw0 S0 M0 oq=>mG Tryz.ty.mixed ax λK hK=> ?_;(refine aj ?_;try exact trivial))
   |(refine hK _ ?_;clear hK K;simp only[bT,bU,if_true,Nat.reduceEqDiff,reduceIte])
   |(show bT _ _ _ _ _;simp only[bT,bU,if_true,Nat.reduceEqDiff,reduceIte])
   |(show gv _ _ _ _;simp only[gv,bT,bU,if_true,Nat.reduceEqDiff,reduceIte])
   |(show bU _ _ _ _ _;simp only[bT,bU,if_true,Nat.reduceEqDiff,reduceIte])
   |(intro hg;first|(exfalso;omega)|(exfalso;contradiction)|skip)
   |apply af
   |(with_reducible rfl)
   |(clear hK;omega)
   |omega)
 refine Hq (ι:=Nat) (λj=>[(0, .val (.func (.yield l) #[] #[])),(1, .ro (wF s)),(2, .ro [i64 day]),(9, .list (s.ck.map mE)),(10,i64 s.ck.length),(11,i64 j)]) (λj=>(true,j)) (λj=>j<=s.ck.length) (λj=>s.ck.length - j) (λ_ _=>rfl) 0 (bD _) rfl bY (λj hj=> ?_);have b1:=λh=>hs.fR hd (k:=j) h;have b2:=λh=>hs.c j h;have b5:j < s.ck.length-> -2000<=(nth s.ck j).lo/\(nth s.ck j).lo<=(nth s.ck j).hi/\(nth s.ck j).hi<=2000:=λh=>(hs.c j h).2;refine aj ?_;repeat'(first
   |refine nU ?_
   |refine n3 ?_
   |refine nV ?_
   |refine nX ?_
   |refine nT ?_
   |refine nZ ?_
   |refine nW ?_
   |(refine nY ?_;(refine aj ?_;try exact trivial))
   |((refine bo (U9 day _ hd (b2 ae).1) ?_;try(refine aj ?_;try exact trivial)))
   |((refine afF 12 rfl λK1 aA=> ?_;(refine aj ?_;try exact trivial)))
   |(refine aA _ _ rfl rfl ?_ ?_ (λb=> ?_);rotate_left;((refine aj ?_;try exact trivial));((refine aj ?_;try exact trivial)))
   |(refine gF λw0 S0 M0 oq=>kI λK hK=> ?_;(refine aj ?_;try exact trivial))
   |(refine gF λw0 S0 M0 oq=>mG Tryz.ty.mixed ax λK hK=> ?_;(refine aj ?_;try exact trivial))
   |(refine hK _ ?_;clear hK K;simp only[bT,bU,if_true,Nat.reduceEqDiff,reduceIte])
   |(show bT _ _ _ _ _;simp only[bT,bU,if_true,Nat.reduceEqDiff,reduceIte])
   |(show gv _ _ _ _;simp only[gv,bT,bU,if_true,Nat.reduceEqDiff,reduceIte])
   |(show bU _ _ _ _ _;simp only[bT,bU,if_true,Nat.reduceEqDiff,reduceIte])
   |(intro hg;first|(exfalso;omega)|(exfalso;contradiction)|skip)
   |apply af
   |(with_reducible rfl)
   |(clear hK;omega)
   |omega)
 ·simp_all
 ·have hb:b=true:=by simp_all
  subst hb;exact⟨j + 1,ae,ae,rfl,bY⟩
 ·have gp:j < s.ck.length:=ae;show((ct s.ck.length).map λk=>[E3 s day k])[j]? =_;simp[gp,E3]
 ·show j=(ct s.ck.length).length;simp;omega
theorem akM (s:b9)(day:Int):ak aa 167 [stM s,i64 day] (.ag 224 [.ro (wF s), .ro [i64 day]]):=by
 refine cT func167 ntmps167 results167 call167 λw0 S0 M0=> ?_;repeat'(first|(refine j6 0 _ _ rfl rfl ?_;simp only[aU,Nat.reduceAdd])|(refine j6 1 _ _ rfl rfl ?_;simp only[aU,Nat.reduceAdd])|refine aq ?_|refine au λK hK=> ?_|(intro hg;try exact ai)|exact fin|apply af)
theorem S8 (s:b9)(hs:fY s)(day:Int)(hd:0<=day/\day<=400):ak aa 116 [stM s,i64 day] (sI (ue s day) (uf s day)):=by
 refine cT func116 ntmps116 results116 call116 λw0 S0 M0=> ?_;have hl:=hs.n;have pA:=hs.d;repeat'(first|(show av _ (.region 1 _ false) _ _;refine Oc λK hK=> ?_;refine aj ?_)|refine aq ?_|refine au λK hK=> ?_|refine cA (akM s day) ?_|(intro hg;try exact ai)|exact fin|apply af)
 ·rfl
 refine Xe (gf:=224) (cs:=[.ro (wF s), .ro [i64 day]]) (cm:=[.ro (wF s), .ro [i64 day]]) (xs:=(ct s.ck.length).map λk=>[E3 s day k]) (by try(refine aj ?_;try exact trivial)) (by try(refine aj ?_;try exact trivial)) (akN s hs day hd) (λx hx=>by obtain⟨y,_,rfl⟩:=eJ.1 hx;rfl) aO
  (cS [(1,i64 day),(2,D.box 0 0),(4, .box 1 0),(7, .box 3 0)]) (λk=>[.mu (wF s), .mu [i64 0,i64 0], .mu [i64 0,i64 0], .mu [i64 (qR s day k),i64 (q9 s day k)]]) (λ_=>[]) 4
  (Hg rfl (by try refine aj ?_;try simp[qR,q9]) ⟨_,rfl⟩ ⟨_,rfl⟩) (uZ rfl) (λ_ _=>rfl) ?_ aO ?_ ?_
 ·intro k hk;exact⟨λ_=> .undef,qP _ rfl⟩
 ·intro k x hk w1 S1 M1 l o1 b1 gz;rw[List.getElem?_map,Option.map_eq_some_iff]at hk;obtain⟨y,hy,rfl⟩:=hk;obtain⟨kv,rfl⟩:=List.getElem?_eq_some_iff.1 hy;simp only[List.length_range]at kv;rw[List.getElem_range];have e1:qR s day (k + 1)=max (qR s day k) ((nth s.ck k).lo - s.dr * fR day (nth s.ck k).day):=rfl;have e2:q9 s day (k + 1)=min (q9 s day k) ((nth s.ck k).hi + s.dr * fR day (nth s.ck k).day):=rfl;rw[e1,e2];show av _ _ _ ⟨41,put (cS [(1,i64 day),(2,D.box 0 0),(4, .box 1 0),(7, .box 3 0)]) 22 (sI ((nth s.ck k).lo - s.dr * fR day (nth s.ck k).day) ((nth s.ck k).hi + s.dr * fR day (nth s.ck k).day)),_,_⟩;refine aj ?_;repeat'(first|refine aq ?_|refine au λK hK=> ?_|refine cA (MY _ _) ?_|refine cA (Ss _ _) ?_|(intro hg;try exact ai)|exact fin|apply af)
  simp only[GJ];exact⟨rfl,λ_=> .inl rfl,⟨_,rfl⟩,⟨_,rfl⟩⟩
 ·rw[show((ct s.ck.length).map λk=>[E3 s day k]).length=s.ck.length by simp];show av _ _ _ _;refine aj ?_;repeat'(first|(show av _ (.region 8 _ false) _ _;refine Oc λK hK=> ?_;refine aj ?_)|refine aq ?_|refine au λK hK=> ?_|(intro hg;try exact ai)|exact fin|apply af)
  all_goals try rfl
end Go.Proofs.YtafmfhkplgapjaaGreatDoor
namespace Go.Proofs.YtafmfhkplgapjaaGreatDoor
open Go.Ab
theorem RA {α:Type}[Inhabited α]{l t:List α}{i:Nat}(h:i < l.length):nth (l++t) i=nth l i:=by
 unfold nth;rw[ic,ic,List.getElem?_append_left h]
theorem RC {α:Type}[Inhabited α]{l:List α}{x:α}:nth (l++[x]) l.length=x:=by
 unfold nth;rw[ic];simp
theorem RD {α:Type}[Inhabited α]{l:List α}{x:α}{i:Nat}(h:i < (l++[x]).length):(i < l.length/\nth (l++[x]) i=nth l i)\/(i=l.length/\nth (l++[x]) i=x):=by
 simp only[List.length_append,lV,List.length_nil]at h;rcases ft i l.length with hl|hl
 ·exact .inl ⟨hl,RA hl⟩
 ·have:i=l.length:=ae;subst this;exact .inr ⟨rfl,RC⟩
def Cc (s:b9)(r:ew)(t:iz):Prop:=(ue s r.day<=t.ix/\t.ix<=uf s r.day)/\(-s.rd<=t.er/\t.er<=s.rd)/\(s.gl<=t.gr/\t.gr<=s.gh)/\(s.hl<=t.ht/\t.ht<=s.hh)/\(r.al<=t.at_/\t.at_<=r.ah)/\(r.dl<=t.dy/\t.dy<=r.dh)/\(r.wl<=t.wt/\t.wt<=r.wh)
instance(s:b9) (r:ew) (t:iz):Decidable (Cc s r t):=by unfold Cc;infer_instance
structure rm (t:iz):Prop where
 i: -2000<=t.ix/\t.ix<=2000
 e: -200<=t.er/\t.er<=200
 g: -3000<=t.gr/\t.gr<=3000
 h:0<=t.ht/\t.ht<=3000
 a: -300<=t.at_/\t.at_<=500
 d: -300<=t.dy/\t.dy<=500
 w: -300<=t.wt/\t.wt<=500
theorem Zg {s:b9}{r:ew}{t:iz}(hs:fY s)(hr:j8 r)(h:Cc s r t):rm t:=by
 have h1:=afl hs hr.d;have h2:=afm hs hr.d
 have h3:=hs.h;have h4:=hs.g;have h5:=hs.r;have h6:=hr.a;have h7:=hr.y;have h8:=hr.w
 unfold Cc at h;unfold iL at *;constructor<;>omega
def iX (r:ew)(t:iz):Int:=r.iX - t.ix - t.er
def here (r:ew)(t:iz):Int:=HS (iX r t) t.at_ t.gr
def u4 (r:ew)(t:iz):Int:=GD (here r t) t.ht t.dy
def AY (r:ew)(t:iz):Int:=afQ (here r t) t.dy t.wt
theorem Ha {r:ew}{t:iz}(hr:j8 r)(ht:rm t):37800<=iX r t/\iX r t<=92200:=by
 have:=hr.q;have:=ht.i;have:=ht.e;unfold iX;omega
theorem Uv {r:ew}{t:iz}(hr:j8 r)(ht:rm t):36700<=here r t/\here r t<=93000:=agF (Ha hr ht) ht.a ht.g
def AK (e:Int):Prop:=e=1\/e=3\/e=4
instance(e:Int):Decidable (AK e):=by unfold AK;infer_instance
def BE (s:b9)(r:ew)(e:Int):iz:=
 ⟨if AK e then ue s r.day else uf s r.day,if AK e then -s.rd else s.rd,if AK e then s.gh else s.gl,if e=3 then s.hh else s.hl,if AK e then r.al else r.ah,if e=2\/e=4 then r.dh else r.dl,if e=5 then r.wh else r.wl⟩
end Go.Proofs.YtafmfhkplgapjaaGreatDoor
namespace Go.Proofs.YtafmfhkplgapjaaGreatDoor
set_option maxRecDepth 100000
set_option maxHeartbeats 4000000
open Go.Ab
attribute[local irreducible] av dL dY ak aH cY IA ez aP fM
theorem ZW {a b:Int}(hb:0 < b):(yc a b < 0->Cq a b - 1=a / b)/\(¬yc a b < 0->Cq a b=a / b):=by
 have h1:=alM a b;have h2:yc a b < b:=Int.tmod_lt_of_pos a hb;have h3: -b < yc a b:=Int.lt_tmod_of_pos a hb;generalize Cq a b=q at *;generalize yc a b=r at *;subst h1;constructor
 ·intro hr;rw[show b * q + r=(r + b) + (q - 1) * b by rw[Int.sub_mul,OQ b q];omega,alP _ _ ae,alO ae ae];omega
 ·intro hr;rw[show b * q + r=r + q * b by rw[OQ b q];omega,alP _ _ ae,alO ae ae];omega
theorem ZX {a b:Int}(ha: -4000000000000000000<=a/\a<=4000000000000000000)(hb:0 < b): -4000000000000000000<=Cq a b/\Cq a b<=4000000000000000000:=by
 have h:=Int.natAbs_tdiv a b;have h2:a.natAbs / b.natAbs<=a.natAbs:=Nat.div_le_self _ _;have h3:a.natAbs.div b.natAbs=a.natAbs / b.natAbs:=rfl;generalize a.natAbs / b.natAbs=q at *;omega
theorem Ik (a b:Int)(ha: -4000000000000000000<=a/\a<=4000000000000000000)(hb:0 < b/\b<=4000000000000000000):ak aa 351 [i64 a,i64 b] (i64 (a / b)):=by
 have h1:=ZW (a:=a) hb.1;have h2:=ZX ha hb.1;have h3:yc a b < b:=Int.tmod_lt_of_pos a hb.1;have h4: -b < yc a b:=Int.lt_tmod_of_pos a hb.1;refine cT func351 ntmps351 results351 call351 λw0 S0 M0=> ?_;repeat'(first|refine aq ?_|refine au λK hK=> ?_|(intro hg;try exact ai)|exact fin|apply af)
 ·rw[h1.1 hg]
 ·rw[h1.2 hg]
theorem WT {i:Nat}(h:i < 17):38<=nth lE i/\nth lE i<=9251:=by
 have:((ct 17).all λi=>decide (38<=nth lE i/\nth lE i<=9251))=true:=aE;simpa using iD.1 this i (oR.2 h)
theorem alb {i:Nat}(h:i < 16):nth lE i<=nth lE (i + 1):=by
 have:((ct 16).all λi=>decide (nth lE i<=nth lE (i + 1)))=true:=aE;simpa using iD.1 this i (oR.2 h)
abbrev alc:D:= .agg [i64 38,i64 61,i64 96,i64 144,i64 216,i64 316,i64 458,i64 654,i64 921,i64 1279,i64 1753,i64 2376,i64 3182,i64 4218,i64 5532,i64 7188,i64 9251]
theorem Uy:ak aa 361 [] alc:=by
 refine cT func361 ntmps361 results361 call361 λw0 S0 M0=> ?_;repeat'(first|refine aq ?_|refine au λK hK=> ?_|(intro hg;try exact ai)|exact fin|apply af)
theorem WU {n:Nat}{k:D->Prop}:tJ ([D.int .i64 38, .int .i64 61, .int .i64 96, .int .i64 144, .int .i64 216, .int .i64 316, .int .i64 458, .int .i64 654, .int .i64 921, .int .i64 1279, .int .i64 1753, .int .i64 2376, .int .i64 3182, .int .i64 4218, .int .i64 5532, .int .i64 7188, .int .i64 9251].drop n) k=
  (n < 17/\k (.int .i64 (nth lE n))):=by
 have hd:∀(l:List Int) (n:Nat),(tJ ((l.map (D.int .i64)).drop n) k)=(n < l.length/\k (.int .i64 (nth l n))):=by
  intro l;induction l with
  |nil=>intro n;simp[tJ]
  |cons a l ih=>
   intro n;cases n with
   |zero=>simp[tJ,nth]
   |succ n=>
    have:=ih n;simp only[List.map_cons,List.drop_succ_cons,lV,Nat.add_lt_add_iff_right];rw[this];rfl
 exact hd lE n
theorem agf (t:Int)(ht: -300<=t/\t<=500):ak aa 352 [i64 t] (i64 (lF t)):=by
 have e1:Cq (t + 300) 50=(t + 300) / 50:=z_ ae;have e2:yc (t + 300) 50=(t + 300) % 50:=Int.tmod_eq_emod_of_nonneg ae;have e3:((t + 300) / 50 + 1).toNat=((t + 300) / 50).toNat + 1:=ae;have b1:=WT (i:=((t + 300) / 50).toNat) ae;by_cases h0:(t + 300) % 50=0
 ·have e4:lF t=nth lE ((t + 300) / 50).toNat:=by unfold lF;rw[if_pos h0]
  rw[e4];refine cT func352 ntmps352 results352 call352 λw0 S0 M0=> ?_;repeat'(first|refine bh ?_|((first|refine bj λK hK=> ?_|refine bg ?_|show bb _ _ _ _ _|refine bo (Uy) ?_);simp -implicitDefEqProofs only[go_sem,j5,aU,Nat.reduceAdd,Nat.reduceSub,Nat.reduceMul,Nat.reduceLT,Nat.reduceLeDiff,Nat.reduceEqDiff,Nat.reduceBEq,Int.reduceLT,Int.reduceLE,Int.reduceToNat,Int.reduceAdd,Int.reduceSub,Int.reduceMul,Int.reduceNeg,Int.reduceEq,reduceCtorEq,eq_self,ne_eq,not_false_eq_true,if_true,reduceIte,↓WU,e1,e2,fK,Ch])|(intro hg;try exact ai)|exact fin|apply af)
 ·have b2:=WT (i:=((t + 300) / 50).toNat + 1) ae;have b3:=alb (i:=((t + 300) / 50).toNat) ae;have b4:=rM (A:=9251) (B:=50) (a:=nth lE (((t + 300) / 50).toNat + 1) - nth lE ((t + 300) / 50).toNat) (b:=(t + 300) % 50) ae ae ae ae;have e5:=z_ (b:=50) b4.1;have e4:lF t=nth lE ((t + 300) / 50).toNat + (nth lE (((t + 300) / 50).toNat + 1) - nth lE ((t + 300) / 50).toNat) * ((t + 300) % 50) / 50:=by unfold lF;rw[if_neg h0]
  rw[e4];refine cT func352 ntmps352 results352 call352 λw0 S0 M0=> ?_;repeat'(first|refine bh ?_|((first|refine bj λK hK=> ?_|refine bg ?_|show bb _ _ _ _ _|refine bo (Uy) ?_);simp -implicitDefEqProofs only[go_sem,j5,aU,Nat.reduceAdd,Nat.reduceSub,Nat.reduceMul,Nat.reduceLT,Nat.reduceLeDiff,Nat.reduceEqDiff,Nat.reduceBEq,Int.reduceLT,Int.reduceLE,Int.reduceToNat,Int.reduceAdd,Int.reduceSub,Int.reduceMul,Int.reduceNeg,Int.reduceEq,reduceCtorEq,eq_self,ne_eq,not_false_eq_true,if_true,reduceIte,↓WU,e1,e2,e3,e5,fK,Ch])|(intro hg;try exact ai)|exact fin|apply af)
abbrev vL (r:ew)(t:iz):D:= .agg [i64 t.ix,i64 t.er,i64 t.gr,i64 t.ht,i64 t.at_,i64 t.dy,i64 t.wt,i64 r.iX]
theorem ajX (r:ew)(hr:j8 r)(t:iz)(ht:rm t)(n:Int):ak aa 348 [vL r t,i64 n] (i64 (iX r t)):=by
 have b0:=Ha hr ht;have hq:=hr.q;have h1:=ht.i;have h2:=ht.e
 refine cT func348 ntmps348 results348 call348 λw0 S0 M0=> ?_;repeat'(first|refine aq ?_|refine au λK hK=> ?_|(intro hg;try exact ai)|exact fin|apply af)
 rfl
theorem agH (r:ew)(hr:j8 r)(t:iz)(ht:rm t):ak aa 349 [vL r t,i64 (iX r t)] (i64 (s6 (iX r t) t.at_)):=by
 have b0:=Ha hr ht;have b1:=Mo b0 ht.a;unfold s6 at *;refine cT func349 ntmps349 results349 call349 λw0 S0 M0=> ?_;repeat'(first|refine aq ?_|refine au λK hK=> ?_|refine cA (Ik _ _ ae ae) ?_|(intro hg;try exact ai)|exact fin|apply af)
theorem YE (r:ew)(hr:j8 r)(t:iz)(ht:rm t):ak aa 350 [vL r t,i64 (s6 (iX r t) t.at_)] (i64 (here r t)):=by
 have b0:=Ha hr ht;have b1:=Mo b0 ht.a;have b2:=Uw b1.2 ht.g;unfold here HS El at *;refine cT func350 ntmps350 results350 call350 λw0 S0 M0=> ?_;repeat'(first|refine aq ?_|refine au λK hK=> ?_|refine cA (Ik _ _ ae ae) ?_|(intro hg;try exact ai)|exact fin|apply af)
def xo (r:ew)(t:iz):Nat->Int
 |0=>0
 |1=>iX r t
 |2=>s6 (iX r t) t.at_
 |_=>here r t
theorem ahh (r:ew)(hr:j8 r)(t:iz)(ht:rm t):ak aa 324 [vL r t] (i64 (here r t)):=by
 refine cT func324 ntmps324 results324 call324 λw0 S0 M0=> ?_;repeat'(first|refine bh ?_|((first|refine bj λK hK=> ?_|refine bg ?_|show bb _ _ _ _ _);(refine sX (af @fb (af @fe (@sA))) ?_))|(intro hg;try exact ai)|exact fin|apply af)
 refine dn (ι:=Nat) (λj=>[(3,i64 (xo r t j)),(12, .agg [.cL 348 [vL r t], .cL 349 [vL r t], .cL 350 [vL r t]]),(13,i64 j)]) (λ_=>[]) (λ_=>[])
  (λj=>j<=3) (λj=>3 - j) (λj _=>⟨rfl,rfl⟩) 0 (bD _) (br rfl (by try refine sX (af @fb (af @fe (@sA))) ?_;try simp[xo]) ⟨_,rfl⟩ ⟨_,rfl⟩) (λj hj=> ?_)
 match j,hj with
 |0,_=>
  refine sX (af @fb (af @fe (@sA))) ?_;repeat'(first|refine bh ?_|((first|refine bj λK hK=> ?_|refine bg ?_|show bb _ _ _ _ _|refine bo (ajX r hr t ht _) ?_);(refine sX (af @fb (af @fe (@sA))) ?_))|(intro hg;try exact ai)|exact fin|apply af)
  exact⟨1,ae,ae,br rfl (by try refine sX (af @fb (af @fe (@sA))) ?_;try simp[xo]) ⟨_,rfl⟩ ⟨_,rfl⟩⟩
 |1,_=>
  simp only[xo];refine sX (af @fb (af @fe (@sA))) ?_;repeat'(first|refine bh ?_|((first|refine bj λK hK=> ?_|refine bg ?_|show bb _ _ _ _ _|refine bo (agH r hr t ht) ?_);(refine sX (af @fb (af @fe (@sA))) ?_))|(intro hg;try exact ai)|exact fin|apply af)
  exact⟨2,ae,ae,br rfl (by try refine sX (af @fb (af @fe (@sA))) ?_;try simp[xo]) ⟨_,rfl⟩ ⟨_,rfl⟩⟩
 |2,_=>
  simp only[xo];refine sX (af @fb (af @fe (@sA))) ?_;repeat'(first|refine bh ?_|((first|refine bj λK hK=> ?_|refine bg ?_|show bb _ _ _ _ _|refine bo (YE r hr t ht) ?_);(refine sX (af @fb (af @fe (@sA))) ?_))|(intro hg;try exact ai)|exact fin|apply af)
  exact⟨3,ae,ae,br rfl (by try refine sX (af @fb (af @fe (@sA))) ?_;try simp[xo]) ⟨_,rfl⟩ ⟨_,rfl⟩⟩
 |3,_=>
  simp only[xo];refine sX (af @fb (af @fe (@sA))) ?_;repeat'(first|refine bh ?_|((first|refine bj λK hK=> ?_|refine bg ?_|show bb _ _ _ _ _);(refine sX (af @fb (af @fe (@sA))) ?_))|(intro hg;try exact ai)|exact fin|apply af)
abbrev yl (r:ew)(t:iz):D:= .agg [i64 (here r t),i64 (u4 r t),i64 (AY r t)]
section
variable (r:ew) (t:iz)
theorem Vx:r.iX - t.ix - t.er=iX r t:=rfl
theorem VA:iX r t - iX r t * t.at_ * 163 / 10000000=s6 (iX r t) t.at_:=rfl
theorem Vz:s6 (iX r t) t.at_ + s6 (iX r t) t.at_ * t.gr / 1000000=here r t:=rfl
theorem Vw:here r t + here r t * t.ht * 10 / (79900 + 29 * t.dy)=u4 r t:=rfl
theorem Vv:max 0 (lF (min t.wt t.dy) - here r t * (t.dy - min t.wt t.dy) * 8 / 100000)=Aj (here r t) t.dy t.wt:=rfl
theorem Vy:100 * Aj (here r t) t.dy t.wt / lF t.dy=AY r t:=rfl
end
theorem ahb (r:ew)(hr:j8 r)(t:iz)(ht:rm t):ak aa 325 [vL r t,i64 (here r t)] (i64 (u4 r t)):=by
 have b3:=Uv hr ht;have b4:=abp b3 ht.h ht.d;have b8:36700<=u4 r t/\u4 r t<=3000000000:=by unfold u4;omega
 have h4:=ht.h;have h6:=ht.d
 refine cT func325 ntmps325 results325 call325 λw0 S0 M0=> ?_;repeat'(first|refine bh ?_|((first|refine bj λK hK=> ?_|refine bg ?_|show bb _ _ _ _ _|refine bo (Ik _ _ ae ae) ?_);(refine sX (af @Vx (af @VA (af @Vz (af @Vw (af @Vv (@Vy)))))) ?_))|(intro hg;try exact ai)|exact fin|apply af)
theorem ahg (r:ew)(hr:j8 r)(t:iz)(ht:rm t):ak aa 326 [vL r t,i64 (here r t)] (i64 (AY r t)):=by
 have b3:=Uv hr ht;have b5:=YM b3 ht.d ht.w;have b6:=IX ht.d;have b7:=IX (t:=min t.wt t.dy) (by have:=ht.d;have:=ht.w;omega);have h6:=ht.d;have h7:=ht.w
 refine cT func326 ntmps326 results326 call326 λw0 S0 M0=> ?_;repeat'(first|refine bh ?_|((first|refine bj λK hK=> ?_|refine bg ?_|show bb _ _ _ _ _|refine bo (Ss _ _) ?_|refine bo (MY _ _) ?_|refine bo (Ik _ _ ae ae) ?_|refine bo (agf _ ae) ?_);(refine sX (af @Vx (af @VA (af @Vz (af @Vw (af @Vv (@Vy)))))) ?_))|(intro hg;try exact ai)|exact fin|apply af)
theorem YF (r:ew)(hr:j8 r)(t:iz)(ht:rm t):ak aa 309 [sK r,CH t] (yl r t):=by
 refine cT func309 ntmps309 results309 call309 λw0 S0 M0=> ?_;repeat'(first|refine aq ?_|refine au λK hK=> ?_|refine cA (ahh r hr t ht) ?_|refine cA (ahb r hr t ht) ?_|refine cA (ahg r hr t ht) ?_|(intro hg;try exact ai)|exact fin|apply af)
noncomputable def pF (s:b9)(fine:Prop)[Decidable fine]:Int:=if fY s/\fine then(if lI s then 0 else 7)else 2
section
variable {s:b9} {fine:Prop} [Decidable fine]
theorem ahT (h:¬(fY s/\fine)):pF s fine=2:=by unfold pF;rw[if_neg h]
theorem ahS (h:fY s/\fine)(hc:¬lI s):pF s fine=7:=by unfold pF;rw[if_pos h,if_neg hc]
theorem VF (h:fY s/\fine)(hc:lI s):pF s fine=0:=by unfold pF;rw[if_pos h,if_pos hc]
theorem akW (hl:s.ck.length<=9223372036854775807):ak aa 114 [jO s, .bool (decide fine)] (.aF [if pF s fine=0 then stM s else tY,i64 (pF s fine)]):=by
 by_cases h:fY s/\fine
 ·by_cases hc:lI s
  ·rw[VF h hc,decide_eq_true h.2];exact WV s h.1 hc
  ·rw[ahS h hc,decide_eq_true h.2];exact ald s h.1 hc
 ·rw[ahT h];exact ale s hl _ (by simpa using h)
theorem ahR (h:pF s fine=0):(fY s/\fine)/\lI s:=by
 unfold pF at h;split at h
 ·split at h
  ·exact⟨‹_›,‹_›⟩
  ·omega
 ·omega
end
abbrev tZ:D:= .val (.slice none 0 0)
abbrev jt (s:aJ):List D:=[i64 s.wd,i64 s.rw,i64 s.sl,tZ]
theorem VR (s:aJ):ak aa 31 [ji s] (.agg (jt s)):=by
 refine cT func31 ntmps31 results31 call31 λw0 S0 M0=> ?_;repeat'(first|refine aq ?_|refine au λK hK=> ?_|(intro hg;try exact ai)|exact fin|apply af)
 all_goals first|rfl|skip
theorem akp (W R:Nat)(sl:Int)(S:List aS)(h:dB W R sl S):ak aa 77 [.agg (cx W R sl S)] (i64 0):=by
 have c1:=Iz W R sl S h;refine cT func77 ntmps77 results77 call77 λw0 S0 M0=> ?_;repeat'(first|refine aq ?_|refine au λK hK=> ?_|refine cA (c1) ?_|(intro hg;try exact ai)|exact fin|apply af)
 all_goals first|rfl|skip
theorem alS (a b c:D):j9 (.agg [a,b,c,tZ]) (.agg [a,b,c, .list []]):=j9.agg rfl (λq d' hd=>by
 match q,hd with
 |0,hd=>cases hd;exact⟨_,rfl,j9.refl _⟩
 |1,hd=>cases hd;exact⟨_,rfl,j9.refl _⟩
 |2,hd=>cases hd;exact⟨_,rfl,j9.refl _⟩
 |3,hd=>cases hd;exact⟨_,rfl,j9.nil⟩)
theorem aja (s:aJ)(h:oN s):ak aa 77 [.agg (jt s)] (i64 0):=by
 obtain⟨h1,h2,h3⟩:=h;obtain⟨W,hW⟩:∃W:Nat,s.wd=W:=⟨s.wd.toNat,ae⟩;obtain⟨R,hR⟩:∃R:Nat,s.rw=R:=⟨s.rw.toNat,ae⟩;have:ak aa 77 [.agg [i64 W,i64 R,i64 s.sl, .list []]] (i64 0):=akp W R s.sl [] ⟨ae,ae,h3,by simp,λi hi=>by simp at hi⟩;rw[<-hW,<-hR]at this;exact this.le rfl (λq x' hx=>by
  match q,hx with
  |0,hx=>cases hx;exact⟨_,rfl,alS _ _ _⟩)
theorem abq (c:Int)(W:List Int)(h:Sc.so c W []):ak aa 79 [.agg [i64 c,ints W,tZ]] (i64 0):=by
 have:=Sc.adp c W [];rw[if_pos h]at this;exact this.le rfl (λq x' hx=>by
  match q,hx with
  |0,hx=>
   cases hx;refine⟨_,rfl,j9.agg rfl (λq d' hd=> ?_)⟩
   match q,hd with
   |0,hd=>cases hd;exact⟨_,rfl,j9.refl _⟩
   |1,hd=>cases hd;exact⟨_,rfl,j9.refl _⟩
   |2,hd=>cases hd;exact⟨_,rfl,j9.nil⟩)
theorem ads (a b c:Int)(h:Sc.ss a b c):∃n,ak aa 75 [.agg [i64 a,i64 b,i64 c],i64 0] (.aF [i64 n,i64 0]):=by
 have:=Sc.adq a b c 0;rw[if_pos ⟨h,ae,ae⟩]at this;exact⟨_,this⟩
theorem ahf (x:b9)(hs:fY x)(hc:lI x):ak aa 80 [jO x,i64 0] (.aF [sI (ue x 0) (uf x 0),i64 0]):=by
 have c1:ak aa 115 [i64 0,i64 0,i64 400] (.bool true):=Ig 0 0 400;have c2:=WV x hs hc;have c3:=S8 x hs 0 ae;refine cT func80 ntmps80 results80 call80 λw0 S0 M0=> ?_;repeat'(first|refine aq ?_|((first|(show av _ (.region 1 _ true) _ _;refine xP [(2,6)] Tryz.ty.mixed ax λK hK=> ?_)|show Sep _ _);refine aj ?_)|refine au λK hK=> ?_|refine cA (c1) ?_|refine cA (c2) ?_|refine cA (c3) ?_|(intro hg;try exact ai)|exact fin|apply af)
 all_goals first|rfl|skip
theorem aj' (s:aJ)(h:kJ s):ak aa 29 [ji s] (i64 0):=by
 obtain⟨h1,h2,h3,h4,h5,h6,h7,h8,h9⟩:=h;obtain⟨pn,c1⟩:=ads s.pb s.pr s.pl h9;have c2:=Pn s.to s.tf s.tm h6 0 1 ae ae;have c3:=YG s.fl s.tu s.mo h5;have c4:=VR s;have c5:=aja s h3;have c6:=ajZ s.w h7;have c7:=abq s.cl s.wt h8;have c8:=KS (s.aL.length:Int) 1 3 ae;have c9:=KS s.dy 1 4 h2;have m1:0<=s.wd * s.rw/\s.wd * s.rw<=6 * 5:=rM (by have:=h3.1;omega) h3.1.2 (by have:=h3.2.1;omega) h3.2.1.2;generalize ox s.to s.tf s.tm 0 1=cn at c2;refine cT func29 ntmps29 results29 call29 λw0 S0 M0=> ?_;repeat'(first|refine aq ?_|refine au λK hK=> ?_|refine cA (c1) ?_|refine cA (c2) ?_|refine cA (c3) ?_|refine cA (c4) ?_|refine cA (c5) ?_|refine cA (c6) ?_|refine cA (c7) ?_|(intro hg;try exact ai)|exact fin|apply af)
 refine sn 7 ?_;repeat'(first|(refine sJ ?_)|refine aq ?_|refine au λK hK=> ?_|refine cA (c8) ?_|refine cA (c9) ?_|(intro hg;try exact ai)|exact fin|apply af)
 all_goals first|rfl|skip
 refine dn (ι:=Nat) (λj=>[(1, .box 0 0),(61, .list (s.aL.map mF)),(62,i64 s.aL.length),(63,i64 j)]) (λ_=>[.mu (eb s)]) (λ_=>[])
  (λj=>j<=s.aL.length) (λj=>s.aL.length - j) (λ_ _=>⟨rfl,rfl⟩) 0 (bD _) bY (λj hj=> ?_)
 have d1:=λhj=>ahf (nth s.aL j).1 (h4 j hj).2.1 (h4 j hj).2.2;have d2:=λhj=>KS (nth s.aL j).2 0 (s.wd * s.rw - 1) (h4 j hj).1;refine aj ?_;repeat'(first|refine aq ?_|refine au λK hK=> ?_|refine cA (d1 ae) ?_|refine cA (d2 ae) ?_|(intro hg;try exact ai)|exact fin|apply af)
 all_goals first|(exact⟨j + 1,ae,ae,bY⟩)|rfl|skip
end Go.Proofs.YtafmfhkplgapjaaGreatDoor
namespace Go.Ab
open Go.RowKit Go
def uE (c:Ctx)(t:TypeId)(x:Operand)(dst:Option Tmp)(N:St->Prop)(s1:St):Prop:=
 bd s1 dst/\a_ (elemOf c.P t) λe=>aC c.P e≠0/\(bL c.P e).isSome=true/\∃ys,s1.ev x= .list ys/\(∀y∈ys,y.cells.length=aC c.P e)/\ys.length<=9223372036854775807/\ys.length * bytesOf c.P e<=140737488355328/\
  N (St.put (St.appended {s1 with rw:=s1.rw++[⟨true,e,aC c.P e,[]⟩]} s1.rw.length ⟨true,e,aC c.P e,ys⟩) dst (.own s1.rw.length))
theorem aP.xF {c:Ctx}{s:St}{K:St->Prop}{t ty:TypeId}{x:Operand}{dst:Option Tmp}{pos:String}{aft:Array Edge}(h:uE c t x dst K s):
  aP c ⟨dst, .call ⟨.builtin .append,#[.const (.slice none 0 0),x],#[t,t]⟩,ty,pos,aft,none⟩ s K:=by
 obtain⟨hd,h⟩:=h;obtain⟨e,he,hz,mW,ys,hx,lg,jI,hb,hk⟩:=cM h;rintro a w N' Q' ⟨g,hg⟩ hN;refine gK (by intro cl h;cases h) ?_;unfold Oper.wp;have h0:=hg.C_ e (aC c.P e);have hr:(s.rw++[(⟨true,e,aC c.P e,[]⟩:Row)])[s.rw.length]? =some ⟨true,e,aC c.P e,[]⟩:=by simp
 have hv:(g.ρ++[uG none 0 0])[s.rw.length]? =some (.slice none 0 0):=by rw[<-hg.lρ];simp
 have hyx:=h0.ev x;have hex:(⟨s.n,s.sl,s.bx,s.rw++[⟨true,e,aC c.P e,[]⟩]⟩:St).ev x= .list ys:=by
  have:(⟨s.n,s.sl,s.bx,s.rw++[⟨true,e,aC c.P e,[]⟩]⟩:St).ev x=s.ev x:=by cases x<;>rfl
  rw[this];exact hx
 have afN:Rel w ⟨g.S,g.β,g.ρ++[.slice none 0 0],g.M⟩ (a.eval x) (.list ys):=hex▸hyx;obtain⟨v',w',g',aV,gQ,n4⟩:=h0.append (ty:=ty) hr rfl hv afN he rfl hz mW lg (by simpa using jI) (by simpa using hb);have rX:a.eval (.const (.slice none 0 0))= .slice none 0 0:=rfl;have af1:(execOp a.eval ⟨dst, .call ⟨.builtin .append,#[.const (.slice none 0 0),x],#[t,t]⟩,ty,pos,aft,none⟩).run c.P w= .ok (.value v') w':=by
  simp[execOp,resolve,invoke,builtin,rX,aV]
 rw[af1];exact hN _ _ _ ⟨g',gQ.put (by cases dst<;>first|exact trivial|exact hd) (.own _ _ _ n4)⟩ (by simpa using hk)
theorem xM {c:Ctx}{t:TypeId}{x:Operand}{dst:Option Tmp}{N:St->Prop}{s1:St}(e:TypeId)(k b:Nat)(ys:List D)(hd:bd s1 dst)(he:elemOf c.P t=some e)(hk:aC c.P e=k)(hb:bytesOf c.P e=b)(mW:(bL c.P e).isSome=true)
  (hx:s1.ev x= .list ys)(vr:k≠0)(iH:b<=1000)(lg:∀y∈ys,y.cells.length=k)(hl:ys.length<=1000000)
  (h:N (St.put (St.appended {s1 with rw:=s1.rw++[⟨true,e,k,[]⟩]} s1.rw.length ⟨true,e,k,ys⟩) dst (.own s1.rw.length))):uE c t x dst N s1:=by
 subst hk;subst hb
 refine⟨hd, ?_⟩;rw[he];refine⟨vr,mW,ys,hx,lg,ae,Nat.le_trans (Nat.mul_le_mul hl iH) aE,h⟩
end Go.Ab
namespace Go.Proofs.YtafmfhkplgapjaaGreatDoor
set_option maxRecDepth 100000
set_option maxHeartbeats 4000000
open Go.Ab
attribute[local irreducible] av dL dY ak aH IA ez
theorem VL (l:List (Int))(hl:l.length<=1000000):ak aa 84 [.list (l.map (D.int .i64))] (.list (l.map (D.int .i64))):=by
 refine cT func84 ntmps84 results84 call84 λw0 S0 M0=> ?_;repeat'(first|(show av _ (.region 1 _ _) _ _;refine oK 1 (uE _ 24 (.tmp 3) (some 4)) (λ_ _ h=>aP.xF h) rfl rfl (λK1 aA=> ?_);refine aj ?_)|(refine aA _ (xM 3 1 8 (l.map (D.int .i64)) (bC rfl) ax ax ax ax rfl aE aE (λx hx=>by obtain⟨y,_,rfl⟩:=eJ.1 hx;rfl) (by rw[iB];omega) ?_);clear aA K1;simp only[aU,Nat.reduceAdd];refine aj ?_)|refine aq ?_|refine au λK hK=> ?_|(intro hg;try exact ai)|exact fin|apply af)
 all_goals first|rfl|skip
theorem aiO (l:List (Ck))(hl:l.length<=1000000):ak aa 82 [.list (l.map (mE))] (.list (l.map (mE))):=by
 refine cT func82 ntmps82 results82 call82 λw0 S0 M0=> ?_;repeat'(first|(show av _ (.region 1 _ _) _ _;refine oK 1 (uE _ 59 (.tmp 3) (some 4)) (λ_ _ h=>aP.xF h) rfl rfl (λK1 aA=> ?_);refine aj ?_)|(refine aA _ (xM 114 3 24 (l.map (mE)) (bC rfl) ax ax ax ax rfl aE aE (λx hx=>by obtain⟨y,_,rfl⟩:=eJ.1 hx;rfl) (by rw[iB];omega) ?_);clear aA K1;simp only[aU,Nat.reduceAdd];refine aj ?_)|refine aq ?_|refine au λK hK=> ?_|(intro hg;try exact ai)|exact fin|apply af)
 all_goals first|rfl|skip
theorem aiK (l:List (Int×Int))(hl:l.length<=1000000):ak aa 83 [.list (l.map (kd))] (.list (l.map (kd))):=by
 refine cT func83 ntmps83 results83 call83 λw0 S0 M0=> ?_;repeat'(first|(show av _ (.region 1 _ _) _ _;refine oK 1 (uE _ 23 (.tmp 3) (some 4)) (λ_ _ h=>aP.xF h) rfl rfl (λK1 aA=> ?_);refine aj ?_)|(refine aA _ (xM 49 2 16 (l.map (kd)) (bC rfl) ax ax ax ax rfl aE aE (λx hx=>by obtain⟨y,_,rfl⟩:=eJ.1 hx;rfl) (by rw[iB];omega) ?_);clear aA K1;simp only[aU,Nat.reduceAdd];refine aj ?_)|refine aq ?_|refine au λK hK=> ?_|(intro hg;try exact ai)|exact fin|apply af)
 all_goals first|rfl|skip
theorem aiL (l:List (qC))(hl:l.length<=1000000):ak aa 85 [.list (l.map (mP))] (.list (l.map (mP))):=by
 refine cT func85 ntmps85 results85 call85 λw0 S0 M0=> ?_;repeat'(first|(show av _ (.region 1 _ _) _ _;refine oK 1 (uE _ 29 (.tmp 3) (some 4)) (λ_ _ h=>aP.xF h) rfl rfl (λK1 aA=> ?_);refine aj ?_)|(refine aA _ (xM 119 7 56 (l.map (mP)) (bC rfl) ax ax ax ax rfl aE aE (λx hx=>by obtain⟨y,_,rfl⟩:=eJ.1 hx;rfl) (by rw[iB];omega) ?_);clear aA K1;simp only[aU,Nat.reduceAdd];refine aj ?_)|refine aq ?_|refine au λK hK=> ?_|(intro hg;try exact ai)|exact fin|apply af)
 all_goals first|rfl|skip
theorem aiN (l:List (qE))(hl:l.length<=1000000):ak aa 86 [.list (l.map (mU))] (.list (l.map (mU))):=by
 refine cT func86 ntmps86 results86 call86 λw0 S0 M0=> ?_;repeat'(first|(show av _ (.region 1 _ _) _ _;refine oK 1 (uE _ 30 (.tmp 3) (some 4)) (λ_ _ h=>aP.xF h) rfl rfl (λK1 aA=> ?_);refine aj ?_)|(refine aA _ (xM 123 3 24 (l.map (mU)) (bC rfl) ax ax ax ax rfl aE aE (λx hx=>by obtain⟨y,_,rfl⟩:=eJ.1 hx;rfl) (by rw[iB];omega) ?_);clear aA K1;simp only[aU,Nat.reduceAdd];refine aj ?_)|refine aq ?_|refine au λK hK=> ?_|(intro hg;try exact ai)|exact fin|apply af)
 all_goals first|rfl|skip
theorem aiM (l:List (qD))(hl:l.length<=1000000):ak aa 87 [.list (l.map (mS))] (.list (l.map (mS))):=by
 refine cT func87 ntmps87 results87 call87 λw0 S0 M0=> ?_;repeat'(first|(show av _ (.region 1 _ _) _ _;refine oK 1 (uE _ 31 (.tmp 3) (some 4)) (λ_ _ h=>aP.xF h) rfl rfl (λK1 aA=> ?_);refine aj ?_)|(refine aA _ (xM 125 4 32 (l.map (mS)) (bC rfl) ax ax ax ax rfl aE aE (λx hx=>by obtain⟨y,_,rfl⟩:=eJ.1 hx;rfl) (by rw[iB];omega) ?_);clear aA K1;simp only[aU,Nat.reduceAdd];refine aj ?_)|refine aq ?_|refine au λK hK=> ?_|(intro hg;try exact ai)|exact fin|apply af)
 all_goals first|rfl|skip
end Go.Proofs.YtafmfhkplgapjaaGreatDoor
