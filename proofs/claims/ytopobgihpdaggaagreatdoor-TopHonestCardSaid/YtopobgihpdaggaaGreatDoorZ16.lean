import Derived.Test.YtopobgihpdaggaaGreatDoorZ15
set_option linter.unusedVariables false
set_option linter.unusedSimpArgs false
open And renaming intro->ai
open Bool renaming false_eq_true->cJ,not_eq_true->Tr
open Int renaming mul_le_mul_of_nonneg_left->ub,mul_le_mul_of_nonneg_right->Cq,tdiv_eq_ediv_of_nonneg->xP
open Nat renaming not_lt_zero->fD,zero_le->cv
open Go.Proofs.Tryz renaming prog->ae
open Go.Proofs.Tryz
namespace Go.Proofs.YtopobgihpdaggaaGreatDoor.Sc
open Go.Ab
def gy (l:List Int):Prop:=(∀i,i < l.length->0<=nth l i/\nth l i<=100)/\2<=l.length/\l.length<=3/\dP (nth l) l.length=100
instance(l:List Int):Decidable (gy l):=by unfold gy;infer_instance
def Step (n:Int):Prop:=1<=n/\n<=100/\(100:Int) % n=0
instance(n:Int):Decidable (Step n):=by unfold Step;infer_instance
def uv (l:List Int):Int:=dP (λi=>nth l i * nth l i) l.length
def Gn (l:List Int)(k:Nat):Int:=200 * nth l k - uv l
def Hp (b l:List Int):Int:=dP (λk=>nth b k * Gn l k) b.length
def Small (l:List Int):Prop:=l.length<=3/\∀i:Nat,0<=nth l i/\nth l i<=100
theorem kv {a b A B:Int}(h0:0<=a)(h1:a<=A)(h2:0<=b)(h3:b<=B):0<=a * b/\a * b<=A * B:=by
 refine⟨Int.mul_nonneg h0 h2, ?_⟩;exact Int.le_trans (Cq h1 h2) (ub h3 ag)
theorem v8 {a b A B:Int}(h0:0<=a)(h1:a<=A)(h2: -B<=b)(h3:b<=B): -(A * B)<=a * b/\a * b<=A * B:=by
 have hB:0<=B:=ag;constructor
 ·have e1:a * (-B)<=a * b:=ub h2 h0;have e2:a * B<=A * B:=Cq h1 hB;have e3:a * (-B)= -(a * B):=Int.mul_neg a B;omega
 ·exact Int.le_trans (ub h3 h0) (Cq h1 hB)
theorem Small.Ns {l:List Int}(h:Small l)(j:Nat):0<=dP (λi=>nth l i * nth l i) j/\dP (λi=>nth l i * nth l i) j<=10000 * j:=by
 have:=ye (f:=λi=>nth l i * nth l i) (lo:=0) (hi:=10000) j (λi _=>by have:=h.2 i;have:=kv this.1 this.2 this.1 this.2;omega);omega
theorem OL (l:List Int)(i:Nat)(h:l.length<=i):nth l i=0:=by simp[nth,h]
theorem gy.small {l:List Int}(h:gy l):Small l:=⟨h.2.2.1,λi=>by
 by_cases hi:i < l.length
 ·exact h.1 i hi
 ·rw[OL l i ag];decide⟩
theorem xV {l:List Int}(h:Small l)(k:Nat): -30000<=Gn l k/\Gn l k<=20000:=by
 have h1:=h.Ns l.length;have h2:=h.2 k;have h3:=h.1;unfold Gn uv;omega
def F2 (base CY least AA:Int):Int:=max least (base + (CY * AA) / 10000)
def qb (base CY least:Int):Prop:=(0<=base/\base<=100000)/\(0<=least/\least<=100000)/\0<=CY/\CY<=1000
instance(a b c:Int):Decidable (qb a b c):=by unfold qb;infer_instance
def before:List Int->List Int->Bool
 |[],b=>decide (0 < b.length)
 |_::_,[]=>false
 |x::a,y::b=>if x=y then before a b else decide (x < y)
end Go.Proofs.YtopobgihpdaggaaGreatDoor.Sc
namespace Go.Proofs.YtopobgihpdaggaaGreatDoor.Sc
set_option maxRecDepth 100000
set_option maxHeartbeats 4000000
open Go.Ab
attribute[local irreducible] az dI dR ax
theorem qm (n lo hi:Int):ax ae 71 [i64 n,i64 lo,i64 hi] (.bool (decide (lo<=n/\n<=hi))):=by
 refine aR func71 ntmps71 results71 call71 rfl ay λw0 S0 M0=> ?_;repeat'(first|refine aB ?_|refine aC λK hK=> ?_|(refine kA ?_;clear hK K)|(intro hg;try exact aw)|exact fin|apply ai)
 all_goals(refine gi ?_;simp only[decide_eq_true_eq,cJ,false_iff,iff_false,true_iff,iff_true];omega)
theorem YT (l:List Int)(h:Small l):ax ae 74 [ints l] (i64 (dP (nth l) l.length)):=by
 refine aR func74 ntmps74 results74 call74 rfl ay λw0 S0 M0=> ?_;repeat'(first|refine aB ?_|refine aC λK hK=> ?_|(refine kA ?_;clear hK K)|(intro hg;try exact aw)|exact fin|apply ai)
 refine dH (ι:=Nat) (λj=>[(0,ints l),(3,i64 (dP (nth l) j)),(6,ints l),(7,i64 l.length),(8,i64 j)]) (λ_=>[]) (λ_=>[])
  (λj=>j<=l.length) (λj=>l.length - j) (λ_ _=>⟨rfl,rfl⟩) 0 (cv _) (aV rfl (by try(refine fZ ?_;try exact trivial);try simp[dP]) ⟨_,rfl⟩ ⟨_,rfl⟩) (λj hj=> ?_)
 have h1:=ye (f:=nth l) (lo:=0) (hi:=100) j (λi _=>h.2 i);have h2:=h.2 j;have h4:=h.1
 (refine fZ ?_;try exact trivial)
 repeat'(first|refine aB ?_|refine aC λK hK=> ?_|(refine kA ?_;clear hK K)|(intro hg;try exact aw)|exact fin|apply ai)
 ·exact⟨j + 1,ag,ag,aV rfl (by try(refine fZ ?_;try exact trivial);try simp[dP]) ⟨_,rfl⟩ ⟨_,rfl⟩⟩
 ·obtain rfl:j=l.length:=ag;rfl
theorem YV (n:Int):ax ae 73 [i64 n] (.bool (!decide (0<=n/\n<=100))):=by
 refine aR func73 ntmps73 results73 call73 rfl ay λw0 S0 M0=> ?_;repeat'(first|refine aB ?_|refine aC λK hK=> ?_|(refine kA ?_;clear hK K)|(refine bl (qm _ _ _) ?_;try refine fZ ?_)|(intro hg;try exact aw)|exact fin|apply ai)
theorem aa_ (l:List Int)(gf:FuncId)(cs:List D)(aE:Cl cs)(p:Int->Bool)(hl:l.length<=9223372036854775807)(hp:∀i,i < l.length->ax ae gf (i64 (nth l i)::cs) (.bool (p (nth l i)))):ax ae 106 [ints l, .aD gf cs] (i64 (o9 p l)):=by
 refine aR func106 ntmps106 results106 call106 rfl ay λw0 S0 M0=> ?_;repeat'(first|refine bK ?_|((first|refine bL λK hK=> ?_|refine bI ?_);(refine gG (ai @aE.1 (@aE.2)) ?_;try exact trivial))|(refine kA ?_;clear hK K)|(show bC _ _ _ _ _;(refine gG (ai @aE.1 (@aE.2)) ?_;try exact trivial))|(intro hg;try exact aw)|exact fin|apply ai)
 refine dH (ι:=Nat) (λj=>[(0,ints l),(1, .aD gf cs),(6,ints l),(7,i64 l.length),(8,i64 j)]) (λ_=>[]) (λ_=>[])
  (λj=>j<=l.length/\∀i,i < j->p (nth l i)=false) (λj=>l.length - j) (λ_ _=>⟨by simp[dA,db,aE.names],rfl⟩) 0 ⟨cv _,λi h=>absurd h (fD i)⟩ (aV rfl (by try(refine gG (ai @aE.1 (@aE.2)) ?_;try exact trivial);try simp) ⟨_,rfl⟩ ⟨_,rfl⟩) (λj ⟨hj,hi⟩=> ?_)
 (refine gG (ai @aE.1 (@aE.2)) ?_;try exact trivial)
 repeat'(first|refine bK ?_|((first|refine bL λK hK=> ?_|refine bI ?_);(refine gG (ai @aE.1 (@aE.2)) ?_;try exact trivial))|(refine kA ?_;clear hK K)|(refine bl (hp j ag) ?_;try(refine gG (ai @aE.1 (@aE.2)) ?_;try exact trivial))|(show bC _ _ _ _ _;(refine gG (ai @aE.1 (@aE.2)) ?_;try exact trivial))|(intro hg;try exact aw)|exact fin|apply ai)
 ·congr 1;exact(wV ag hi hg).symm
 ·refine⟨j + 1,⟨ag,λi h=> ?_⟩,ag,aV rfl (by try(refine gG (ai @aE.1 (@aE.2)) ?_;try exact trivial);try simp) ⟨_,rfl⟩ ⟨_,rfl⟩⟩;by_cases h9:i=j
  ·rw[h9];exact hg
  ·exact hi i ag
 ·congr 1;exact(wW λi h=>hi i ag).symm
theorem Ei (l:List Int)(gf:FuncId)(cs:List D)(aE:Cl cs)(p:Int->Bool)(hl:l.length<=9223372036854775807)(hp:∀i,i < l.length->ax ae gf (i64 (nth l i)::cs) (.bool (p (nth l i)))):ax ae 72 [ints l, .aD gf cs] (.bool (l.any p)):=by
 refine aR func72 ntmps72 results72 call72 rfl ay λw0 S0 M0=> ?_;repeat'(first|refine bK ?_|((first|refine bL λK hK=> ?_|refine bI ?_);(refine gG (ai @aE.1 (@aE.2)) ?_;try exact trivial))|(refine kA ?_;clear hK K)|(refine bl (aa_ l gf cs aE p hl hp) ?_;try(refine gG (ai @aE.1 (@aE.2)) ?_;try exact trivial))|(show bC _ _ _ _ _;(refine gG (ai @aE.1 (@aE.2)) ?_;try exact trivial))|(intro hg;try exact aw)|exact fin|apply ai)
 ·rw[wX]
theorem Y6 (l:List Int):gy l↔(2<=l.length/\l.length<=3)/\l.any (λn=> !decide (0<=n/\n<=100))=false/\dP (nth l) l.length=100:=by
 have:l.any (λn=> !decide (0<=n/\n<=100))=false↔∀i,i < l.length->0<=nth l i/\nth l i<=100:=by
  rw[<-Tr,Es];constructor
  ·intro h i hi;have:=λh'=>h ⟨i,hi,h'⟩;simpa using this
  ·rintro h ⟨i,hi,h'⟩;have:=h i hi;simp[this]at h'
 rw[this];unfold gy;constructor
 ·rintro⟨h1,h2,h3,h4⟩;exact⟨⟨h2,h3⟩,h1,h4⟩
 ·rintro⟨⟨h2,h3⟩,h1,h4⟩;exact⟨h1,h2,h3,h4⟩
theorem RP:Cl []:=⟨λ_ _=>rfl,λ_ _=>rfl⟩
theorem WY {l:List Int}(h1:l.length<=3)(h2:l.any (λn=> !decide (0<=n/\n<=100))=false):Small l:=⟨h1,λi=>by
 by_cases hi:i < l.length
 ·rw[<-Tr,Es]at h2;have:=λh'=>h2 ⟨i,hi,h'⟩;simpa using this
 ·rw[OL l i ag];decide⟩
theorem AB (l:List Int):ax ae 32 [ints l] (.bool (decide (gy l))):=by
 refine aR func32 ntmps32 results32 call32 rfl ay λw0 S0 M0=> ?_;repeat'(first|refine aB ?_|refine aC λK hK=> ?_|(refine kA ?_;clear hK K)|((first|refine bl (qm _ _ _) ?_|refine bl (Ei l 73 [] RP (λn=> !decide (0<=n/\n<=100)) ag (λi _=>YV _)) ?_|refine bl (YT l (WY ag (by assumption))) ?_);try refine fZ ?_)|(intro hg;try exact aw)|exact fin|apply ai)
 all_goals(refine gi ?_;simp only[decide_eq_true_eq,cJ];rw[Y6];first|(simp_all;done)|(simp_all;omega)|(rw[hg];simp))
theorem Ov (l:List Int)(h:Small l)(k:Int)(h0:0<=k)(hk:k < l.length):ax ae 77 [ints l,i64 k] (i64 (Gn l k.toNat)):=by
 have h2:=h.2 k.toNat;refine aR func77 ntmps77 results77 call77 rfl ay λw0 S0 M0=> ?_;repeat'(first|refine aB ?_|refine aC λK hK=> ?_|(refine kA ?_;clear hK K)|(intro hg;try exact aw)|exact fin|apply ai)
 refine dH (ι:=Nat) (λj=>[(0,ints l),(5,i64 (200 * nth l k.toNat - dP (λi=>nth l i * nth l i) j)),(13,ints l),(14,i64 l.length),(15,i64 j)]) (λ_=>[]) (λ_=>[])
  (λj=>j<=l.length) (λj=>l.length - j) (λ_ _=>⟨rfl,rfl⟩) 0 (cv _) (aV rfl (by try(refine fZ ?_;try exact trivial);try simp[dP]) ⟨_,rfl⟩ ⟨_,rfl⟩) (λj hj=> ?_)
 have h1:=h.Ns j;have h3:=h.2 j;have h4:=h.1;have h5:=kv h3.1 h3.2 h3.1 h3.2
 (refine fZ ?_;try exact trivial)
 repeat'(first|refine aB ?_|refine aC λK hK=> ?_|(refine kA ?_;clear hK K)|(intro hg;try exact aw)|exact fin|apply ai)
 ·exact⟨j + 1,ag,ag,aV rfl (by try(refine fZ ?_;try exact trivial);simp[dP];omega) ⟨_,rfl⟩ ⟨_,rfl⟩⟩
 ·obtain rfl:j=l.length:=ag;rfl
theorem QK (l:List Int)(k:Int):ax ae 60 [ints l,i64 k] (.aQ [i64 (if gy l/\0<=k/\k < l.length then Gn l k.toNat else 0),i64 (if gy l/\0<=k/\k < l.length then 0 else 2)]):=by
 refine aR func60 ntmps60 results60 call60 rfl ay λw0 S0 M0=> ?_;by_cases hl:gy l
 ·have h2:=hl.2.1;have h3:=hl.2.2.1;repeat'(first|refine aB ?_|refine aC λK hK=> ?_|(refine kA ?_;clear hK K)|((first|refine bl (AB _) ?_|refine bl (qm _ _ _) ?_|refine bl (Ov l hl.small k ag ag) ?_);try refine fZ ?_)|(intro hg;try exact aw)|exact fin|apply ai)
  ·rw[if_neg,if_neg]<;>omega
  ·rw[if_pos,if_pos]<;>first|exact⟨hl,ag,ag⟩|rfl
 ·skip
  repeat'(first|refine aB ?_|refine aC λK hK=> ?_|(refine kA ?_;clear hK K)|((first|refine bl (AB _) ?_|refine bl (qm _ _ _) ?_);try refine fZ ?_)|(intro hg;try exact aw)|exact fin|apply ai)
  rw[if_neg (λh=>hl h.1),if_neg (λh=>hl h.1)]
theorem Uh (b:List Int)(gf:FuncId)(cs:List D)(g:Nat->Int)(hb:b.length<=3/\∀i:Nat, -1000000<=nth b i/\nth b i<=1000000)(aE:Cl cs)(hG:∀k:Nat,k < b.length->ax ae gf (i64 k::cs) (i64 (g k)))
  (aW:∀k:Nat,k < b.length-> -100000000000<=g k/\g k<=100000000000):ax ae 75 [ints b, .aD gf cs] (i64 (dP (λk=>nth b k * g k) b.length)):=by
 refine aR func75 ntmps75 results75 call75 rfl ay λw0 S0 M0=> ?_;repeat'(first|refine bK ?_|((first|refine bL λK hK=> ?_|refine bI ?_);(refine gG (ai @aE.1 (@aE.2)) ?_;try exact trivial))|(refine kA ?_;clear hK K)|(show bC _ _ _ _ _;(refine gG (ai @aE.1 (@aE.2)) ?_;try exact trivial))|(intro hg;try exact aw)|exact fin|apply ai)
 refine dH (ι:=Nat) (λj=>[(0,ints b),(1, .aD gf cs),(5,i64 (dP (λk=>nth b k * g k) j)),(8,ints b),(9,i64 b.length),(10,i64 j)]) (λ_=>[]) (λ_=>[])
  (λj=>j<=b.length) (λj=>b.length - j) (λ_ _=>⟨by simp[dA,db,aE.names],rfl⟩) 0 (cv _) (aV rfl (by try(refine gG (ai @aE.1 (@aE.2)) ?_;try exact trivial);try simp[dP]) ⟨_,rfl⟩ ⟨_,rfl⟩) (λj hj=> ?_)
 have h1:=ye (f:=λk=>nth b k * g k) (lo:= -100000000000000000) (hi:=100000000000000000) j (λi hi=>by
  have h1:=hb.2 i;have h2:=aW i ag;have h3:(nth b i).natAbs * (g i).natAbs<=1000000 * 100000000000:=Nat.mul_le_mul ag ag;rw[<-Int.natAbs_mul]at h3;omega)
 have h2:j < b.length-> -100000000000000000<=nth b j * g j/\nth b j * g j<=100000000000000000:=λhj=>by
  have h1:=hb.2 j;have h2:=aW j hj;have h3:(nth b j).natAbs * (g j).natAbs<=1000000 * 100000000000:=Nat.mul_le_mul ag ag;rw[<-Int.natAbs_mul]at h3;omega
 have h4:=hb.1
 (refine gG (ai @aE.1 (@aE.2)) ?_;try exact trivial)
 repeat'(first|refine bK ?_|((first|refine bL λK hK=> ?_|refine bI ?_);(refine gG (ai @aE.1 (@aE.2)) ?_;try exact trivial))|(refine kA ?_;clear hK K)|(refine bl (hG j ag) ?_;try(refine gG (ai @aE.1 (@aE.2)) ?_;try exact trivial))|(show bC _ _ _ _ _;(refine gG (ai @aE.1 (@aE.2)) ?_;try exact trivial))|(intro hg;try exact aw)|exact fin|apply ai)
 ·exact⟨j + 1,ag,ag,aV rfl (by try(refine gG (ai @aE.1 (@aE.2)) ?_;try exact trivial);try simp[dP]) ⟨_,rfl⟩ ⟨_,rfl⟩⟩
 ·obtain rfl:j=b.length:=ag;rfl
theorem YZ (l:List Int)(h:Small l)(k:Nat)(hk:k < l.length):ax ae 76 [i64 k, .ro [ints l]] (i64 (Gn l k)):=by
 refine aR func76 ntmps76 results76 call76 rfl ay λw0 S0 M0=> ?_;repeat'(first|refine aB ?_|refine aC λK hK=> ?_|(refine kA ?_;clear hK K)|(refine bl (Ov l h k ag ag) ?_;try refine fZ ?_)|(intro hg;try exact aw)|exact fin|apply ai)
 all_goals simp
theorem Ou (b l:List Int)(hb:Small b)(h:Small l)(hl:b.length<=l.length):ax ae 33 [ints b,ints l] (i64 (Hp b l)):=by
 refine aR func33 ntmps33 results33 call33 rfl ay λw0 S0 M0=> ?_;repeat'(first|(refine ou 0 _ _ rfl rfl ?_;simp only[bF,Nat.reduceAdd])|refine aB ?_|refine aC λK hK=> ?_|(refine kA ?_;clear hK K)|(refine bl (Uh b 76 [.ro [ints l]] (Gn l) ⟨hb.1,λi=>by have:=hb.2 i;omega⟩ ⟨λ_ _=>rfl,λ_ _=>rfl⟩ (λk hk=>YZ l h k ag) (λk _=>by have:=xV h k;omega)) ?_;try refine fZ ?_)|(intro hg;try exact aw)|exact fin|apply ai)
 all_goals rfl
theorem Th {b l:List Int}(hb:Small b)(h:Small l): -9000000<=Hp b l/\Hp b l<=9000000:=by
 have:=ye (f:=λk=>nth b k * Gn l k) (lo:= -3000000) (hi:=3000000) b.length (λi _=>by
  have h1:=hb.2 i;have h2:=xV h i;have h3:=v8 (b:=Gn l i) (B:=30000) h1.1 h1.2 ag ag;omega)
 have:=hb.1;unfold Hp;omega
theorem abF (b l:List Int):ax ae 9 [ints b,ints l] (.aQ (if gy b/\gy l/\b.length=l.length then[i64 (Hp b l),i64 (Hp b b - Hp b l),i64 0]else[i64 0,i64 0,i64 2])):=by
 refine aR func9 ntmps9 results9 call9 rfl ay λw0 S0 M0=> ?_;by_cases hb:gy b
 ·by_cases hl:gy l
  ·have h1:=Th hb.small hl.small;have h2:=Th hb.small hb.small;have h3:=hb.2.2.1;repeat'(first|refine aB ?_|refine aC λK hK=> ?_|(refine kA ?_;clear hK K)|((first|refine bl (AB _) ?_|refine bl (Ou b l hb.small hl.small ag) ?_|refine bl (Ou b b hb.small hb.small ag) ?_);try refine fZ ?_)|(intro hg;try exact aw)|exact fin|apply ai)
   ·rw[if_neg (λh=>hg (by have:=h.2.2;omega))]
   ·rw[if_pos ⟨hb,hl,ag⟩]
  ·skip
   repeat'(first|refine aB ?_|refine aC λK hK=> ?_|(refine kA ?_;clear hK K)|(refine bl (AB _) ?_;try refine fZ ?_)|(intro hg;try exact aw)|exact fin|apply ai)
   rw[if_neg (λh=>hl h.2.1)]
 ·skip
  repeat'(first|refine aB ?_|refine aC λK hK=> ?_|(refine kA ?_;clear hK K)|(refine bl (AB _) ?_;try refine fZ ?_)|(intro hg;try exact aw)|exact fin|apply ai)
  rw[if_neg (λh=>hb h.1)]
theorem Oi (a b c:Int):ax ae 127 [.agg [i64 a,i64 b,i64 c]] (.bool (decide (qb a b c))):=by
 refine aR func127 ntmps127 results127 call127 rfl ay λw0 S0 M0=> ?_;repeat'(first|refine aB ?_|refine aC λK hK=> ?_|(refine kA ?_;clear hK K)|(refine bl (qm _ _ _) ?_;try refine fZ ?_)|(intro hg;try exact aw)|exact fin|apply ai)
 all_goals(refine gi ?_;simp only[decide_eq_true_eq,cJ,false_iff,iff_false,true_iff,iff_true];try simp only[qb];omega)
theorem VL (m:Int)(h1: -200000000000<=m)(h2:m<=200000000000):(m.tmod 10000 < 0->m / 10000=m.tdiv 10000 - 1)/\(¬m.tmod 10000 < 0->m / 10000=m.tdiv 10000)/\ -20000000<=m.tdiv 10000/\m.tdiv 10000<=20000000:=by
 have e2:m.tmod 10000=m - 10000 * m.tdiv 10000:=by have:=Int.mul_tdiv_add_tmod m 10000;omega
 rcases Int.lt_or_le m 0 with h|h
 ·have e3:m.tdiv 10000= - (- m / 10000):=by
   rw[<-Int.neg_neg m,Int.neg_tdiv,xP ag];simp
  generalize m.tmod 10000=x at *;generalize m.tdiv 10000=y at *;omega
 ·have e3:m.tdiv 10000=m / 10000:=xP h;generalize m.tmod 10000=x at *;generalize m.tdiv 10000=y at *;omega
theorem YU (a b c n:Int)(hp:qb a b c)(h1: -200000000<=n)(h2:n<=200000000):ax ae 128 [.agg [i64 a,i64 b,i64 c],i64 n] (i64 (F2 a b c n)):=by
 obtain⟨⟨a1,a2⟩,⟨c1,c2⟩,b1,b2⟩:=hp;have h3:=v8 (a:=b) (b:=n) (A:=1000) (B:=200000000) b1 b2 h1 h2;obtain⟨q1,q2,q3,q4⟩:=VL (b * n) ag ag;have h4: -200000000000<=b * n:=ag;have h5:b * n<=200000000000:=ag;clear h3;have A_:F2 a b c n=max c (a + b * n / 10000):=rfl;rw[A_];generalize b * n / 10000=z at *;refine aR func128 ntmps128 results128 call128 rfl ay λw0 S0 M0=> ?_;repeat'(first|refine aB ?_|refine aC λK hK=> ?_|(refine kA ?_;clear hK K)|(intro hg;try exact aw)|exact fin|apply ai)
 ·rw[q1 hg]
 ·rw[q2 hg]
theorem Y3 (a b c n:Int):ax ae 87 [.agg [i64 a,i64 b,i64 c],i64 n] (.aQ (if qb a b c/\ -100000000<=n/\n<=100000000 then[i64 (F2 a b c n),i64 0]else[i64 0,i64 2])):=by
 refine aR func87 ntmps87 results87 call87 rfl ay λw0 S0 M0=> ?_;by_cases hp:qb a b c
 ·skip
  repeat'(first|refine aB ?_|refine aC λK hK=> ?_|(refine kA ?_;clear hK K)|((first|refine bl (Oi _ _ _) ?_|refine bl (qm _ _ _) ?_|refine bl (YU a b c n hp ag ag) ?_);try refine fZ ?_)|(intro hg;try exact aw)|exact fin|apply ai)
  ·rw[if_neg (λh=>hg h.2)]
  ·rw[if_pos ⟨hp,ag⟩]
 ·skip
  repeat'(first|refine aB ?_|refine aC λK hK=> ?_|(refine kA ?_;clear hK K)|((first|refine bl (Oi _ _ _) ?_|refine bl (qm _ _ _) ?_);try refine fZ ?_)|(intro hg;try exact aw)|exact fin|apply ai)
  rw[if_neg (λh=>hp h.1)]
theorem aa9 (l:List (List Int))(gf:FuncId)(cs:List D)(aE:Cl cs)(p:List Int->Bool)(hl:l.length<=9223372036854775807)(hp:∀i,i < l.length->ax ae gf (ints (nth l i)::cs) (.bool (p (nth l i)))):ax ae 239 [(.list (l.map ints)), .aD gf cs] (i64 (o9 p l)):=by
 refine aR func239 ntmps239 results239 call239 rfl ay λw0 S0 M0=> ?_;repeat'(first|refine bK ?_|((first|refine bL λK hK=> ?_|refine bI ?_);(refine gG (ai @aE.1 (@aE.2)) ?_;try exact trivial))|(refine kA ?_;clear hK K)|(show bC _ _ _ _ _;(refine gG (ai @aE.1 (@aE.2)) ?_;try exact trivial))|(intro hg;try exact aw)|exact fin|apply ai)
 refine dH (ι:=Nat) (λj=>[(0,(.list (l.map ints))),(1, .aD gf cs),(6,(.list (l.map ints))),(7,i64 l.length),(8,i64 j)]) (λ_=>[]) (λ_=>[])
  (λj=>j<=l.length/\∀i,i < j->p (nth l i)=false) (λj=>l.length - j) (λ_ _=>⟨by simp[dA,db,aE.names],rfl⟩) 0 ⟨cv _,λi h=>absurd h (fD i)⟩ (aV rfl (by try(refine gG (ai @aE.1 (@aE.2)) ?_;try exact trivial);try simp) ⟨_,rfl⟩ ⟨_,rfl⟩) (λj ⟨hj,hi⟩=> ?_)
 (refine gG (ai @aE.1 (@aE.2)) ?_;try exact trivial)
 repeat'(first|refine bK ?_|((first|refine bL λK hK=> ?_|refine bI ?_);(refine gG (ai @aE.1 (@aE.2)) ?_;try exact trivial))|(refine kA ?_;clear hK K)|(refine bl (hp j ag) ?_;try(refine gG (ai @aE.1 (@aE.2)) ?_;try exact trivial))|(show bC _ _ _ _ _;(refine gG (ai @aE.1 (@aE.2)) ?_;try exact trivial))|(intro hg;try exact aw)|exact fin|apply ai)
 ·congr 1;exact(wV ag hi hg).symm
 ·refine⟨j + 1,⟨ag,λi h=> ?_⟩,ag,aV rfl (by try(refine gG (ai @aE.1 (@aE.2)) ?_;try exact trivial);try simp) ⟨_,rfl⟩ ⟨_,rfl⟩⟩;by_cases h9:i=j
  ·rw[h9];exact hg
  ·exact hi i ag
 ·congr 1;exact(wW λi h=>hi i ag).symm
theorem afb (l:List (List Int))(gf:FuncId)(cs:List D)(aE:Cl cs)(p:List Int->Bool)(hl:l.length<=9223372036854775807)(hp:∀i,i < l.length->ax ae gf (ints (nth l i)::cs) (.bool (p (nth l i)))):ax ae 188 [(.list (l.map ints)), .aD gf cs] (.bool (l.any p)):=by
 refine aR func188 ntmps188 results188 call188 rfl ay λw0 S0 M0=> ?_;repeat'(first|refine bK ?_|((first|refine bL λK hK=> ?_|refine bI ?_);(refine gG (ai @aE.1 (@aE.2)) ?_;try exact trivial))|(refine kA ?_;clear hK K)|(refine bl (aa9 l gf cs aE p hl hp) ?_;try(refine gG (ai @aE.1 (@aE.2)) ?_;try exact trivial))|(show bC _ _ _ _ _;(refine gG (ai @aE.1 (@aE.2)) ?_;try exact trivial))|(intro hg;try exact aw)|exact fin|apply ai)
 ·rw[wX]
def qa (c:Int)(W:List Int)(S:List (List Int)):Prop:=(2<=c/\c<=3)/\(1<=W.length/\W.length<=3)/\S.length<=6/\(∀i,i < W.length->0<=nth W i/\nth W i<=100)/\
 ∀i,i < S.length->(nth S i).length=W.length/\∀k,k < (nth S i).length->1<=nth (nth S i) k/\nth (nth S i) k<=2 ^ c.toNat - 1
instance(c:Int) (W:List Int) (S:List (List Int)):Decidable (qa c W S):=by unfold qa;infer_instance
def Tm (c:Int)(W:List Int)(S:List (List Int))(f:List (List (List Int))):Prop:=f.length=S.length/\
 ∀i,i < f.length->(nth f i).length=W.length/\∀k,k < (nth f i).length->((nth (nth f i) k).length:Int)=c/\gy (nth (nth f i) k)
instance(c:Int) (W:List Int) (S:List (List Int)) (f:List (List (List Int))):Decidable (Tm c W S f):=by unfold Tm;infer_instance
theorem any_false {α:Type}[Inhabited α]{p:α->Bool}{l:List α}:l.any p=false↔∀i,i < l.length->p (nth l i)=false:=by
 rw[<-Tr,Es];constructor
 ·intro h i hi;cases hp:p (nth l i)
  ·rfl
  ·exact absurd ⟨i,hi,hp⟩ h
 ·rintro h ⟨i,hi,hp⟩;rw[h i hi]at hp;cases hp
theorem YA (n:Int):ax ae 187 [i64 n] (.bool (!decide (0<=n/\n<=100))):=by
 refine aR func187 ntmps187 results187 call187 rfl ay λw0 S0 M0=> ?_;repeat'(first|refine aB ?_|refine aC λK hK=> ?_|(refine kA ?_;clear hK K)|(refine bl (qm _ _ _) ?_;try refine fZ ?_)|(intro hg;try exact aw)|exact fin|apply ai)
theorem Yz (n c:Int)(W:List Int)(S:List (List Int))(hc:2<=c/\c<=3):ax ae 190 [i64 n, .ro [i64 c,ints W,rP S]] (.bool (!decide (1<=n/\n<=2 ^ c.toNat - 1))):=by
 obtain rfl|rfl:c=2\/c=3:=ag
 ·refine aR func190 ntmps190 results190 call190 rfl ay λw0 S0 M0=> ?_;repeat'(first|refine aB ?_|refine aC λK hK=> ?_|(refine kA ?_;clear hK K)|(refine bl (qm _ _ _) ?_;try refine fZ ?_)|(intro hg;try exact aw)|exact fin|apply ai)
  simp
 ·refine aR func190 ntmps190 results190 call190 rfl ay λw0 S0 M0=> ?_;repeat'(first|refine aB ?_|refine aC λK hK=> ?_|(refine kA ?_;clear hK K)|(refine bl (qm _ _ _) ?_;try refine fZ ?_)|(intro hg;try exact aw)|exact fin|apply ai)
  simp
def zw (c:Int)(W:List Int)(r:List Int):Bool:=decide (r.length≠W.length)||r.any (λn=> !decide (1<=n/\n<=2 ^ c.toNat - 1))
theorem Yy (r:List Int)(c:Int)(W:List Int)(S:List (List Int))(hc:2<=c/\c<=3)(hW:W.length<=3):ax ae 189 [ints r, .ro [i64 c,ints W,rP S]] (.bool (zw c W r)):=by
 refine aR func189 ntmps189 results189 call189 rfl ay λw0 S0 M0=> ?_;repeat'(first|refine aB ?_|refine aC λK hK=> ?_|(refine kA ?_;clear hK K)|(refine bl (Ei r 190 [.ro [i64 c,ints W,rP S]] ⟨λ_ _=>rfl,λ_ _=>rfl⟩ (λn=> !decide (1<=n/\n<=2 ^ c.toNat - 1)) ag (λi _=>Yz _ c W S hc)) ?_;try refine fZ ?_)|(intro hg;try exact aw)|exact fin|apply ai)
 ·have h9:r.length=W.length:=ag;simp[zw,h9]
 ·have h9:r.length≠W.length:=ag;simp[zw,h9]
theorem VZ (c:Int)(W:List Int)(S:List (List Int)):qa c W S↔(2<=c/\c<=3)/\(1<=W.length/\W.length<=3)/\S.length<=6/\W.any (λn=> !decide (0<=n/\n<=100))=false/\S.any (zw c W)=false:=by
 rw[any_false,any_false];unfold qa zw;simp only[Bool.or_eq_false_iff,decide_eq_false_iff_not,any_false,Bool.not_eq_false',decide_eq_true_eq,ne_eq,Decidable.not_not]
theorem Yx (c:Int)(W:List Int)(S:List (List Int)):ax ae 132 [.agg [i64 c,ints W,rP S]] (.bool (decide (qa c W S))):=by
 refine aR func132 ntmps132 results132 call132 rfl ay λw0 S0 M0=> ?_;repeat'(first|(refine ou 0 _ _ rfl rfl ?_;simp only[bF,Nat.reduceAdd])|refine aB ?_|refine aC λK hK=> ?_|(refine kA ?_;clear hK K)|((first|refine bl (qm _ _ _) ?_|refine bl (Ei W 187 [] RP (λn=> !decide (0<=n/\n<=100)) ag (λi _=>YA _)) ?_|refine bl (afb S 189 [.ro [i64 c,ints W,rP S]] ⟨λ_ _=>rfl,λ_ _=>rfl⟩ (zw c W) ag (λi _=>Yy _ c W S ag ag)) ?_);try refine fZ ?_)|(intro hg;try exact aw)|exact fin|apply ai)
 all_goals
  refine gi ?_;simp only[decide_eq_true_eq,cJ,Bool.not_eq_true'];rw[VZ];constructor
  ·intro h;first
   |exact h.elim
   |exact⟨ag,ag,ag,by assumption,h⟩
  ·rintro⟨h1,h2,h3,h4,h5⟩;first
   |exact h5
   |(exfalso;omega)
   |(rw[hg]at h4;cases h4)
theorem Y1 (c:Int)(W:List Int)(S:List (List Int)):ax ae 92 [.agg [i64 c,ints W,rP S]] (i64 (if qa c W S then 0 else 2)):=by
 refine aR func92 ntmps92 results92 call92 rfl ay λw0 S0 M0=> ?_;repeat'(first|refine aB ?_|refine aC λK hK=> ?_|(refine kA ?_;clear hK K)|(refine bl (Yx c W S) ?_;try refine fZ ?_)|(intro hg;try exact aw)|exact fin|apply ai)
 ·rw[if_neg hg]
 ·rw[if_pos hg]
end Go.Proofs.YtopobgihpdaggaaGreatDoor.Sc
namespace Go.Proofs.YtopobgihpdaggaaGreatDoor
open Go.Ab
structure ox where
 st:Int
 tk:Int
 pr:Int
 dl:Int
 dh:Int
 ur:Int
 co:Int
 deriving Inhabited,DecidableEq
structure oz where
 a:Int
 b:Int
 d:Int
 deriving Inhabited,DecidableEq
structure oy where
 ol:Int
 oh:Int
 dy:Int
 ni:Int
 deriving Inhabited,DecidableEq
structure mC where
 st:Int
 rp:List ox
 lk:List oz
 pt:List oy
 fa:Int
 wi:Int
 ho:Int
 da:Int
 du:Int
 deriving Inhabited
structure bh where
 bf:List (cg×Int)
 fl:List (Int×Int)
 tu:List Int
 mo:Int
 to:Int
 tf:Int
 tm:Int
 wd:Int
 rw:Int
 sl:Int
 w:mC
 cl:Int
 wt:List Int
 pb:Int
 pr:Int
 pl:Int
 dy:Int
 deriving Inhabited
abbrev ln (r:ox):D:= .agg [i64 r.st,i64 r.tk,i64 r.pr,i64 r.dl,i64 r.dh,i64 r.ur,i64 r.co]
abbrev lu (l:oz):D:= .agg [i64 l.a,i64 l.b,i64 l.d]
abbrev lq (p:oy):D:= .agg [i64 p.ol,i64 p.oh,i64 p.dy,i64 p.ni]
abbrev jy (p:Int×Int):D:= .agg [i64 p.1,i64 p.2]
abbrev k9 (x:cg×Int):D:= .agg [i64 x.1.hl,i64 x.1.hh,i64 x.1.gl,i64 x.1.gh,i64 x.1.dr,i64 x.1.rd,i64 x.1.ea,i64 x.1.sl, .list (x.1.ck.map k8),i64 x.2]
abbrev jK (w:mC):List D:=[i64 w.st, .list (w.rp.map ln), .list (w.lk.map lu), .list (w.pt.map lq),i64 w.fa,i64 w.wi,i64 w.ho,i64 w.da,i64 w.du]
abbrev zp (fl:List (Int×Int))(tu:List Int)(mo:Int):List D:=[.list (fl.map jy),ints tu,i64 mo]
abbrev cR (s:bh):List D:=[.list (s.bf.map k9), .list (s.fl.map jy),ints s.tu,i64 s.mo,i64 s.to,i64 s.tf,i64 s.tm,i64 s.wd,i64 s.rw,i64 s.sl,i64 s.w.st, .list (s.w.rp.map ln), .list (s.w.lk.map lu), .list (s.w.pt.map lq),i64 s.w.fa,i64 s.w.wi,i64 s.w.ho,i64 s.w.da,i64 s.w.du,i64 s.cl,ints s.wt,i64 s.pb,i64 s.pr,i64 s.pl,i64 s.dy]
abbrev fT (s:bh):D:= .agg (cR s)
abbrev De (s:bh):List D:=[i64 s.wd,i64 s.rw,i64 s.sl, .list []]
def vC (p:Int×Int):Prop:=0<=p.1/\p.1<=p.2/\p.2<=99999
instance(p:Int×Int):Decidable (vC p):=by unfold vC;infer_instance
def vo (n:Int):Prop:=0<=n/\n<=1023
instance(n:Int):Decidable (vo n):=by unfold vo;infer_instance
def qf (fl:List (Int×Int))(tu:List Int)(mo:Int):Prop:=(∀i,i < fl.length->vC (nth fl i))/\(∀i,i < tu.length->vo (nth tu i))/\(1<=fl.length/\fl.length<=3)/\tu.length=10/\0<=mo/\mo<=2
instance(fl:List (Int×Int)) (tu:List Int) (mo:Int):Decidable (qf fl tu mo):=by unfold qf;infer_instance
def xu (a b c:Int):Prop:=(0<=a/\a<=10000)/\(0<=c/\c<=10000)/\0<=b/\b<=100
instance(a b c:Int):Decidable (xu a b c):=by unfold xu;infer_instance
def tT (n:Int)(r:ox):Prop:=(0<=r.st/\r.st<=n - 1)/\(0<=r.tk/\r.tk<=10080)/\(0<=r.pr/\r.pr<=99999)/\(0<=r.dl/\r.dl<=r.dh/\r.dh<=2880)/\(0<=r.ur/\r.ur<=2880)/\0<=r.co/\r.co<=10000
instance(n:Int) (r:ox):Decidable (tT n r):=by unfold tT;infer_instance
def tX (n:Int)(l:oz):Prop:=(0<=l.a/\l.a<=n - 1)/\(0<=l.b/\l.b<=n - 1)/\l.a≠l.b/\1<=l.d/\l.d<=99999
instance(n:Int) (l:oz):Decidable (tX n l):=by unfold tX;infer_instance
def tU (p:oy):Prop:=(0<=p.ol/\p.ol<=p.oh/\p.oh<=2880)/\p.oh - p.ol<=300/\(0<=p.dy/\p.dy<=50000)/\0<=p.ni/\p.ni<=50000
instance(p:oy):Decidable (tU p):=by unfold tU;infer_instance
def tP (w:mC):Prop:=(∀i,i < w.rp.length->tT w.st (nth w.rp i))/\(∀i,i < w.lk.length->tX w.st (nth w.lk i))/\(∀i,i < w.pt.length->tU (nth w.pt i))/\
 (1<=w.st/\w.st<=6)/\w.rp.length<=9/\w.lk.length<=8/\w.pt.length<=4/\(1<=w.fa/\w.fa<=99999)/\(1<=w.wi/\w.wi<=2880)/\(1<=w.ho/\w.ho<=2880)/\0<=w.da/\w.da<=w.du/\w.du<=1440
instance(w:mC):Decidable (tP w):=by unfold tP;infer_instance
def ss (s:bh):Prop:=(1<=s.wd/\s.wd<=6)/\(1<=s.rw/\s.rw<=5)/\0<=s.sl/\s.sl<=5000
instance(s:bh):Decidable (ss s):=by unfold ss;infer_instance
def pj (s:bh):Prop:=(1<=s.bf.length/\s.bf.length<=3)/\(1<=s.dy/\s.dy<=4)/\ss s/\(∀i,i < s.bf.length->(0<=(nth s.bf i).2/\(nth s.bf i).2<=s.wd * s.rw - 1)/\fb (nth s.bf i).1/\jc (nth s.bf i).1)/\
 qf s.fl s.tu s.mo/\xu s.to s.tf s.tm/\tP s.w/\Sc.qa s.cl s.wt []/\Sc.qb s.pb s.pr s.pl
def nD (s:bh):Prop:=(∀i,i < s.bf.length->i < 6->(nth s.bf i).1.ck.length<=15)/\s.bf.length<=5/\s.fl.length<=5/\s.tu.length<=14/\s.w.rp.length<=12/\s.w.lk.length<=12/\s.w.pt.length<=6/\s.wt.length<=5
def Cf (s:bh):Prop:=s.bf.length<=9223372036854775807/\s.fl.length<=9223372036854775807/\s.tu.length<=9223372036854775807/\s.w.rp.length<=9223372036854775807/\s.w.lk.length<=9223372036854775807/\s.w.pt.length<=9223372036854775807/\s.wt.length<=9223372036854775807/\
 ∀i,i < s.bf.length->(nth s.bf i).1.ck.length<=9223372036854775807
end Go.Proofs.YtopobgihpdaggaaGreatDoor
namespace Go.Ab
open Go.RowKit Go
def Ih (c:Ctx)(x y:Operand)(dst:Option Tmp)(N:St->Prop)(s1:St):Prop:=
 bp s1 dst/\iI (s1.ev x) (s1.ev y) λa n m=>N (s1.put dst (.int a (a.wrap (n - m))))
theorem aZ.sub {c:Ctx}{s:St}{K:St->Prop}{t t' ty:TypeId}{x y:Operand}{dst:Option Tmp}{pos:String}{aft:Array Edge}(h:Ih c x y dst K s):
  aZ c ⟨dst, .binOp .sub t x y t',ty,pos,aft,none⟩ s K:=by
 obtain⟨hd,h⟩:=h;rintro a w N' Q' ⟨g,hg⟩ hN;obtain⟨q,n,m,h1,h2,hk⟩:=nH (hg.ev x) (hg.ev y) h;refine gK (by intro cl h;cases h) ?_;unfold Oper.wp;have bg:(execOp a.eval ⟨dst, .binOp .sub t x y t',ty,pos,aft,none⟩).run c.P w= .ok (.value (.int q (q.wrap (n - m)))) w:=by
  simp[execOp,h1,h2,eqGuard,binOp,Op.intArith]
 rw[bg];exact hN _ _ _ ⟨g,hg.put hd (.int _ _ _)⟩ hk
theorem af_ {c:Ctx}{x y:Operand}{dst:Option Tmp}{N:St->Prop}{s1:St}(a:IntKind)(n m:Int)(h1:s1.ev x= .int a n)(h2:s1.ev y= .int a m)(hd:bp s1 dst)(h:N (s1.put dst (.int a (a.wrap (n - m))))):Ih c x y dst N s1:=⟨hd,by rw[h1,h2];exact⟨rfl,h⟩⟩
end Go.Ab
namespace Go.Proofs.YtopobgihpdaggaaGreatDoor
set_option maxRecDepth 100000
set_option maxHeartbeats 4000000
open Go.Ab
attribute[local irreducible] az dI dR ax aT IA
theorem Jk (n lo hi:Int):ax ae 41 [i64 n,i64 lo,i64 hi] (.bool (decide (lo<=n/\n<=hi))):=by
 refine aR func41 ntmps41 results41 call41 rfl ay λw0 S0 M0=> ?_;repeat'(first|refine aB ?_|refine aC λK hK=> ?_|(refine kA ?_;clear hK K)|(intro hg;try exact aw)|exact fin|apply ai)
 all_goals(refine gi ?_;simp only[decide_eq_true_eq,cJ,false_iff,iff_false,true_iff,iff_true];omega)
theorem Fk (n lo hi:Int):ax ae 35 [i64 n,i64 lo,i64 hi] (.bool (decide (lo<=n/\n<=hi))):=by
 refine aR func35 ntmps35 results35 call35 rfl ay λw0 S0 M0=> ?_;repeat'(first|refine aB ?_|refine aC λK hK=> ?_|(refine kA ?_;clear hK K)|(intro hg;try exact aw)|exact fin|apply ai)
 all_goals(refine gi ?_;simp only[decide_eq_true_eq,cJ,false_iff,iff_false,true_iff,iff_true];omega)
theorem sD (n lo hi:Int):ax ae 43 [i64 n,i64 lo,i64 hi] (.bool (decide (lo<=n/\n<=hi))):=by
 refine aR func43 ntmps43 results43 call43 rfl ay λw0 S0 M0=> ?_;repeat'(first|refine aB ?_|refine aC λK hK=> ?_|(refine kA ?_;clear hK K)|(intro hg;try exact aw)|exact fin|apply ai)
 all_goals(refine gi ?_;simp only[decide_eq_true_eq,cJ,false_iff,iff_false,true_iff,iff_true];omega)
theorem Uf (n lo hi:Int):ax ae 10 [i64 n,i64 lo,i64 hi] (.bool (decide (lo<=n/\n<=hi))):=by
 refine aR func10 ntmps10 results10 call10 rfl ay λw0 S0 M0=> ?_;repeat'(first|refine aB ?_|refine aC λK hK=> ?_|(refine kA ?_;clear hK K)|(intro hg;try exact aw)|exact fin|apply ai)
 all_goals(refine gi ?_;simp only[decide_eq_true_eq,cJ,false_iff,iff_false,true_iff,iff_true];omega)
theorem XD (a b d:Int):ax ae 17 [.agg [i64 a,i64 b,i64 d]] (.bool (decide (xu a b d))):=by
 refine aR func17 ntmps17 results17 call17 rfl ay λw0 S0 M0=> ?_;repeat'(first|refine aB ?_|refine aC λK hK=> ?_|refine cA (Jk _ _ _) ?_|(refine kA ?_;clear hK K)|(intro hg;try exact aw)|exact fin|apply ai)
 all_goals(refine gi ?_;simp only[decide_eq_true_eq,cJ,false_iff,iff_false,true_iff,iff_true];try simp only[xu];omega)
theorem XF (a b:Int):ax ae 34 [i64 a,i64 b] (.bool (decide ((1<=a/\a<=6)/\1<=b/\b<=5))):=by
 refine aR func34 ntmps34 results34 call34 rfl ay λw0 S0 M0=> ?_;repeat'(first|refine aB ?_|refine aC λK hK=> ?_|refine cA (Fk _ _ _) ?_|(refine kA ?_;clear hK K)|(intro hg;try exact aw)|exact fin|apply ai)
 all_goals(refine gi ?_;simp only[decide_eq_true_eq,cJ,false_iff,iff_false,true_iff,iff_true];omega)
theorem XM (s:bh):ax ae 12 [fT s, .list []] (.agg (De s)):=by
 refine aR func12 ntmps12 results12 call12 rfl ay λw0 S0 M0=> ?_;repeat'(first|refine aB ?_|refine aC λK hK=> ?_|(refine kA ?_;clear hK K)|(intro hg;try exact aw)|exact fin|apply ai)
theorem XN (s:bh):ax ae 11 [.agg (De s)] (.bool (decide (ss s))):=by
 refine aR func11 ntmps11 results11 call11 rfl ay λw0 S0 M0=> ?_;repeat'(first|refine aB ?_|refine aC λK hK=> ?_|refine cA (XF _ _) ?_|refine cA (Fk _ _ _) ?_|(refine kA ?_;clear hK K)|(intro hg;try exact aw)|exact fin|apply ai)
 all_goals first
  |(refine dH (ι:=Nat) (λj=>[(1, .box 0 0),(3,i64 0)]) (λ_=>[.mu (De s)]) (λ_=>[]) (λ_=>True) (λj=>0) (λ_ _=>⟨rfl,rfl⟩) 0 trivial (aV rfl (by try(refine av ?_;try exact trivial);try simp) ⟨_,rfl⟩ ⟨_,rfl⟩) (λj _=> ?_)
    (refine av ?_;try exact trivial)
    repeat'(first|refine aB ?_|refine aC λK hK=> ?_|(refine kA ?_;clear hK K)|(intro hg;try exact aw)|exact fin|apply ai)
    all_goals(refine gi ?_;simp only[decide_eq_true_eq,cJ,false_iff,iff_false,true_iff,iff_true];try simp only[ss];omega))
  |(refine gi ?_;simp only[decide_eq_true_eq,cJ,false_iff,iff_false,true_iff,iff_true];try simp only[ss];omega)
theorem XH (s:bh)(h:ss s)(p:Int):ax ae 13 [.agg (De s),i64 p] (.bool (decide (0<=p/\p<=s.wd * s.rw - 1))):=by
 have h1:0<=s.wd * s.rw/\s.wd * s.rw<=6 * 5:=kv (by have:=h.1;omega) h.1.2 (by have:=h.2.1;omega) h.2.1.2;refine aR func13 ntmps13 results13 call13 rfl ay λw0 S0 M0=> ?_;repeat'(first|refine aB ?_|refine aC λK hK=> ?_|refine cA (Fk _ _ _) ?_|(refine kA ?_;clear hK K)|(intro hg;try exact aw)|exact fin|apply ai)
end Go.Proofs.YtopobgihpdaggaaGreatDoor
namespace Go.Proofs.YtopobgihpdaggaaGreatDoor
set_option maxRecDepth 100000
set_option maxHeartbeats 4000000
open Go.Ab
attribute[local irreducible] az dI dR ax aT IA
theorem all_succ {α:Type}[Inhabited α]{p:α->Prop}{l:List α}{j:Nat}(hi:∀i,i < j->p (nth l i))(h:p (nth l j)):∀i,i < j + 1->p (nth l i):=λi hj=>by
 rcases Nat.lt_or_ge i j with h1|h1
 ·exact hi i h1
 ·obtain rfl:i=j:=ag;exact h
theorem Yr (fl:List (Int×Int))(tu:List Int)(mo:Int)(hf:fl.length<=9223372036854775807)(ht:tu.length<=9223372036854775807):ax ae 16 [.agg (zp fl tu mo)] (.bool (decide (qf fl tu mo))):=by
 refine aR func16 ntmps16 results16 call16 rfl ay λw0 S0 M0=> ?_;repeat'(first|refine aB ?_|refine aC λK hK=> ?_|(refine kA ?_;clear hK K)|(intro hg;try exact aw)|exact fin|apply ai)
 refine dH (ι:=Nat) (λj=>[(1, .box 0 0),(3,i64 j)]) (λ_=>[.mu (zp fl tu mo)]) (λ_=>[])
  (λj=>j<=fl.length/\∀i,i < j->vC (nth fl i)) (λj=>fl.length - j) (λ_ _=>⟨rfl,rfl⟩) 0 ⟨cv _,λi h=>absurd h (fD i)⟩ (aV rfl (by try(refine av ?_;try exact trivial);try simp) ⟨_,rfl⟩ ⟨_,rfl⟩) (λj ⟨hj,hi⟩=> ?_)
 (refine av ?_;try exact trivial)
 repeat'(first|refine aB ?_|refine aC λK hK=> ?_|(refine kA ?_;clear hK K)|(intro hg;try exact aw)|exact fin|apply ai)
 all_goals first
  |(exact⟨j + 1,⟨ag,all_succ hi (by unfold vC;omega)⟩,ag,aV rfl (by try(refine av ?_;try exact trivial);try simp) ⟨_,rfl⟩ ⟨_,rfl⟩⟩)
  |(rw[decide_eq_false];intro h;have:=h.1 j ag;unfold vC at this;omega)
  |skip
 refine dH (ι:=Nat) (λk=>[(1, .box 0 0),(5,i64 k)]) (λ_=>[.mu (zp fl tu mo)]) (λ_=>[])
  (λk=>k<=tu.length/\∀i,i < k->vo (nth tu i)) (λk=>tu.length - k) (λ_ _=>⟨rfl,rfl⟩) 0 ⟨cv _,λi h=>absurd h (fD i)⟩ (aV rfl (by try(refine av ?_;try exact trivial);try simp) ⟨_,rfl⟩ ⟨_,rfl⟩) (λk ⟨hk,Bo⟩=> ?_)
 have hA:(∀i,i < fl.length->vC (nth fl i))=True:=eq_true λi h=>hi i ag
 (refine av ?_;try exact trivial)
 repeat'(first|refine aB ?_|refine aC λK hK=> ?_|refine cA (Jk _ _ _) ?_|(refine kA ?_;clear hK K)|(intro hg;try exact aw)|exact fin|apply ai)
 all_goals first
  |(exact⟨k + 1,⟨ag,all_succ Bo (by unfold vo;omega)⟩,ag,aV rfl (by try(refine av ?_;try exact trivial);try simp) ⟨_,rfl⟩ ⟨_,rfl⟩⟩)
  |(rw[decide_eq_false];intro h;have:=h.2.1 k ag;unfold vo at this;omega)
  |(have hB:(∀i,i < tu.length->vo (nth tu i))=True:=eq_true λi h=>Bo i ag
    refine gi ?_;simp only[qf,hA,hB,decide_eq_true_eq,cJ,false_iff,iff_false,true_iff,iff_true,true_and];omega)
  |skip
theorem XE (w:mC)(h: -1000000000<=w.st/\w.st<=1000000000)(x:Int):ax ae 42 [.agg (jK w),i64 x] (.bool (decide (0<=x/\x<=w.st - 1))):=by
 refine aR func42 ntmps42 results42 call42 rfl ay λw0 S0 M0=> ?_;repeat'(first|refine aB ?_|refine aC λK hK=> ?_|refine cA (sD _ _ _) ?_|(refine kA ?_;clear hK K)|(intro hg;try exact aw)|exact fin|apply ai)
theorem NN (w:mC)(x:Int):∃b,ax ae 42 [.agg (jK w),i64 x] (.bool b):=by
 refine⟨decide (0<=x/\x<=IntKind.i64.wrap (w.st - 1)), ?_⟩;refine aR func42 ntmps42 results42 call42 rfl ay λw0 S0 M0=> ?_;repeat'(first|(show az _ (.region 1 _ _) _ _;refine pg 3 (Ih _ (.tmp 7) (.const (.int .i64 1)) (some 8)) (λ_ _ h=>aZ.sub h) rfl rfl (λK1 aK=> ?_);refine av ?_)|(refine aK _ (af_ .i64 w.st 1 rfl rfl (by show(8:Nat) < 10;decide) ?_);clear aK K1;simp only[bF,Nat.reduceAdd];refine av ?_)|refine aB ?_|refine aC λK hK=> ?_|refine cA (sD _ _ _) ?_|(refine kA ?_;clear hK K)|(intro hg;try exact aw)|exact fin|apply ai)
theorem yl (a b m:Int):ax ae 44 [.agg [i64 a,i64 b],i64 m] (.bool (decide (0<=a/\a<=b/\b<=m))):=by
 refine aR func44 ntmps44 results44 call44 rfl ay λw0 S0 M0=> ?_;repeat'(first|refine aB ?_|refine aC λK hK=> ?_|(refine kA ?_;clear hK K)|(intro hg;try exact aw)|exact fin|apply ai)
 all_goals(refine gi ?_;simp only[decide_eq_true_eq,cJ,false_iff,iff_false,true_iff,iff_true];omega)
theorem Xx (w:mC)(hs:1<=w.st/\w.st<=6)(h1:w.rp.length<=9223372036854775807)(h2:w.lk.length<=9223372036854775807)(h3:w.pt.length<=9223372036854775807):ax ae 18 [.agg (jK w)] (.bool (decide (tP w))):=by
 have bD:=XE w ag;refine aR func18 ntmps18 results18 call18 rfl ay λw0 S0 M0=> ?_;repeat'(first|refine aB ?_|refine aC λK hK=> ?_|(refine kA ?_;clear hK K)|(intro hg;try exact aw)|exact fin|apply ai)
 refine dH (ι:=Nat) (λj=>[(1, .box 0 0),(3,i64 j)]) (λ_=>[.mu (jK w)]) (λ_=>[])
  (λj=>j<=w.rp.length/\∀i,i < j->tT w.st (nth w.rp i)) (λj=>w.rp.length - j) (λ_ _=>⟨rfl,rfl⟩) 0 ⟨cv _,λi h=>absurd h (fD i)⟩ (aV rfl (by try(refine av ?_;try exact trivial);try simp) ⟨_,rfl⟩ ⟨_,rfl⟩) (λj ⟨hj,hi⟩=> ?_)
 (refine av ?_;try exact trivial)
 repeat'(first|refine aB ?_|refine aC λK hK=> ?_|refine cA (bD _) ?_|refine cA (sD _ _ _) ?_|refine cA (yl _ _ _) ?_|(refine kA ?_;clear hK K)|(intro hg;try exact aw)|exact fin|apply ai)
 all_goals first
  |(exact⟨j + 1,⟨ag,all_succ hi (by unfold tT;omega)⟩,ag,aV rfl (by try(refine av ?_;try exact trivial);try simp) ⟨_,rfl⟩ ⟨_,rfl⟩⟩)
  |(rw[decide_eq_false];intro h;have:=h.1 j ag;unfold tT at this;omega)
  |skip
 refine dH (ι:=Nat) (λk=>[(1, .box 0 0),(5,i64 k)]) (λ_=>[.mu (jK w)]) (λ_=>[])
  (λk=>k<=w.lk.length/\∀i,i < k->tX w.st (nth w.lk i)) (λk=>w.lk.length - k) (λ_ _=>⟨rfl,rfl⟩) 0 ⟨cv _,λi h=>absurd h (fD i)⟩ (aV rfl (by try(refine av ?_;try exact trivial);try simp) ⟨_,rfl⟩ ⟨_,rfl⟩) (λk ⟨hk,Bo⟩=> ?_)
 (refine av ?_;try exact trivial)
 repeat'(first|refine aB ?_|refine aC λK hK=> ?_|refine cA (bD _) ?_|refine cA (sD _ _ _) ?_|refine cA (yl _ _ _) ?_|(refine kA ?_;clear hK K)|(intro hg;try exact aw)|exact fin|apply ai)
 all_goals first
  |(exact⟨k + 1,⟨ag,all_succ Bo (by unfold tX;omega)⟩,ag,aV rfl (by try(refine av ?_;try exact trivial);try simp) ⟨_,rfl⟩ ⟨_,rfl⟩⟩)
  |(rw[decide_eq_false];intro h;have:=h.2.1 k ag;unfold tX at this;omega)
  |skip
 refine dH (ι:=Nat) (λm=>[(1, .box 0 0),(7,i64 m)]) (λ_=>[.mu (jK w)]) (λ_=>[])
  (λm=>m<=w.pt.length/\∀i,i < m->tU (nth w.pt i)) (λm=>w.pt.length - m) (λ_ _=>⟨rfl,rfl⟩) 0 ⟨cv _,λi h=>absurd h (fD i)⟩ (aV rfl (by try(refine av ?_;try exact trivial);try simp) ⟨_,rfl⟩ ⟨_,rfl⟩) (λm ⟨hm,yN⟩=> ?_)
 have hA:(∀i,i < w.rp.length->tT w.st (nth w.rp i))=True:=eq_true λi h=>hi i ag;have hB:(∀i,i < w.lk.length->tX w.st (nth w.lk i))=True:=eq_true λi h=>Bo i ag
 (refine av ?_;try exact trivial)
 repeat'(first|refine aB ?_|refine aC λK hK=> ?_|refine cA (sD _ _ _) ?_|refine cA (yl _ _ _) ?_|(refine kA ?_;clear hK K)|(intro hg;try exact aw)|exact fin|apply ai)
 all_goals first
  |(exact⟨m + 1,⟨ag,all_succ yN (by unfold tU;omega)⟩,ag,aV rfl (by try(refine av ?_;try exact trivial);try simp) ⟨_,rfl⟩ ⟨_,rfl⟩⟩)
  |(rw[decide_eq_false];intro h;have:=h.2.2.1 m ag;unfold tU at this;omega)
  |(have hC:(∀i,i < w.pt.length->tU (nth w.pt i))=True:=eq_true λi h=>yN i ag
    refine gi ?_;simp only[tP,hA,hB,hC,decide_eq_true_eq,cJ,false_iff,iff_false,true_iff,iff_true,true_and];omega)
  |skip
theorem Xv (w:mC)(hs:¬(1<=w.st/\w.st<=6))(h1:w.rp.length<=9223372036854775807)(h2:w.lk.length<=9223372036854775807)(h3:w.pt.length<=9223372036854775807):ax ae 18 [.agg (jK w)] (.bool false):=by
 obtain⟨F,bD⟩:∃F:Int->Bool,∀x,ax ae 42 [.agg (jK w),i64 x] (.bool (F x)):=⟨λx=>(NN w x).choose,λx=>(NN w x).choose_spec⟩;have hd:decide (1<=w.st/\w.st<=6)=false:=decide_eq_false hs;have wI:ax ae 43 [i64 w.st,i64 1,i64 6] (.bool false):=hd▸sD w.st 1 6;refine aR func18 ntmps18 results18 call18 rfl ay λw0 S0 M0=> ?_;repeat'(first|refine aB ?_|refine aC λK hK=> ?_|(refine kA ?_;clear hK K)|(intro hg;try exact aw)|exact fin|apply ai)
 refine dH (ι:=Nat) (λj=>[(1, .box 0 0),(3,i64 j)]) (λ_=>[.mu (jK w)]) (λ_=>[])
  (λj=>j<=w.rp.length) (λj=>w.rp.length - j) (λ_ _=>⟨rfl,rfl⟩) 0 (cv _) (aV rfl (by try(refine av ?_;try exact trivial);try simp) ⟨_,rfl⟩ ⟨_,rfl⟩) (λj hj=> ?_)
 generalize hb:F (nth w.rp j).st=b;have PR:=bD (nth w.rp j).st;rw[hb]at PR
 (refine av ?_;try exact trivial)
 repeat'(first|refine aB ?_|refine aC λK hK=> ?_|refine cA (PR) ?_|refine cA (sD _ _ _) ?_|refine cA (yl _ _ _) ?_|(refine kA ?_;clear hK K)|(intro hg;try exact aw)|exact fin|apply ai)
 all_goals first
  |(exact⟨j + 1,ag,ag,aV rfl (by try(refine av ?_;try exact trivial);try simp) ⟨_,rfl⟩ ⟨_,rfl⟩⟩)
  |skip
 refine dH (ι:=Nat) (λk=>[(1, .box 0 0),(5,i64 k)]) (λ_=>[.mu (jK w)]) (λ_=>[])
  (λk=>k<=w.lk.length) (λk=>w.lk.length - k) (λ_ _=>⟨rfl,rfl⟩) 0 (cv _) (aV rfl (by try(refine av ?_;try exact trivial);try simp) ⟨_,rfl⟩ ⟨_,rfl⟩) (λk hk=> ?_)
 have A7:=bD (nth w.lk k).a;have PQ:=bD (nth w.lk k).b;generalize F (nth w.lk k).a=b2 at A7;generalize F (nth w.lk k).b=b3 at PQ
 (refine av ?_;try exact trivial)
 repeat'(first|refine aB ?_|refine aC λK hK=> ?_|refine cA (A7) ?_|refine cA (PQ) ?_|refine cA (sD _ _ _) ?_|refine cA (yl _ _ _) ?_|(refine kA ?_;clear hK K)|(intro hg;try exact aw)|exact fin|apply ai)
 all_goals first
  |(exact⟨k + 1,ag,ag,aV rfl (by try(refine av ?_;try exact trivial);try simp) ⟨_,rfl⟩ ⟨_,rfl⟩⟩)
  |skip
 refine dH (ι:=Nat) (λm=>[(1, .box 0 0),(7,i64 m)]) (λ_=>[.mu (jK w)]) (λ_=>[])
  (λm=>m<=w.pt.length) (λm=>w.pt.length - m) (λ_ _=>⟨rfl,rfl⟩) 0 (cv _) (aV rfl (by try(refine av ?_;try exact trivial);try simp) ⟨_,rfl⟩ ⟨_,rfl⟩) (λm hm=> ?_)
 (refine av ?_;try exact trivial)
 repeat'(first|refine aB ?_|refine aC λK hK=> ?_|refine cA (wI) ?_|refine cA (sD _ _ _) ?_|refine cA (yl _ _ _) ?_|(refine kA ?_;clear hK K)|(intro hg;try exact aw)|exact fin|apply ai)
 all_goals first
  |(exact⟨m + 1,ag,ag,aV rfl (by try(refine av ?_;try exact trivial);try simp) ⟨_,rfl⟩ ⟨_,rfl⟩⟩)
  |skip
theorem Xw (w:mC)(h1:w.rp.length<=9223372036854775807)(h2:w.lk.length<=9223372036854775807)(h3:w.pt.length<=9223372036854775807):ax ae 18 [.agg (jK w)] (.bool (decide (tP w))):=by
 by_cases hs:1<=w.st/\w.st<=6
 ·exact Xx w hs h1 h2 h3
 ·rw[decide_eq_false (λh=>hs h.2.2.2.1)];exact Xv w hs h1 h2 h3
end Go.Proofs.YtopobgihpdaggaaGreatDoor
namespace Go.Proofs.YtopobgihpdaggaaGreatDoor.Sc
set_option maxRecDepth 100000
set_option maxHeartbeats 4000000
open Go.Ab
attribute[local irreducible] az dI dR ax
theorem uM (n lo hi:Int):ax ae 21 [i64 n,i64 lo,i64 hi] (.bool (decide (lo<=n/\n<=hi))):=by
 refine aR func21 ntmps21 results21 call21 rfl ay λw0 S0 M0=> ?_;repeat'(first|refine aB ?_|refine aC λK hK=> ?_|(refine kA ?_;clear hK K)|(intro hg;try exact aw)|exact fin|apply ai)
 ·simp[hg]
 ·simp[hg]
theorem YX (n:Int):ax ae 31 [i64 n] (.bool (decide (-100000000<=n/\n<=100000000))):=by
 refine aR func31 ntmps31 results31 call31 rfl ay λw0 S0 M0=> ?_;repeat'(first|refine aB ?_|refine aC λK hK=> ?_|(refine kA ?_;clear hK K)|(refine bl (uM _ _ _) ?_;try refine fZ ?_)|(intro hg;try exact aw)|exact fin|apply ai)
theorem Y' (a b c:Int):ax ae 20 [.agg [i64 a,i64 b,i64 c]] (.bool (decide (qb a b c))):=by
 refine aR func20 ntmps20 results20 call20 rfl ay λw0 S0 M0=> ?_;repeat'(first|refine aB ?_|refine aC λK hK=> ?_|(refine kA ?_;clear hK K)|(refine bl (uM _ _ _) ?_;try refine fZ ?_)|(intro hg;try exact aw)|exact fin|apply ai)
 all_goals(refine gi ?_;simp only[decide_eq_true_eq,cJ,false_iff,iff_false,true_iff,iff_true];try simp only[qb];omega)
theorem Nx (k:Int)(h0:0<=k)(hk:k<=20):ax ae 29 [i64 k] (i64 (2 ^ k.toNat)):=by
 refine aR func29 ntmps29 results29 call29 rfl ay λw0 S0 M0=> ?_;repeat'(first|refine aB ?_|refine aC λK hK=> ?_|(refine kA ?_;clear hK K)|(intro hg;try exact aw)|exact fin|apply ai)
 refine dH (ι:=Nat) (λj=>[(0,i64 k),(3,i64 (2 ^ j)),(4,i64 j)]) (λ_=>[]) (λ_=>[])
  (λj=>(j:Int)<=k) (λj=>k.toNat - j) (λ_ _=>⟨rfl,rfl⟩) 0 h0 (aV rfl ?_ ⟨_,rfl⟩ ⟨_,rfl⟩) (λj hj=> ?_)
 ·try(refine fZ ?_;try exact trivial)
  simp
 have hb:(0:Int)<=2 ^ j/\(2:Int) ^ j<=1048576:=⟨Int.pow_nonneg ak,by
  have:(2:Nat) ^ j<=2 ^ 20:=Nat.pow_le_pow_right ak ag;have e:((2 ^ j:Nat):Int)=2 ^ j:=by simp
  omega⟩
 (refine fZ ?_;try exact trivial)
 repeat'(first|refine aB ?_|refine aC λK hK=> ?_|(refine kA ?_;clear hK K)|(intro hg;try exact aw)|exact fin|apply ai)
 ·refine⟨j + 1,ag,ag,aV rfl ?_ ⟨_,rfl⟩ ⟨_,rfl⟩⟩;try(refine fZ ?_;try exact trivial)
  simp[Int.pow_succ,Int.mul_comm]
 ·obtain rfl:j=k.toNat:=ag;rfl
theorem Ox (l:List Int)(hl:l.length<=9223372036854775807):ax ae 6 [ints l] (.bool (decide (gy l))):=by
 refine aR func6 ntmps6 results6 call6 rfl ay λw0 S0 M0=> ?_;repeat'(first|refine aB ?_|refine aC λK hK=> ?_|(refine kA ?_;clear hK K)|(intro hg;try exact aw)|exact fin|apply ai)
 refine dH (ι:=Nat) (λj=>[(0,ints l),(3,i64 (min 101 (dP (nth l) j))),(4,i64 j)]) (λ_=>[]) (λ_=>[])
  (λj=>j<=l.length/\∀i,i < j->0<=nth l i/\nth l i<=100) (λj=>l.length - j) (λ_ _=>⟨rfl,rfl⟩) 0 ⟨cv _,λi h=>absurd h (fD i)⟩ (aV rfl (by try(refine fZ ?_;try exact trivial);try simp[dP];try decide) ⟨_,rfl⟩ ⟨_,rfl⟩) (λj ⟨hj,hi⟩=> ?_)
 have h1:=VX (f:=nth l) (n:=j) (λi h=>(hi i h).1)
 (refine fZ ?_;try exact trivial)
 repeat'(first|refine aB ?_|refine aC λK hK=> ?_|(refine kA ?_;clear hK K)|(refine bl (uM _ _ _) ?_;try refine fZ ?_)|(intro hg;try exact aw)|exact fin|apply ai)
 ·have h9:¬gy l:=λh=>hg (h.1 j ag);simp[h9]
 ·refine⟨j + 1,⟨ag,λi h=> ?_⟩,ag,aV rfl (by try(refine fZ ?_;try exact trivial);simp[dP];omega) ⟨_,rfl⟩ ⟨_,rfl⟩⟩;by_cases h9:i=j
  ·rw[h9];exact hg
  ·exact hi i ag
 all_goals
  obtain rfl:j=l.length:=ag;refine gi ?_;simp only[decide_eq_true_eq,cJ];unfold gy;constructor
  ·intro h;first
   |exact h.elim
   |exact⟨hi,ag,ag,ag⟩
  ·rintro⟨_,h2,h3,h4⟩;first
   |omega
   |(exfalso;omega)
end Go.Proofs.YtopobgihpdaggaaGreatDoor.Sc
