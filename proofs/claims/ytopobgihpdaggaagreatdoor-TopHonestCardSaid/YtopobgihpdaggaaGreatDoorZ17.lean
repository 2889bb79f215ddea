import Derived.Test.YtopobgihpdaggaaGreatDoorZ16
set_option linter.unusedVariables false
set_option linter.unusedSimpArgs false
open And renaming intro->ai
open Bool renaming false_eq_true->cJ
open Nat renaming not_lt_zero->fD,zero_le->cv
open Go.Proofs.Tryz renaming prog->ae
open Go.Proofs.Tryz
namespace Go.Proofs.YtopobgihpdaggaaGreatDoor.Sc
set_option maxRecDepth 100000
set_option maxHeartbeats 4000000
open Go.Ab
attribute[local irreducible] az dI dR ax
theorem YW {c:Int}(hc:2<=c/\c<=3):∃m:Int,(2:Int) ^ c.toNat=m/\4<=m/\m<=8:=by
 obtain rfl|rfl:c=2\/c=3:=ag
 ·exact⟨4,ak,ak,ak⟩
 ·exact⟨8,ak,ak,ak⟩
theorem VY (c:Int)(W:List Int)(S:List (List Int))(hW:W.length<=1000000)(hS:S.length<=1000000):ax ae 19 [.agg [i64 c,ints W,rP S]] (.bool (decide (qa c W S))):=by
 have q0:(2<=c/\c<=3)->∃m:Int,ax ae 29 [i64 c] (i64 m)/\(4<=m/\m<=8)/\(2:Int) ^ c.toNat=m:=λhc=>by
  obtain⟨m,h1,h2⟩:=YW hc;have:=Nx c ag ag;rw[h1]at this;exact⟨m,this,h2,h1⟩
 refine aR func19 ntmps19 results19 call19 rfl ay λw0 S0 M0=> ?_;repeat'(first|refine aB ?_|refine aC λK hK=> ?_|(refine kA ?_;clear hK K)|(intro hg;try exact aw)|exact fin|apply ai)
 refine dH (ι:=Nat) (λi=>[(1, .box 0 0),(3,i64 i)]) (λ_=>[.mu [i64 c,ints W,rP S]]) (λ_=>[])
  (λi=>i<=W.length/\∀a,a < i->0<=nth W a/\nth W a<=100) (λi=>W.length - i) (λ_ _=>⟨rfl,rfl⟩) 0 ⟨cv _,λi h=>absurd h (fD i)⟩ (aV rfl (by try(refine av ?_;try exact trivial);try simp) ⟨_,rfl⟩ ⟨_,rfl⟩) (λi ⟨hi,hb⟩=> ?_)
 (refine av ?_;try exact trivial)
 repeat'(first|refine aB ?_|refine aC λK hK=> ?_|refine cA (uM _ _ _) ?_|(refine kA ?_;clear hK K)|(intro hg;try exact aw)|exact fin|apply ai)
 ·rw[decide_eq_false (λh=>hg (h.2.2.2.1 i ag))]
 ·refine⟨i + 1,⟨ag,λa h=> ?_⟩,ag,aV rfl (by try(refine av ?_;try exact trivial);try simp) ⟨_,rfl⟩ ⟨_,rfl⟩⟩;by_cases h9:a=i
  ·rw[h9];omega
  ·exact hb a ag
 ·rw[decide_eq_false (λh=>by have:=h.1;have:=h.2.1;have:=h.2.2.1;omega)]
 ·obtain⟨m,q1,hm,he⟩:=q0 ag;refine dH (ι:=Nat) (λk=>[(1, .box 0 0),(4,i64 k)]) (λ_=>[.mu [i64 c,ints W,rP S]]) (λ_=>[])
   (λk=>k<=S.length/\∀a,a < k->(nth S a).length=W.length/\∀b,b < (nth S a).length->1<=nth (nth S a) b/\nth (nth S a) b<=2 ^ c.toNat - 1) (λk=>S.length - k) (λ_ _=>⟨rfl,rfl⟩) 0 ⟨cv _,λi h=>absurd h (fD i)⟩ (aV rfl (by try(refine av ?_;try exact trivial);try simp) ⟨_,rfl⟩ ⟨_,rfl⟩) (λk ⟨hk,hd⟩=> ?_)
  (refine av ?_;try exact trivial)
  repeat'(first|refine aB ?_|refine aC λK hK=> ?_|(refine kA ?_;clear hK K)|(intro hg;try exact aw)|exact fin|apply ai)
  ·rw[decide_eq_false (λh=>by have:=(h.2.2.2.2 k ag).1;omega)]
  ·refine dH (ι:=Nat) (λj=>[(1, .box 0 0),(4,i64 k),(5,i64 j)]) (λ_=>[.mu [i64 c,ints W,rP S]]) (λ_=>[])
    (λj=>j<=(nth S k).length/\∀b,b < j->1<=nth (nth S k) b/\nth (nth S k) b<=2 ^ c.toNat - 1) (λj=>(nth S k).length - j) (λ_ _=>⟨rfl,rfl⟩) 0 ⟨cv _,λi h=>absurd h (fD i)⟩ (aV rfl (by try(refine av ?_;try exact trivial);try simp) ⟨_,rfl⟩ ⟨_,rfl⟩) (λj ⟨hj,hf⟩=> ?_)
   (refine av ?_;try exact trivial)
   repeat'(first|refine aB ?_|refine aC λK hK=> ?_|refine cA (q1) ?_|refine cA (uM _ _ _) ?_|(refine kA ?_;clear hK K)|(intro hg;try exact aw)|exact fin|apply ai)
   ·rw[decide_eq_false (λh=>by have:=(h.2.2.2.2 k ag).2 j ag;omega)]
   ·refine⟨j + 1,⟨ag,λa h=> ?_⟩,ag,aV rfl (by try(refine av ?_;try exact trivial);try simp) ⟨_,rfl⟩ ⟨_,rfl⟩⟩;by_cases h9:a=j
    ·rw[h9];omega
    ·exact hf a ag
   ·refine⟨k + 1,⟨ag,λa h=> ?_⟩,ag,aV rfl (by try(refine av ?_;try exact trivial);try simp) ⟨_,rfl⟩ ⟨_,rfl⟩⟩;by_cases h9:a=k
    ·rw[h9];exact⟨ag,λb hb=>hf b ag⟩
    ·exact hd a ag
  ·rw[decide_eq_true (show qa c W S from⟨ag,ag,ag,λa ha=>hb a ag,λa ha=>hd a ag⟩)]
 ·rw[decide_eq_false (λh=>by have:=h.1;have:=h.2.1;have:=h.2.2.1;omega)]
 ·rw[decide_eq_false (λh=>by have:=h.1;have:=h.2.1;have:=h.2.2.1;omega)]
end Go.Proofs.YtopobgihpdaggaaGreatDoor.Sc
namespace Go.Ab
open Go.RowKit Go
def jJ (d d':D):Prop:=∀(w:World) (g:Gh) (v:Value),Rel w g v d->Rel w g v d'
theorem jJ.refl (d:D):jJ d d:=λ_ _ _ h=>h
theorem jJ.nil:jJ (.val (.slice none 0 0)) (.list []):=λw g v h=>by
 cases h;exact .list g none 0 0 [] 0 (λ_=>Go.undef) rfl (λx hx=>by cases hx) (Nat.le_refl _) (λq hq=>by simp[flat]at hq) (λq d hd=>by simp[flat]at hd)
theorem jJ.agg {cs dp:List D}(hl:cs.length=dp.length)(h:∀(q:Nat) (d':D),dp[q]? =some d'->∃d,cs[q]? =some d/\jJ d d'):jJ (.agg cs) (.agg dp):=λw g v hv=>by
 cases hv with
 |agg _ vs _ h1 h2 h3=>
  refine .agg _ vs _ (by rw[h1,hl]) (λq hq=>h2 q ag) (λq d' hd=> ?_);obtain⟨d,Bt,eU⟩:=h q d' hd;exact eU _ _ _ (h3 q d Bt)
theorem ax.le {P:Program}{f:FuncId}{ds cu:List D}{d:D}(h:ax P f cu d)(hl:ds.length=cu.length)(hr:∀(q:Nat) (x':D),cu[q]? =some x'->∃x,ds[q]? =some x/\jJ x x'):ax P f ds d:=
 ⟨h.1,λS M w args ht hg hM hn b9=>h.2 S M w args ht hg hM ag (λq x' hx=>by
  obtain⟨x,h1,h2⟩:=hr q x' hx;exact h2 _ _ _ (b9 q x h1))⟩
end Go.Ab
namespace Go.Proofs.YtopobgihpdaggaaGreatDoor
set_option maxRecDepth 100000
set_option maxHeartbeats 4000000
open Go.Ab
attribute[local irreducible] az dI dR ax aT IA
instance(s:bh):Decidable (nD s):=by unfold nD;infer_instance
noncomputable instance(s:bh):Decidable (pj s):=Classical.propDecidable _
theorem XG (c:Int)(W:List Int)(hW:W.length<=1000000):ax ae 19 [.agg [i64 c,ints W, .val (.slice none 0 0)]] (.bool (decide (Sc.qa c W []))):=
 (Sc.VY c W [] hW ay).le rfl (λq x' hx=>by
  match q,hx with
  |0,hx=>
   cases hx;refine⟨_,rfl,jJ.agg rfl (λq d' hd=> ?_)⟩
   match q,hd with
   |0,hd=>cases hd;exact⟨_,rfl,jJ.refl _⟩
   |1,hd=>cases hd;exact⟨_,rfl,jJ.refl _⟩
   |2,hd=>cases hd;exact⟨_,rfl,jJ.nil⟩)
theorem WX (s:bh)(h:Cf s):ax ae 4 [fT s] (.bool (decide (nD s))):=by
 obtain⟨l1,l2,l3,l4,l5,l6,l7,l8⟩:=h;refine aR func4 ntmps4 results4 call4 rfl ay λw0 S0 M0=> ?_;repeat'(first|refine aB ?_|refine aC λK hK=> ?_|(refine kA ?_;clear hK K)|(intro hg;try exact aw)|exact fin|apply ai)
 refine dH (ι:=Nat) (λj=>[(1, .box 0 0),(3,i64 j)]) (λ_=>[.mu (cR s)]) (λ_=>[])
  (λj=>j<=s.bf.length/\j<=6/\∀i,i < j->(nth s.bf i).1.ck.length<=15) (λj=>s.bf.length - j) (λ_ _=>⟨rfl,rfl⟩) 0 ⟨cv _,ag,λi h=>absurd h (fD i)⟩ (aV rfl (by try(refine av ?_;try exact trivial);try simp) ⟨_,rfl⟩ ⟨_,rfl⟩) (λj ⟨hj,hj6,hi⟩=> ?_)
 have l9:=l8 j
 (refine av ?_;try exact trivial)
 repeat'(first|refine aB ?_|refine aC λK hK=> ?_|(refine kA ?_;clear hK K)|(intro hg;try exact aw)|exact fin|apply ai)
 all_goals first
  |(exact⟨j + 1,⟨ag,ag,λi h=>by
    rcases Nat.lt_or_ge i j with h1|h1
    ·exact hi i h1
    ·obtain rfl:i=j:=ag;omega⟩,ag,aV rfl (by try(refine av ?_;try exact trivial);try simp) ⟨_,rfl⟩ ⟨_,rfl⟩⟩)
  |(rw[decide_eq_false];intro h;have:=h.1 j ag ag;omega)
  |skip
 all_goals first
  |(rw[decide_eq_false (λh=>by unfold nD at h;omega)])
  |(refine gi ?_
    rw[decide_eq_true_iff,decide_eq_true_iff];unfold nD;constructor
    ·intro h0;refine⟨λi h1 h2=>hi i ag, ?_⟩;omega
    ·intro h0;omega)
  |skip
end Go.Proofs.YtopobgihpdaggaaGreatDoor
namespace Go.Proofs.YtopobgihpdaggaaGreatDoor
set_option maxRecDepth 100000
set_option maxHeartbeats 4000000
open Go.Ab
attribute[local irreducible] az dI dR ax aT IA
def Ja (s:bh)(x:cg×Int):Prop:=(0<=x.2/\x.2<=s.wd * s.rw - 1)/\fb x.1/\jc x.1
theorem Fv (s:bh):pj s↔(1<=s.bf.length/\s.bf.length<=3)/\(1<=s.dy/\s.dy<=4)/\ss s/\(∀i,i < s.bf.length->Ja s (nth s.bf i))/\
 qf s.fl s.tu s.mo/\xu s.to s.tf s.tm/\tP s.w/\Sc.qa s.cl s.wt []/\Sc.qb s.pb s.pr s.pl:=Iff.rfl
theorem NM (s:bh)(h:nD s)(hl:Cf s):ax ae 5 [fT s] (.bool (decide (pj s))):=by
 obtain⟨l1,l2,l3,l4,l5,l6,l7,l8⟩:=hl;obtain⟨m1,m2,m3,m4,m5,m6,m7,m8⟩:=h;have c0:=XM s;have c1:=XN s;have c2:=Yr s.fl s.tu s.mo ag ag;have c3:=XD s.to s.tf s.tm;have c4:=Xw s.w ag ag ag;have c5:=XG s.cl s.wt ag;have c6:=Sc.Y' s.pb s.pr s.pl;refine aR func5 ntmps5 results5 call5 rfl ay λw0 S0 M0=> ?_;repeat'(first|refine aB ?_|refine aC λK hK=> ?_|refine cA (Uf _ _ _) ?_|refine cA (c0) ?_|refine cA (c1) ?_|(refine kA ?_;clear hK K)|(intro hg;try exact aw)|exact fin|apply ai)
 all_goals first
  |(rw[decide_eq_false (λh=>by rw[Fv]at h;first|omega|exact absurd h.2.2.1 (by assumption))])
  |skip
 refine dH (ι:=Nat) (λj=>[(1, .box 0 0),(3,i64 j)]) (λ_=>[.mu (cR s)]) (λ_=>[])
  (λj=>j<=s.bf.length/\∀i,i < j->Ja s (nth s.bf i)) (λj=>s.bf.length - j) (λ_ _=>⟨rfl,rfl⟩) 0 ⟨cv _,λi h=>absurd h (fD i)⟩ (aV rfl (by try(refine av ?_;try exact trivial);try simp) ⟨_,rfl⟩ ⟨_,rfl⟩) (λj ⟨hj,hi⟩=> ?_)
 have c7:ss s:=by assumption
 have c8:=XH s c7;have c9:=λhj=>Wc (nth s.bf j).1 (l8 j hj)
 (refine av ?_;try exact trivial)
 repeat'(first|refine aB ?_|refine aC λK hK=> ?_|refine cA (c0) ?_|refine cA (c8 _) ?_|refine cA (c9 ag) ?_|refine cA (Yu _ (by assumption)) ?_|refine cA (c2) ?_|refine cA (c3) ?_|refine cA (c4) ?_|refine cA (c5) ?_|refine cA (c6) ?_|(refine kA ?_;clear hK K)|(intro hg;try exact aw)|exact fin|apply ai)
 all_goals first
  |(exact⟨j + 1,⟨ag,all_succ hi (by unfold Ja;refine⟨ag, ?_, ?_⟩<;>assumption)⟩,ag,aV rfl (by try(refine av ?_;try exact trivial);try simp) ⟨_,rfl⟩ ⟨_,rfl⟩⟩)
  |(rw[decide_eq_false (λh=>by
    rw[Fv]at h;first
    |omega
    |exact absurd (h.2.2.2.1 j ag).2.1 (by assumption)
    |exact absurd (h.2.2.2.1 j ag).2.2 (by assumption)
    |(have:=(h.2.2.2.1 j ag).1;omega)
    |exact absurd h.2.2.2.2.1 (by assumption)
    |exact absurd h.2.2.2.2.2.1 (by assumption)
    |exact absurd h.2.2.2.2.2.2.1 (by assumption)
    |exact absurd h.2.2.2.2.2.2.2.1 (by assumption))])
  |(refine gi ?_
    rw[decide_eq_true_iff,decide_eq_true_iff,Fv];refine⟨λh0=>⟨ag,ag,c7,λi h=>hi i ag,by assumption,by assumption,by assumption,by assumption,h0⟩,λh0=>h0.2.2.2.2.2.2.2.2⟩)
  |skip
theorem s6 {α:Type}{a:α}{l m:List α}:List.append (a::l) m=a::List.append l m:=rfl
theorem s0 {α:Type}{m:List α}:List.append ([]:List α) m=m:=rfl
theorem any_none {α:Type}[Inhabited α]{p:α->Bool}{l:List α}(h:∀i,i < l.length->p (nth l i)=false):l.any p=false:=by
 cases hb:l.any p with
 |false=>rfl
 |true=>
  obtain⟨i,hi,hp⟩:=Es.1 hb;rw[h i hi]at hp;cases hp
theorem Ot (n lo hi:Int):ax ae 129 [i64 n,i64 lo,i64 hi] (.bool (decide (lo<=n/\n<=hi))):=by
 refine aR func129 ntmps129 results129 call129 rfl ay λw0 S0 M0=> ?_;repeat'(first|refine aB ?_|refine aC λK hK=> ?_|(refine kA ?_;clear hK K)|(intro hg;try exact aw)|exact fin|apply ai)
 all_goals(refine gi ?_;simp only[decide_eq_true_eq,cJ,false_iff,iff_false,true_iff,iff_true];omega)
theorem YY (n lo hi:Int):ax ae 177 [i64 n,i64 lo,i64 hi] (.bool (decide (lo<=n/\n<=hi))):=by
 refine aR func177 ntmps177 results177 call177 rfl ay λw0 S0 M0=> ?_;repeat'(first|refine aB ?_|refine aC λK hK=> ?_|(refine kA ?_;clear hK K)|(intro hg;try exact aw)|exact fin|apply ai)
 all_goals(refine gi ?_;simp only[decide_eq_true_eq,cJ,false_iff,iff_false,true_iff,iff_true];omega)
theorem yq (n lo hi:Int):ax ae 65 [i64 n,i64 lo,i64 hi] (.bool (decide (lo<=n/\n<=hi))):=by
 refine aR func65 ntmps65 results65 call65 rfl ay λw0 S0 M0=> ?_;repeat'(first|refine aB ?_|refine aC λK hK=> ?_|(refine kA ?_;clear hK K)|(intro hg;try exact aw)|exact fin|apply ai)
 all_goals(refine gi ?_;simp only[decide_eq_true_eq,cJ,false_iff,iff_false,true_iff,iff_true];omega)
theorem uz (n lo hi:Int)(h:lo<=n/\n<=hi):ax ae 129 [i64 n,i64 lo,i64 hi] (.bool true):=by have:=Ot n lo hi;rwa [decide_eq_true h]at this
theorem nQ (n lo hi:Int)(h:lo<=n/\n<=hi):ax ae 177 [i64 n,i64 lo,i64 hi] (.bool true):=by have:=YY n lo hi;rwa [decide_eq_true h]at this
theorem F1 (n lo hi:Int)(h:lo<=n/\n<=hi):ax ae 65 [i64 n,i64 lo,i64 hi] (.bool true):=by have:=yq n lo hi;rwa [decide_eq_true h]at this
theorem aaR (l:List (Int×Int))(gf:FuncId)(cs:List D)(aE:Cl cs)(p:Int×Int->Bool)(hl:l.length<=9223372036854775807)(hp:∀i,i < l.length->ax ae gf (jy (nth l i)::cs) (.bool (p (nth l i)))):ax ae 224 [.list (l.map jy), .aD gf cs] (i64 (o9 p l)):=by
 refine aR func224 ntmps224 results224 call224 rfl ay λw0 S0 M0=> ?_;repeat'(first|refine bK ?_|((first|refine bL λK hK=> ?_|refine bI ?_|show bC _ _ _ _ _);(refine sX (ai @aE.1 (@aE.2)) ?_;try exact trivial))|(refine kA ?_;clear hK K)|(intro hg;try exact aw)|exact fin|apply ai)
 refine dH (ι:=Nat) (λj=>[(0, .list (l.map jy)),(1, .aD gf cs),(6, .list (l.map jy)),(7,i64 l.length),(8,i64 j)]) (λ_=>[]) (λ_=>[])
  (λj=>j<=l.length/\∀i,i < j->p (nth l i)=false) (λj=>l.length - j) (λ_ _=>⟨by simp[dA,db,aE.names],rfl⟩) 0 ⟨cv _,λi h=>absurd h (fD i)⟩ (aV rfl (by try(refine sX (ai @aE.1 (@aE.2)) ?_;try exact trivial);try simp) ⟨_,rfl⟩ ⟨_,rfl⟩) (λj ⟨hj,hi⟩=> ?_)
 (refine sX (ai @aE.1 (@aE.2)) ?_;try exact trivial)
 repeat'(first|refine bK ?_|((first|refine bL λK hK=> ?_|refine bI ?_|show bC _ _ _ _ _|refine bl (hp j ag) ?_);(refine sX (ai @aE.1 (@aE.2)) ?_;try exact trivial))|(refine kA ?_;clear hK K)|(intro hg;try exact aw)|exact fin|apply ai)
 all_goals first
  |(congr 1;exact(wV ag hi (by assumption)).symm)
  |(refine⟨j + 1,⟨ag,λi h=> ?_⟩,ag,aV rfl (by try(refine sX (ai @aE.1 (@aE.2)) ?_;try exact trivial);try simp) ⟨_,rfl⟩ ⟨_,rfl⟩⟩
    by_cases h9:i=j
    ·rw[h9];assumption
    ·exact hi i ag)
  |(congr 1;exact(wW λi h=>hi i ag).symm)
  |skip
theorem afv (l:List (Int×Int))(gf:FuncId)(cs:List D)(aE:Cl cs)(p:Int×Int->Bool)(hl:l.length<=9223372036854775807)(hp:∀i,i < l.length->ax ae gf (jy (nth l i)::cs) (.bool (p (nth l i)))):ax ae 159 [.list (l.map jy), .aD gf cs] (.bool (l.any p)):=by
 refine aR func159 ntmps159 results159 call159 rfl ay λw0 S0 M0=> ?_;repeat'(first|refine bK ?_|((first|refine bL λK hK=> ?_|refine bI ?_|show bC _ _ _ _ _|refine bl (aaR l gf cs aE p hl hp) ?_);(refine sX (ai @aE.1 (@aE.2)) ?_;try exact trivial))|(refine kA ?_;clear hK K)|(intro hg;try exact aw)|exact fin|apply ai)
 all_goals rw[wX]
theorem afw (l:List (Int×Int))(gf:FuncId)(cs:List D)(aE:Cl cs)(hl:l.length<=9223372036854775807)(hp:∀i,i < l.length->ax ae gf (jy (nth l i)::cs) (.bool false)):ax ae 159 [.list (l.map jy), .aD gf cs] (.bool false):=by
 have:=afv l gf cs aE (λ_=>false) hl hp
 rwa [any_none (λ_ _=>rfl)]at this
theorem aaS (l:List (ox))(gf:FuncId)(cs:List D)(aE:Cl cs)(p:ox->Bool)(hl:l.length<=9223372036854775807)(hp:∀i,i < l.length->ax ae gf (ln (nth l i)::cs) (.bool (p (nth l i)))):ax ae 235 [.list (l.map ln), .aD gf cs] (i64 (o9 p l)):=by
 refine aR func235 ntmps235 results235 call235 rfl ay λw0 S0 M0=> ?_;repeat'(first|refine bK ?_|((first|refine bL λK hK=> ?_|refine bI ?_|show bC _ _ _ _ _);(refine sX (ai @aE.1 (@aE.2)) ?_;try exact trivial))|(refine kA ?_;clear hK K)|(intro hg;try exact aw)|exact fin|apply ai)
 refine dH (ι:=Nat) (λj=>[(0, .list (l.map ln)),(1, .aD gf cs),(6, .list (l.map ln)),(7,i64 l.length),(8,i64 j)]) (λ_=>[]) (λ_=>[])
  (λj=>j<=l.length/\∀i,i < j->p (nth l i)=false) (λj=>l.length - j) (λ_ _=>⟨by simp[dA,db,aE.names],rfl⟩) 0 ⟨cv _,λi h=>absurd h (fD i)⟩ (aV rfl (by try(refine sX (ai @aE.1 (@aE.2)) ?_;try exact trivial);try simp) ⟨_,rfl⟩ ⟨_,rfl⟩) (λj ⟨hj,hi⟩=> ?_)
 (refine sX (ai @aE.1 (@aE.2)) ?_;try exact trivial)
 repeat'(first|refine bK ?_|((first|refine bL λK hK=> ?_|refine bI ?_|show bC _ _ _ _ _|refine bl (hp j ag) ?_);(refine sX (ai @aE.1 (@aE.2)) ?_;try exact trivial))|(refine kA ?_;clear hK K)|(intro hg;try exact aw)|exact fin|apply ai)
 all_goals first
  |(congr 1;exact(wV ag hi (by assumption)).symm)
  |(refine⟨j + 1,⟨ag,λi h=> ?_⟩,ag,aV rfl (by try(refine sX (ai @aE.1 (@aE.2)) ?_;try exact trivial);try simp) ⟨_,rfl⟩ ⟨_,rfl⟩⟩
    by_cases h9:i=j
    ·rw[h9];assumption
    ·exact hi i ag)
  |(congr 1;exact(wW λi h=>hi i ag).symm)
  |skip
theorem afx (l:List (ox))(gf:FuncId)(cs:List D)(aE:Cl cs)(p:ox->Bool)(hl:l.length<=9223372036854775807)(hp:∀i,i < l.length->ax ae gf (ln (nth l i)::cs) (.bool (p (nth l i)))):ax ae 178 [.list (l.map ln), .aD gf cs] (.bool (l.any p)):=by
 refine aR func178 ntmps178 results178 call178 rfl ay λw0 S0 M0=> ?_;repeat'(first|refine bK ?_|((first|refine bL λK hK=> ?_|refine bI ?_|show bC _ _ _ _ _|refine bl (aaS l gf cs aE p hl hp) ?_);(refine sX (ai @aE.1 (@aE.2)) ?_;try exact trivial))|(refine kA ?_;clear hK K)|(intro hg;try exact aw)|exact fin|apply ai)
 all_goals rw[wX]
theorem afy (l:List (ox))(gf:FuncId)(cs:List D)(aE:Cl cs)(hl:l.length<=9223372036854775807)(hp:∀i,i < l.length->ax ae gf (ln (nth l i)::cs) (.bool false)):ax ae 178 [.list (l.map ln), .aD gf cs] (.bool false):=by
 have:=afx l gf cs aE (λ_=>false) hl hp
 rwa [any_none (λ_ _=>rfl)]at this
theorem aaU (l:List (oz))(gf:FuncId)(cs:List D)(aE:Cl cs)(p:oz->Bool)(hl:l.length<=9223372036854775807)(hp:∀i,i < l.length->ax ae gf (lu (nth l i)::cs) (.bool (p (nth l i)))):ax ae 237 [.list (l.map lu), .aD gf cs] (i64 (o9 p l)):=by
 refine aR func237 ntmps237 results237 call237 rfl ay λw0 S0 M0=> ?_;repeat'(first|refine bK ?_|((first|refine bL λK hK=> ?_|refine bI ?_|show bC _ _ _ _ _);(refine sX (ai @aE.1 (@aE.2)) ?_;try exact trivial))|(refine kA ?_;clear hK K)|(intro hg;try exact aw)|exact fin|apply ai)
 refine dH (ι:=Nat) (λj=>[(0, .list (l.map lu)),(1, .aD gf cs),(6, .list (l.map lu)),(7,i64 l.length),(8,i64 j)]) (λ_=>[]) (λ_=>[])
  (λj=>j<=l.length/\∀i,i < j->p (nth l i)=false) (λj=>l.length - j) (λ_ _=>⟨by simp[dA,db,aE.names],rfl⟩) 0 ⟨cv _,λi h=>absurd h (fD i)⟩ (aV rfl (by try(refine sX (ai @aE.1 (@aE.2)) ?_;try exact trivial);try simp) ⟨_,rfl⟩ ⟨_,rfl⟩) (λj ⟨hj,hi⟩=> ?_)
 (refine sX (ai @aE.1 (@aE.2)) ?_;try exact trivial)
 repeat'(first|refine bK ?_|((first|refine bL λK hK=> ?_|refine bI ?_|show bC _ _ _ _ _|refine bl (hp j ag) ?_);(refine sX (ai @aE.1 (@aE.2)) ?_;try exact trivial))|(refine kA ?_;clear hK K)|(intro hg;try exact aw)|exact fin|apply ai)
 all_goals first
  |(congr 1;exact(wV ag hi (by assumption)).symm)
  |(refine⟨j + 1,⟨ag,λi h=> ?_⟩,ag,aV rfl (by try(refine sX (ai @aE.1 (@aE.2)) ?_;try exact trivial);try simp) ⟨_,rfl⟩ ⟨_,rfl⟩⟩
    by_cases h9:i=j
    ·rw[h9];assumption
    ·exact hi i ag)
  |(congr 1;exact(wW λi h=>hi i ag).symm)
  |skip
theorem afB (l:List (oz))(gf:FuncId)(cs:List D)(aE:Cl cs)(p:oz->Bool)(hl:l.length<=9223372036854775807)(hp:∀i,i < l.length->ax ae gf (lu (nth l i)::cs) (.bool (p (nth l i)))):ax ae 181 [.list (l.map lu), .aD gf cs] (.bool (l.any p)):=by
 refine aR func181 ntmps181 results181 call181 rfl ay λw0 S0 M0=> ?_;repeat'(first|refine bK ?_|((first|refine bL λK hK=> ?_|refine bI ?_|show bC _ _ _ _ _|refine bl (aaU l gf cs aE p hl hp) ?_);(refine sX (ai @aE.1 (@aE.2)) ?_;try exact trivial))|(refine kA ?_;clear hK K)|(intro hg;try exact aw)|exact fin|apply ai)
 all_goals rw[wX]
theorem afC (l:List (oz))(gf:FuncId)(cs:List D)(aE:Cl cs)(hl:l.length<=9223372036854775807)(hp:∀i,i < l.length->ax ae gf (lu (nth l i)::cs) (.bool false)):ax ae 181 [.list (l.map lu), .aD gf cs] (.bool false):=by
 have:=afB l gf cs aE (λ_=>false) hl hp
 rwa [any_none (λ_ _=>rfl)]at this
theorem aaT (l:List (oy))(gf:FuncId)(cs:List D)(aE:Cl cs)(p:oy->Bool)(hl:l.length<=9223372036854775807)(hp:∀i,i < l.length->ax ae gf (lq (nth l i)::cs) (.bool (p (nth l i)))):ax ae 238 [.list (l.map lq), .aD gf cs] (i64 (o9 p l)):=by
 refine aR func238 ntmps238 results238 call238 rfl ay λw0 S0 M0=> ?_;repeat'(first|refine bK ?_|((first|refine bL λK hK=> ?_|refine bI ?_|show bC _ _ _ _ _);(refine sX (ai @aE.1 (@aE.2)) ?_;try exact trivial))|(refine kA ?_;clear hK K)|(intro hg;try exact aw)|exact fin|apply ai)
 refine dH (ι:=Nat) (λj=>[(0, .list (l.map lq)),(1, .aD gf cs),(6, .list (l.map lq)),(7,i64 l.length),(8,i64 j)]) (λ_=>[]) (λ_=>[])
  (λj=>j<=l.length/\∀i,i < j->p (nth l i)=false) (λj=>l.length - j) (λ_ _=>⟨by simp[dA,db,aE.names],rfl⟩) 0 ⟨cv _,λi h=>absurd h (fD i)⟩ (aV rfl (by try(refine sX (ai @aE.1 (@aE.2)) ?_;try exact trivial);try simp) ⟨_,rfl⟩ ⟨_,rfl⟩) (λj ⟨hj,hi⟩=> ?_)
 (refine sX (ai @aE.1 (@aE.2)) ?_;try exact trivial)
 repeat'(first|refine bK ?_|((first|refine bL λK hK=> ?_|refine bI ?_|show bC _ _ _ _ _|refine bl (hp j ag) ?_);(refine sX (ai @aE.1 (@aE.2)) ?_;try exact trivial))|(refine kA ?_;clear hK K)|(intro hg;try exact aw)|exact fin|apply ai)
 all_goals first
  |(congr 1;exact(wV ag hi (by assumption)).symm)
  |(refine⟨j + 1,⟨ag,λi h=> ?_⟩,ag,aV rfl (by try(refine sX (ai @aE.1 (@aE.2)) ?_;try exact trivial);try simp) ⟨_,rfl⟩ ⟨_,rfl⟩⟩
    by_cases h9:i=j
    ·rw[h9];assumption
    ·exact hi i ag)
  |(congr 1;exact(wW λi h=>hi i ag).symm)
  |skip
theorem afz (l:List (oy))(gf:FuncId)(cs:List D)(aE:Cl cs)(p:oy->Bool)(hl:l.length<=9223372036854775807)(hp:∀i,i < l.length->ax ae gf (lq (nth l i)::cs) (.bool (p (nth l i)))):ax ae 184 [.list (l.map lq), .aD gf cs] (.bool (l.any p)):=by
 refine aR func184 ntmps184 results184 call184 rfl ay λw0 S0 M0=> ?_;repeat'(first|refine bK ?_|((first|refine bL λK hK=> ?_|refine bI ?_|show bC _ _ _ _ _|refine bl (aaT l gf cs aE p hl hp) ?_);(refine sX (ai @aE.1 (@aE.2)) ?_;try exact trivial))|(refine kA ?_;clear hK K)|(intro hg;try exact aw)|exact fin|apply ai)
 all_goals rw[wX]
theorem afA (l:List (oy))(gf:FuncId)(cs:List D)(aE:Cl cs)(hl:l.length<=9223372036854775807)(hp:∀i,i < l.length->ax ae gf (lq (nth l i)::cs) (.bool false)):ax ae 184 [.list (l.map lq), .aD gf cs] (.bool false):=by
 have:=afz l gf cs aE (λ_=>false) hl hp
 rwa [any_none (λ_ _=>rfl)]at this
theorem TU (p:Int×Int)(h:vC p):ax ae 160 [jy p] (.bool false):=by
 have h1:=h.1;have h2:=h.2.1;have h3:=h.2.2;refine aR func160 ntmps160 results160 call160 rfl ay λw0 S0 M0=> ?_;repeat'(first|refine aB ?_|refine aC λK hK=> ?_|(refine kA ?_;clear hK K)|(intro hg;try exact aw)|exact fin|apply ai)
 all_goals first|(rw[decide_eq_false ag])|skip
theorem TT (n:Int)(h:vo n):ax ae 161 [i64 n] (.bool false):=by
 have c1:=uz n 0 1023 h;refine aR func161 ntmps161 results161 call161 rfl ay λw0 S0 M0=> ?_;repeat'(first|refine aB ?_|refine aC λK hK=> ?_|refine cA (c1) ?_|(refine kA ?_;clear hK K)|(intro hg;try exact aw)|exact fin|apply ai)
 all_goals first|rfl|skip
theorem afD (l:List Int)(gf:FuncId)(hl:l.length<=9223372036854775807)(hp:∀i,i < l.length->ax ae gf [i64 (nth l i)] (.bool false)):ax ae 72 [ints l, .aD gf []] (.bool false):=by
 have:=Sc.Ei l gf [] ⟨λ_ _=>rfl,λ_ _=>rfl⟩ (λ_=>false) hl hp
 rwa [any_none (λ_ _=>rfl)]at this
theorem Jf (fl:List (Int×Int))(tu:List Int)(mo:Int)(h:qf fl tu mo):ax ae 116 [.agg (zp fl tu mo)] (.bool true):=by
 obtain⟨h1,h2,h3,h4,h5⟩:=h;have c1:=uz (fl.length:Int) 1 3 ag;have c2:=uz mo 0 2 ag;have c3:=afw fl 160 [] ⟨λ_ _=>rfl,λ_ _=>rfl⟩ ag (λi hi=>TU _ (h1 i hi));have c4:=afD tu 161 ag (λi hi=>TT _ (h2 i hi));refine aR func116 ntmps116 results116 call116 rfl ay λw0 S0 M0=> ?_;repeat'(first|refine aB ?_|refine aC λK hK=> ?_|refine cA (c1) ?_|refine cA (c2) ?_|refine cA (c3) ?_|refine cA (c4) ?_|(refine kA ?_;clear hK K)|(intro hg;try exact aw)|exact fin|apply ai)
 all_goals first|rfl|skip
theorem Uj (fl:List (Int×Int))(tu:List Int)(mo:Int)(h:qf fl tu mo):ax ae 89 [.agg (zp fl tu mo)] (i64 0):=by
 have c1:=Jf fl tu mo h;refine aR func89 ntmps89 results89 call89 rfl ay λw0 S0 M0=> ?_;repeat'(first|refine aB ?_|refine aC λK hK=> ?_|refine cA (c1) ?_|(refine kA ?_;clear hK K)|(intro hg;try exact aw)|exact fin|apply ai)
 all_goals first|rfl|skip
def Eh (a b d:Int)(n k:Int):Int:=(a + d * max 0 (n - b)) + (k - 1) * (((a + d * max 0 (n - b)) + 1) / 2)
theorem MT (a b d:Int)(h:xu a b d)(n k:Int)(hn:0<=n/\n<=100)(hk:1<=k/\k<=3):ax ae 88 [.agg [i64 a,i64 b,i64 d],i64 n,i64 k] (.aQ [i64 (Eh a b d n k),i64 0]):=by
 obtain⟨h1,h2,h3⟩:=h;have c1:=uz a 0 10000 h1;have c2:=uz d 0 10000 h2;have c3:=uz b 0 100 h3;have c4:=uz n 0 100 hn;have c5:=uz k 1 3 hk;have m1:0<=d * max 0 (n - b)/\d * max 0 (n - b)<=10000 * 100:=kv h2.1 h2.2 ag ag;unfold Eh;generalize hm:d * max 0 (n - b)=m at m1⊢;have m2:0<=(k - 1) * ((a + m + 1) / 2)/\(k - 1) * ((a + m + 1) / 2)<=2 * 1000000:=kv ag ag ag ag;have m3:(a + m + 1).tdiv 2=(a + m + 1) / 2:=Int.tdiv_eq_ediv_of_nonneg ag;refine aR func88 ntmps88 results88 call88 rfl ay λw0 S0 M0=> ?_;repeat'(first|refine bK ?_|((first|refine bL λK hK=> ?_|refine bI ?_|show bC _ _ _ _ _|refine bl (c1) ?_|refine bl (c2) ?_|refine bl (c3) ?_|refine bl (c4) ?_|refine bl (c5) ?_);(refine sX (ai @hm (@m3)) ?_;try exact trivial))|(refine kA ?_;clear hK K)|(intro hg;try exact aw)|exact fin|apply ai)
 all_goals first|rfl|omega|skip
theorem OM (a b m:Int)(h:0<=a/\a<=b/\b<=m):ax ae 236 [.agg [i64 a,i64 b],i64 m] (.bool true):=by
 refine aR func236 ntmps236 results236 call236 rfl ay λw0 S0 M0=> ?_;repeat'(first|refine aB ?_|refine aC λK hK=> ?_|(refine kA ?_;clear hK K)|(intro hg;try exact aw)|exact fin|apply ai)
 all_goals(rw[decide_eq_true ag])
theorem Un (w:mC)(hw:1<=w.st/\w.st<=6)(r:ox)(h:tT w.st r):ax ae 180 [.agg (jK w),ln r] (.bool true):=by
 obtain⟨h1,h2,h3,h4,h5,h6⟩:=h;have c1:=nQ r.st 0 (w.st - 1) h1;have c2:=nQ r.tk 0 10080 h2;have c3:=nQ r.pr 0 99999 h3;have c4:=OM r.dl r.dh 2880 h4;have c5:=nQ r.ur 0 2880 h5;have c6:=nQ r.co 0 10000 h6;refine aR func180 ntmps180 results180 call180 rfl ay λw0 S0 M0=> ?_;repeat'(first|refine aB ?_|refine aC λK hK=> ?_|refine cA (c1) ?_|refine cA (c2) ?_|refine cA (c3) ?_|refine cA (c4) ?_|refine cA (c5) ?_|refine cA (c6) ?_|(refine kA ?_;clear hK K)|(intro hg;try exact aw)|exact fin|apply ai)
 all_goals first|rfl|skip
theorem Up (w:mC)(hw:1<=w.st/\w.st<=6)(r:oz)(h:tX w.st r):ax ae 183 [.agg (jK w),lu r] (.bool true):=by
 obtain⟨h1,h2,h3,h4⟩:=h;have c1:=nQ r.a 0 (w.st - 1) h1;have c2:=nQ r.b 0 (w.st - 1) h2;have c3:=nQ r.d 1 99999 h4;have h5:(r.a=r.b)=False:=eq_false h3;refine aR func183 ntmps183 results183 call183 rfl ay λw0 S0 M0=> ?_;repeat'(first|refine bK ?_|((first|refine bL λK hK=> ?_|refine bI ?_|show bC _ _ _ _ _|refine bl (c1) ?_|refine bl (c2) ?_|refine bl (c3) ?_);(refine sX (@h5) ?_;try exact trivial))|(refine kA ?_;clear hK K)|(intro hg;try exact aw)|exact fin|apply ai)
 all_goals first|rfl|skip
theorem Uo (p:oy)(h:tU p):ax ae 186 [lq p] (.bool true):=by
 obtain⟨h1,h2,h3,h4⟩:=h;have c1:=OM p.ol p.oh 2880 h1;have c2:=nQ p.dy 0 50000 h3;have c3:=nQ p.ni 0 50000 h4;refine aR func186 ntmps186 results186 call186 rfl ay λw0 S0 M0=> ?_;repeat'(first|refine aB ?_|refine aC λK hK=> ?_|refine cA (c1) ?_|refine cA (c2) ?_|refine cA (c3) ?_|(refine kA ?_;clear hK K)|(intro hg;try exact aw)|exact fin|apply ai)
 all_goals first|rfl|skip
theorem Uw (w:mC)(hw:1<=w.st/\w.st<=6)(r:ox)(h:tT w.st r):ax ae 179 [ln r, .ro (jK w)] (.bool false):=by
 have c1:=Un w hw r h;refine aR func179 ntmps179 results179 call179 rfl ay λw0 S0 M0=> ?_;repeat'(first|refine aB ?_|refine aC λK hK=> ?_|refine cA (c1) ?_|(refine kA ?_;clear hK K)|(intro hg;try exact aw)|exact fin|apply ai)
 all_goals rfl
theorem Uv (w:mC)(hw:1<=w.st/\w.st<=6)(r:oz)(h:tX w.st r):ax ae 182 [lu r, .ro (jK w)] (.bool false):=by
 have c1:=Up w hw r h;refine aR func182 ntmps182 results182 call182 rfl ay λw0 S0 M0=> ?_;repeat'(first|refine aB ?_|refine aC λK hK=> ?_|refine cA (c1) ?_|(refine kA ?_;clear hK K)|(intro hg;try exact aw)|exact fin|apply ai)
 all_goals rfl
theorem Uu (p:oy)(h:tU p):ax ae 185 [lq p] (.bool false):=by
 have c1:=Uo p h;refine aR func185 ntmps185 results185 call185 rfl ay λw0 S0 M0=> ?_;repeat'(first|refine aB ?_|refine aC λK hK=> ?_|refine cA (c1) ?_|(refine kA ?_;clear hK K)|(intro hg;try exact aw)|exact fin|apply ai)
 all_goals rfl
theorem aff (w:mC)(h:tP w):ax ae 131 [.agg (jK w)] (.bool true):=by
 obtain⟨h1,h2,h3,h4,h5,h6,h7,h8,h9,y_,h11⟩:=h;have c1:=nQ w.st 1 6 h4;have c2:=nQ w.fa 1 99999 h8;have c3:=nQ w.wi 1 2880 h9;have c4:=nQ w.ho 1 2880 y_;have c5:=afy w.rp 179 [.ro (jK w)] ⟨λ_ _=>rfl,λ_ _=>rfl⟩ ag (λi hi=>Uw w h4 _ (h1 i hi));have c6:=afC w.lk 182 [.ro (jK w)] ⟨λ_ _=>rfl,λ_ _=>rfl⟩ ag (λi hi=>Uv w h4 _ (h2 i hi));have c7:=afA w.pt 185 [] ⟨λ_ _=>rfl,λ_ _=>rfl⟩ ag (λi hi=>Uu _ (h3 i hi));refine aR func131 ntmps131 results131 call131 rfl ay λw0 S0 M0=> ?_;repeat'(first|(refine ou 0 _ _ rfl rfl ?_;simp only[bF,Nat.reduceAdd])|refine bK ?_|((first|refine bL λK hK=> ?_|refine bI ?_|show bC _ _ _ _ _|refine bl (c1) ?_|refine bl (c2) ?_|refine bl (c3) ?_|refine bl (c4) ?_|refine bl (c5) ?_|refine bl (c6) ?_|refine bl (c7) ?_);(refine sX (ai @s6 (@s0)) ?_;try exact trivial))|(refine kA ?_;clear hK K)|(intro hg;try exact aw)|exact fin|apply ai)
 all_goals first|rfl|skip
theorem afg (w:mC)(h:tP w):ax ae 91 [.agg (jK w)] (i64 0):=by
 have c1:=aff w h;refine aR func91 ntmps91 results91 call91 rfl ay λw0 S0 M0=> ?_;repeat'(first|refine aB ?_|refine aC λK hK=> ?_|refine cA (c1) ?_|(refine kA ?_;clear hK K)|(intro hg;try exact aw)|exact fin|apply ai)
 all_goals first|rfl|skip
end Go.Proofs.YtopobgihpdaggaaGreatDoor
namespace Go.Proofs.YtopobgihpdaggaaGreatDoor
set_option maxRecDepth 100000
set_option maxHeartbeats 4000000
open Go.Ab
attribute[local irreducible] az dI dR ax aT IA fP
abbrev rI:D:= .val (.slice none 0 0)
abbrev ew (s:bh):List D:=[i64 s.wd,i64 s.rw,i64 s.sl,rI]
theorem HX (s:bh):ax ae 56 [fT s] (.agg (ew s)):=by
 refine aR func56 ntmps56 results56 call56 rfl ay λw0 S0 M0=> ?_;repeat'(first|refine aB ?_|refine aC λK hK=> ?_|(refine kA ?_;clear hK K)|(intro hg;try exact aw)|exact fin|apply ai)
 all_goals first|rfl|skip
theorem afH (W R:Nat)(sl:Int)(S:List dJ)(h:jH W R sl S):ax ae 90 [.agg (eQ W R sl S)] (i64 0):=by
 have c1:=Rt W R sl S h;refine aR func90 ntmps90 results90 call90 rfl ay λw0 S0 M0=> ?_;repeat'(first|refine aB ?_|refine aC λK hK=> ?_|refine cA (c1) ?_|(refine kA ?_;clear hK K)|(intro hg;try exact aw)|exact fin|apply ai)
 all_goals first|rfl|skip
theorem ag2 (a b c:D):jJ (.agg [a,b,c,rI]) (.agg [a,b,c, .list []]):=jJ.agg rfl (λq d' hd=>by
 match q,hd with
 |0,hd=>cases hd;exact⟨_,rfl,jJ.refl _⟩
 |1,hd=>cases hd;exact⟨_,rfl,jJ.refl _⟩
 |2,hd=>cases hd;exact⟨_,rfl,jJ.refl _⟩
 |3,hd=>cases hd;exact⟨_,rfl,jJ.nil⟩)
theorem aeC (s:bh)(h:ss s):ax ae 90 [.agg (ew s)] (i64 0):=by
 obtain⟨h1,h2,h3⟩:=h;obtain⟨W,hW⟩:∃W:Nat,s.wd=W:=⟨s.wd.toNat,ag⟩;obtain⟨R,hR⟩:∃R:Nat,s.rw=R:=⟨s.rw.toNat,ag⟩;have:ax ae 90 [.agg [i64 W,i64 R,i64 s.sl, .list []]] (i64 0):=afH W R s.sl [] ⟨ag,ag,h3,by simp,λi hi=>by simp at hi⟩;rw[<-hW,<-hR]at this;exact this.le rfl (λq x' hx=>by
  match q,hx with
  |0,hx=>cases hx;exact⟨_,rfl,ag2 _ _ _⟩)
theorem Xa (c:Int)(W:List Int)(h:Sc.qa c W []):ax ae 92 [.agg [i64 c,ints W,rI]] (i64 0):=by
 have:=Sc.Y1 c W [];rw[if_pos h]at this;exact this.le rfl (λq x' hx=>by
  match q,hx with
  |0,hx=>
   cases hx;refine⟨_,rfl,jJ.agg rfl (λq d' hd=> ?_)⟩
   match q,hd with
   |0,hd=>cases hd;exact⟨_,rfl,jJ.refl _⟩
   |1,hd=>cases hd;exact⟨_,rfl,jJ.refl _⟩
   |2,hd=>cases hd;exact⟨_,rfl,jJ.nil⟩)
theorem Y4 (a b c:Int)(h:Sc.qb a b c):∃n,ax ae 87 [.agg [i64 a,i64 b,i64 c],i64 0] (.aQ [i64 n,i64 0]):=by
 have:=Sc.Y3 a b c 0;rw[if_pos ⟨h,ag,ag⟩]at this;exact⟨_,this⟩
theorem acE (x:cg)(hs:fb x)(hc:jc x):ax ae 93 [iP x,i64 0] (.aQ [ql (rM x 0) (rN x 0),i64 0]):=by
 have c1:ax ae 134 [i64 0,i64 0,i64 400] (.bool true):=D3 0 0 400;have c2:=Sy x hs hc;have c3:=PA x hs 0 ag;refine aR func93 ntmps93 results93 call93 rfl ay λw0 S0 M0=> ?_;repeat'(first|refine aB ?_|((first|(show az _ (.region 1 _ true) _ _;refine tN [(2,6)] Tryz.ty.mixed aj λK hK=> ?_)|show Sep _ _);refine av ?_)|refine aC λK hK=> ?_|refine cA (c1) ?_|refine cA (c2) ?_|refine cA (c3) ?_|(refine kA ?_;clear hK K)|(intro hg;try exact aw)|exact fin|apply ai)
 all_goals first|rfl|skip
theorem RS (s:bh)(h:pj s):ax ae 54 [fT s] (i64 0):=by
 obtain⟨h1,h2,h3,h4,h5,h6,h7,h8,h9⟩:=h;obtain⟨pn,c1⟩:=Y4 s.pb s.pr s.pl h9;have c2:=MT s.to s.tf s.tm h6 0 1 ag ag;have c3:=Uj s.fl s.tu s.mo h5;have c4:=HX s;have c5:=aeC s h3;have c6:=afg s.w h7;have c7:=Xa s.cl s.wt h8;have c8:=F1 (s.bf.length:Int) 1 3 ag;have c9:=F1 s.dy 1 4 h2;have m1:0<=s.wd * s.rw/\s.wd * s.rw<=6 * 5:=kv (by have:=h3.1;omega) h3.1.2 (by have:=h3.2.1;omega) h3.2.1.2;generalize Eh s.to s.tf s.tm 0 1=cn at c2;refine aR func54 ntmps54 results54 call54 rfl ay λw0 S0 M0=> ?_;repeat'(first|refine aB ?_|refine aC λK hK=> ?_|refine cA (c1) ?_|refine cA (c2) ?_|refine cA (c3) ?_|refine cA (c4) ?_|refine cA (c5) ?_|refine cA (c6) ?_|refine cA (c7) ?_|(refine kA ?_;clear hK K)|(intro hg;try exact aw)|exact fin|apply ai)
 refine lJ 7 ?_;repeat'(first|(refine lp ?_)|refine aB ?_|refine aC λK hK=> ?_|refine cA (c8) ?_|refine cA (c9) ?_|(refine kA ?_;clear hK K)|(intro hg;try exact aw)|exact fin|apply ai)
 all_goals first|rfl|skip
 refine dH (ι:=Nat) (λj=>[(1, .box 0 0),(61, .list (s.bf.map k9)),(62,i64 s.bf.length),(63,i64 j)]) (λ_=>[.mu (cR s)]) (λ_=>[])
  (λj=>j<=s.bf.length) (λj=>s.bf.length - j) (λ_ _=>⟨rfl,rfl⟩) 0 (cv _) (aV rfl (by try(refine av ?_;try exact trivial);try simp) ⟨_,rfl⟩ ⟨_,rfl⟩) (λj hj=> ?_)
 have d1:=λhj=>acE (nth s.bf j).1 (h4 j hj).2.1 (h4 j hj).2.2;have d2:=λhj=>F1 (nth s.bf j).2 0 (s.wd * s.rw - 1) (h4 j hj).1
 (refine av ?_;try exact trivial)
 repeat'(first|refine aB ?_|refine aC λK hK=> ?_|refine cA (d1 ag) ?_|refine cA (d2 ag) ?_|(refine kA ?_;clear hK K)|(intro hg;try exact aw)|exact fin|apply ai)
 all_goals first|(exact⟨j + 1,ag,ag,aV rfl (by try(refine av ?_;try exact trivial);try simp) ⟨_,rfl⟩ ⟨_,rfl⟩⟩)|rfl|skip
end Go.Proofs.YtopobgihpdaggaaGreatDoor
namespace Go.Proofs.YtopobgihpdaggaaGreatDoor
set_option maxRecDepth 100000
set_option maxHeartbeats 4000000
open Go.Ab
attribute[local irreducible] az dI dR ax aT IA fP aZ
def oW (T:List Int)(n:Int)(f:Int):Int:=if n=63\/n - 48=f then 1 else if vn ((nth T f.toNat).fdiv (2 ^ (n - 48).toNat)) 1=1 then 2 else 0
def H7 (n:Int):Prop:=(48<=n/\n<=57)\/n=63
abbrev nG (F:List (Int×Int))(T:List Int)(mo:Int):List D:=[.list (F.map jy),ints T,i64 mo]
def xh (T:List Int):Prop:=T.length=10/\∀i,i < 10->0<=nth T i/\nth T i<=1023
theorem ac3 {a:Int}(h:0<=a/\a<=1023)(k:Nat):0<=a.fdiv (2 ^ k)/\a.fdiv (2 ^ k)<=1023:=by
 have h2:(0:Int) < 2 ^ k:=Int.pow_pos ak;rw[Int.fdiv_eq_ediv_of_nonneg _ ag];exact⟨Int.ediv_nonneg h.1 ag,Int.le_trans (Int.ediv_le_self _ h.1) h.2⟩
theorem abD (F:List (Int×Int))(T:List Int)(mo n f:Int)(hT:xh T)(hn:H7 n)(hf:0<=f/\f<=9):ax ae 169 [.agg (nG F T mo), .int .u8 n,i64 f] (i64 (oW T n f)):=by
 have hb:=hT.2 f.toNat ag;have hTl:=hT.1;unfold H7 at hn;have DO:0<=(nth T f.toNat).fdiv (2 ^ (n - 48).toNat)/\(nth T f.toNat).fdiv (2 ^ (n - 48).toNat)<=1023:=ac3 hb _;refine aR func169 ntmps169 results169 call169 rfl ay λw0 S0 M0=> ?_;repeat'(first|refine aB ?_|refine aC λK hK=> ?_|(refine kA ?_;clear hK K)|(intro hg;try exact aw)|exact fin|apply ai)
 all_goals first
  |omega
  |(unfold oW;simp[*];done)
  |trace_state
def q6 (C:List (List ByteArray))(i at_ pl:Nat):Int:=((nth (nth C i) at_).data.getD pl 0).toNat
def sQ (T:List Int)(mo:Int)(C:List (List ByteArray))(at_ pl:Nat)(f:Int):Nat->List Int->Nat->List Int×Bool
 |0,n,_=>(n,true)
 |k + 1,n,i=>
  if oW T (q6 C i at_ pl) f=0 then(n,false)
  else if mo < nth (if oW T (q6 C i at_ pl) f=2 then n.set i (nth n i + 1)else n) i then(if oW T (q6 C i at_ pl) f=2 then n.set i (nth n i + 1)else n,false)
  else sQ T mo C at_ pl f k (if oW T (q6 C i at_ pl) f=2 then n.set i (nth n i + 1)else n) (i + 1)
def jL (T:List Int)(mo:Int)(C:List (List ByteArray))(n:List Int)(at_ pl:Nat)(f:Int):List Int×Bool:=sQ T mo C at_ pl f C.length n 0
def vD (k:Nat)(C:List (List ByteArray)):Prop:=C.length<=3/\∀i,i < C.length->(nth C i).length=k + 1/\∀q,q<=k->(nth (nth C i) q).size=5/\∀p,p < 5->H7 (q6 C i q p)
def oB (mo:Int)(n:List Int):Prop:=n.length=3/\∀i,i < 3->0<=nth n i/\nth n i<=mo
abbrev RM (C:List (List ByteArray)):D:= .list (C.map λc=> .list (c.map D.str))
abbrev kU (F:List (Int×Int))(T:List Int)(mo:Int)(C:List (List ByteArray)):List D:=[.list (F.map jy),ints T,i64 mo,RM C]
abbrev ja (n:List Int):List D:=n.map λ(x:Int)=>i64 x
theorem xc {mo a b c:Int}(h1:0<=a/\a<=mo)(h2:0<=b/\b<=mo)(h3:0<=c/\c<=mo):oB mo [a,b,c]:=⟨rfl,λi hi=>by
 match i,hi with
 |0,_=>exact h1
 |1,_=>exact h2
 |2,_=>exact h3⟩
theorem afs {C:List (List ByteArray)}{j at_ pl:Nat}(h:pl < (nth (nth C j) at_).size):q6 C j at_ pl=((nth (nth C j) at_)[pl]'h).toNat:=by
 unfold q6;have h':pl < (nth (nth C j) at_).data.size:=h;rw[Array.getD_eq_getD_getElem?,Array.getElem?_eq_getElem h'];rfl
theorem Zx {α:Type}[Inhabited α]{a:α}{l:List α}:nth (a::l) 0=a:=rfl
theorem Zw {α:Type}[Inhabited α]{a b:α}{l:List α}:nth (a::b::l) 1=b:=rfl
theorem Zv {α:Type}[Inhabited α]{a b c:α}{l:List α}:nth (a::b::c::l) 2=c:=rfl
theorem oB.three {mo:Int}{n:List Int}(h:oB mo n):∃a b c:Int,n=[a,b,c]/\(0<=a/\a<=mo)/\(0<=b/\b<=mo)/\(0<=c/\c<=mo):=by
 match n,h.1 with
 |[a,b,c],_=>exact⟨a,b,c,rfl,h.2 0 ak,h.2 1 ak,h.2 2 ak⟩
theorem abE (T:List Int)(n f:Int):oW T n f=0\/oW T n f=1\/oW T n f=2:=by unfold oW;split<;>(try split)<;>simp
theorem Oo (F:List (Int×Int))(T:List Int)(mo:Int)(C:List (List ByteArray))(n0:List Int)(k at_ pl:Nat)(f:Int)(hT:xh T)(hC:vD k C)(hn:oB mo n0)(kY:0<=mo/\mo<=2)(ha:at_<=k)(hk:k<=3)(hp:pl < 5)(hf:0<=f/\f<=9):
  ax ae 123 [.agg (kU F T mo C), .agg (ja n0),i64 at_,i64 pl,i64 f] (.aQ [.agg (ja (jL T mo C n0 at_ pl f).1), .bool (jL T mo C n0 at_ pl f).2]):=by
 have bE:=hC.1;obtain⟨R,hR⟩:∃R,R=jL T mo C n0 at_ pl f:=⟨_,rfl⟩;rw[<-hR];refine aR func123 ntmps123 results123 call123 rfl ay λw0 S0 M0=> ?_;repeat'(first|refine aB ?_|refine aC λK hK=> ?_|(refine kA ?_;clear hK K)|(intro hg;try exact aw)|exact fin|apply ai)
 refine dH (ι:=Nat×List Int) (λi=>[(2,i64 at_),(3,i64 pl),(4,i64 f),(5, .box 0 0),(6, .box 1 0),(10, .box 2 0),(15,RM C),(16,i64 C.length),(17,i64 i.1)]) (λi=>[.mu (kU F T mo C), .mu (ja i.2), .mu [i64 0,i64 0,i64 0]]) (λ_=>[])
  (λi=>i.1<=C.length/\oB mo i.2/\sQ T mo C at_ pl f (C.length - i.1) i.2 i.1=R) (λi=>C.length - i.1) (λ_ hi=>⟨rfl,by obtain⟨a,b,c,e,_⟩:=hi.2.1.three;rw[e];rfl⟩) (0,n0) ⟨cv _,hn,hR.symm⟩ (aV rfl (by try(refine av ?_;try exact trivial);try simp) ⟨_,rfl⟩ ⟨_,rfl⟩) (λi hi=> ?_)
 obtain⟨j,n⟩:=i;obtain⟨hj,yT,dV⟩:=hi;simp only at hj yT dV⊢;by_cases aU:j < C.length
 ·obtain⟨a,b,c,rfl,ha1,hO,By⟩:=yT.three;have r6:=hC.2 j aU;have Qs:=r6.2 at_ ha;have c1:=abD F T mo (q6 C j at_ pl) f hT (Qs.2 pl hp) hf;have bD:C.length - j=(C.length - (j + 1)) + 1:=ag;rw[bD]at dV;have h1:=r6.1;have h2:=Qs.1;have h3:pl < (nth (nth C j) at_).size:=ag;have e1:q6 C j at_ pl=((nth (nth C j) at_)[pl]'h3).toNat:=afs h3
  simp only[sQ]at dV;rw[e1]at c1 dV;generalize hw:oW T ((nth (nth C j) at_)[pl]'h3).toNat f=v at c1 dV
  have hv:v=0\/v=1\/v=2:=by rw[<-hw];exact abE _ _ _
  clear hw;have Hd:j=0\/j=1\/j=2:=ag;rcases Hd with rfl|rfl|rfl<;>rcases hv with rfl|rfl|rfl
  all_goals simp only[Int.reduceEq,if_true,if_false,reduceIte,List.set,Zx,Zw,Zv]at dV
  all_goals
   (refine av ?_;try exact trivial)
   repeat'(first|refine aB ?_|refine aC λK hK=> ?_|refine cA (c1) ?_|(refine kA ?_;clear hK K)|((refine Exists.intro ag ?_))|(intro hg;try exact aw)|exact fin|apply ai)
  all_goals first
   |(show(_:Bool)=true;kernel_rfl)
   |omega
   |(subst dV;rfl)
   |(rw[if_pos ag]at dV;subst dV;rfl)
   |(rw[if_neg ag]at dV;refine⟨(1,[a,b,c]),⟨by simp only;omega,xc ag ag ag,dV⟩,by simp only;omega, ?_⟩;exact aV rfl (by try(refine av ?_;try exact trivial);try simp) ⟨_,rfl⟩ ⟨_,rfl⟩)
   |(rw[if_neg ag]at dV;refine⟨(1,[a + 1,b,c]),⟨by simp only;omega,xc ag ag ag,dV⟩,by simp only;omega, ?_⟩;exact aV rfl (by try(refine av ?_;try exact trivial);try simp) ⟨_,rfl⟩ ⟨_,rfl⟩)
   |(rw[if_neg ag]at dV;refine⟨(2,[a,b,c]),⟨by simp only;omega,xc ag ag ag,dV⟩,by simp only;omega, ?_⟩;exact aV rfl (by try(refine av ?_;try exact trivial);try simp) ⟨_,rfl⟩ ⟨_,rfl⟩)
   |(rw[if_neg ag]at dV;refine⟨(2,[a,b + 1,c]),⟨by simp only;omega,xc ag ag ag,dV⟩,by simp only;omega, ?_⟩;exact aV rfl (by try(refine av ?_;try exact trivial);try simp) ⟨_,rfl⟩ ⟨_,rfl⟩)
   |(rw[if_neg ag]at dV;refine⟨(3,[a,b,c]),⟨by simp only;omega,xc ag ag ag,dV⟩,by simp only;omega, ?_⟩;exact aV rfl (by try(refine av ?_;try exact trivial);try simp) ⟨_,rfl⟩ ⟨_,rfl⟩)
   |(rw[if_neg ag]at dV;refine⟨(3,[a,b,c + 1]),⟨by simp only;omega,xc ag ag ag,dV⟩,by simp only;omega, ?_⟩;exact aV rfl (by try(refine av ?_;try exact trivial);try simp) ⟨_,rfl⟩ ⟨_,rfl⟩)
   |trace_state
 ·obtain rfl:j=C.length:=ag;rw[Nat.sub_self]at dV;simp only[sQ]at dV;subst dV;obtain⟨a,b,c,rfl,ha1,hO,By⟩:=yT.three
  (refine av ?_;try exact trivial)
  repeat'(first|refine aB ?_|refine aC λK hK=> ?_|(refine kA ?_;clear hK K)|(intro hg;try exact aw)|exact fin|apply ai)
  all_goals trace_state
theorem Oq {T:List Int}{mo:Int}{C:List (List ByteArray)}{at_ pl:Nat}{f:Int}:∀(k:Nat) (n:List Int) (i:Nat),oB mo n->i + k<=3->
  (sQ T mo C at_ pl f k n i).1.length=3/\((sQ T mo C at_ pl f k n i).2=true->oB mo (sQ T mo C at_ pl f k n i).1)
 |0,n,i,h,_=>⟨h.1,λ_=>h⟩
 |k + 1,n,i,h,hk=>by
  simp only[sQ];by_cases h0:oW T (q6 C i at_ pl) f=0
  ·rw[if_pos h0];exact⟨h.1,λhh=>by cases hh⟩
  ·rw[if_neg h0];have en:i < n.length:=by rw[h.1];omega
   have h4:=h.2 i ag;have e1:nth (n.set i (nth n i + 1)) i=nth n i + 1:=by simp[nth,en]
   generalize tg:(if oW T (q6 C i at_ pl) f=2 then n.set i (nth n i + 1)else n)=n';have hl:n'.length=3:=by rw[<-tg];split<;>simp[h.1]
   have h5:0<=nth n' i:=by
    rw[<-tg];split
    ·rw[e1];omega
    ·omega
   have h6:∀q,q≠i->nth n' q=nth n q:=λq hq=>by
    rw[<-tg];split
    ·simp[nth,List.getElem?_set_ne (Ne.symm hq)]
    ·rfl
   by_cases hm:mo < nth n' i
   ·rw[if_pos hm];exact⟨hl,λhh=>by cases hh⟩
   ·rw[if_neg hm];refine Oq k n' (i + 1) ⟨hl,λq hq=> ?_⟩ ag;by_cases PT:q=i
    ·subst PT;omega
    ·rw[h6 q PT];exact h.2 q hq
theorem F0 {k:Nat}{T:List Int}{mo:Int}{C:List (List ByteArray)}{at_ pl:Nat}{f:Int}{n:List Int}(hC:vD k C)(h:oB mo n):(jL T mo C n at_ pl f).1.length=3/\((jL T mo C n at_ pl f).2=true->oB mo (jL T mo C n at_ pl f).1):=
 Oq _ n 0 h (by have:=hC.1;omega)
def mw (T:List Int)(mo:Int)(C:List (List ByteArray))(n:List Int)(at_ pl:Nat):Nat->List (Nat×List Int)
 |0=>[]
 |j + 1=>mw T mo C n at_ pl j++(if(jL T mo C n at_ pl (j:Nat)).2=true then[(j,(jL T mo C n at_ pl (j:Nat)).1)]else[])
abbrev BV (x:Nat×List Int):List D:=[i64 (x.1:Nat), .agg (ja x.2)]
theorem RY {T:List Int}{mo:Int}{C:List (List ByteArray)}{n:List Int}{at_ pl j:Nat}:∀m,j<=m->∃t,mw T mo C n at_ pl m=mw T mo C n at_ pl j++t
 |0,h=>by
  obtain rfl:j=0:=ag;exact⟨[],by simp[mw]⟩
 |m + 1,h=>by
  by_cases hj:j=m + 1
  ·subst hj;exact⟨[],by simp⟩
  ·obtain⟨t,ht⟩:=RY (T:=T) (mo:=mo) (C:=C) (n:=n) (at_:=at_) (pl:=pl) (j:=j) m ag;exact⟨_,by simp only[mw];rw[ht,List.append_assoc]⟩
theorem afL {T:List Int}{mo:Int}{C:List (List ByteArray)}{n:List Int}{at_ pl j:Nat}(hj:j < 10)(h:(jL T mo C n at_ pl (j:Nat)).2=true):
  ((mw T mo C n at_ pl 10).map BV)[(mw T mo C n at_ pl j).length]? =some [i64 (j:Nat), .agg (ja (jL T mo C n at_ pl (j:Nat)).1)]:=by
 obtain⟨t,ht⟩:=RY (T:=T) (mo:=mo) (C:=C) (n:=n) (at_:=at_) (pl:=pl) (j:=j + 1) 10 ag;rw[ht];simp[mw,h]
theorem RZ {T:List Int}{mo:Int}{C:List (List ByteArray)}{n:List Int}{at_ pl k:Nat}(hC:vD k C)(hn:oB mo n):∀m,∀x∈mw T mo C n at_ pl m,x.1 < m/\oB mo x.2
 |0,x,h=>by cases h
 |m + 1,x,h=>by
  simp only[mw]at h;rcases List.mem_append.1 h with h|h
  ·have:=RZ hC hn m x h;exact⟨ag,this.2⟩
  ·split at h
   ·rename_i h2;rw[List.mem_singleton]at h;subst h
    exact⟨Nat.lt_succ_self _,(F0 hC hn).2 h2⟩
   ·cases h
theorem afK (F:List (Int×Int))(T:List Int)(mo:Int)(C:List (List ByteArray))(n:List Int)(k at_ pl:Nat)(hT:xh T)(hC:vD k C)(hn:oB mo n)(kY:0<=mo/\mo<=2)(ha:at_<=k)(hk:k<=3)(hp:pl < 5):
  Iter ae 170 [.ro (kU F T mo C), .ro (ja n), .ro [i64 (at_:Nat)], .ro [i64 (pl:Nat)]] ((mw T mo C n at_ pl 10).map BV):=by
 obtain⟨L,hL⟩:∃L:Nat->List (Nat×List Int),L=mw T mo C n at_ pl:=⟨_,rfl⟩;have jF:∀j:Nat,j < 10->(jL T mo C n at_ pl (j:Nat)).2=true->((L 10).map BV)[(L j).length]? =some [i64 (j:Nat), .agg (ja (jL T mo C n at_ pl (j:Nat)).1)]:=λj hj h=>by rw[hL];exact afL hj h
 have P7:∀j:Nat,(L (j + 1)).length=(L j).length + (if(jL T mo C n at_ pl (j:Nat)).2=true then 1 else 0):=λj=>by rw[hL];simp only[mw];split<;>simp
 have qQ:(L 0).length=0:=by rw[hL];rfl
 rw[<-hL];have jO:=λj:Nat=>λhj:j < 10=>Oo F T mo C n k at_ pl (j:Nat) hT hC hn kY ha hk hp ag;have yL:∀j:Nat,(jL T mo C n at_ pl (j:Nat)).1.length=3:=λj=>(F0 hC hn).1;generalize hP:(λj:Nat=>jL T mo C n at_ pl (j:Nat))=P at *;have QB:∀j:Nat,jL T mo C n at_ pl (j:Nat)=P j:=λj=>by rw[<-hP]
 simp only[QB]at jF P7 jO yL;clear hP QB hL;obtain⟨a,b,c,rfl,_⟩:=hn.three;refine Gu func170 ntmps170 results170 call170 rfl ay λl J Jx=> ?_;repeat'(first
   |refine qv ?_
   |refine qB ?_
   |refine qw ?_
   |refine qy ?_
   |refine qu ?_
   |refine qA ?_
   |refine qx ?_
   |(refine qz ?_;(refine av ?_;try exact trivial))
   |(refine jC λw0 S0 M0 oq=>mA λK hK=> ?_;(refine av ?_;try exact trivial))
   |(refine jC λw0 S0 M0 oq=>ph Tryz.ty.mixed aj λK hK=> ?_;(refine av ?_;try exact trivial))
   |(refine hK _ ?_;clear hK K;simp only[dE,dG,if_true,Nat.reduceEqDiff,reduceIte])
   |(show dE _ _ _ _ _;simp only[dE,dG,if_true,Nat.reduceEqDiff,reduceIte])
   |(show ji _ _ _ _;simp only[ji,dE,dG,if_true,Nat.reduceEqDiff,reduceIte])
   |(show dG _ _ _ _ _;simp only[dE,dG,if_true,Nat.reduceEqDiff,reduceIte])
   |(intro hg;first|(exfalso;omega)|(exfalso;contradiction)|skip)
   |apply ai
   |(with_reducible rfl)
   |(clear hK;omega)
   |omega)
 refine Gy (ι:=Nat) (λj=>[(0, .val (.func (.yield l) #[] #[])),(1, .ro (kU F T mo C)),(2, .ro (ja [a,b,c])),(3, .ro [i64 (at_:Nat)]),(4, .ro [i64 (pl:Nat)]),(9,i64 (j:Nat))]) (λj=>(true,(L j).length)) (λj=>j<=10) (λj=>10 - j) (λ_ _=>rfl) 0 (cv _) (by simp[qQ]) (aV rfl (by try(refine av ?_;try exact trivial);try simp) ⟨_,rfl⟩ ⟨_,rfl⟩) (λj hj=> ?_);by_cases aU:j < 10
 ·have c1:=jO j aU;have hy:=jF j aU;have hs:=P7 j;obtain⟨a',b',c',hR⟩:∃a' b' c':Int,(P j).1=[a',b',c']:=by
   match h:(P j).1,yL j with
   |[x,y,z],_=>exact⟨x,y,z,rfl⟩
  cases h2:(P j).2 with
  |true=>
   have hy:=hy h2;rw[h2,if_pos rfl]at hs;rw[h2]at c1;rw[hR]at c1 hy
   (refine av ?_;try exact trivial)
   repeat'(first
     |refine qv ?_
     |refine qB ?_
     |refine qw ?_
     |refine qy ?_
     |refine qu ?_
     |refine qA ?_
     |refine qx ?_
     |(refine qz ?_;(refine av ?_;try exact trivial))
     |((refine bl (c1) ?_;try(refine av ?_;try exact trivial)))
     |((show IA _ (.region 4 _ _) _ _ _;refine PD 5 rfl λK1 aK=> ?_;(refine av ?_;try exact trivial)))
     |(refine jC λw0 S0 M0 oq=>mA λK hK=> ?_;(refine av ?_;try exact trivial))
     |(refine jC λw0 S0 M0 oq=>ph Tryz.ty.mixed aj λK hK=> ?_;(refine av ?_;try exact trivial))
     |(refine hK _ ?_;clear hK K;simp only[dE,dG,if_true,Nat.reduceEqDiff,reduceIte])
     |(show dE _ _ _ _ _;simp only[dE,dG,if_true,Nat.reduceEqDiff,reduceIte])
     |(show ji _ _ _ _;simp only[ji,dE,dG,if_true,Nat.reduceEqDiff,reduceIte])
     |(show dG _ _ _ _ _;simp only[dE,dG,if_true,Nat.reduceEqDiff,reduceIte])
     |(intro hg;first|(exfalso;omega)|(exfalso;contradiction)|skip)
     |apply ai
     |(with_reducible rfl)
     |(clear hK;omega)
     |omega)
   all_goals
    refine aK _ _ rfl rfl ?_ ?_ ?_ (λb=> ?_)
    ·exact hy
    ·(refine av ?_;try exact trivial)
    ·intro q b e;cases e;exact⟨22,rfl,rfl⟩
    ·clear aK K1
     (refine av ?_;try exact trivial)
     repeat'(first
       |refine qv ?_
       |refine qB ?_
       |refine qw ?_
       |refine qy ?_
       |refine qu ?_
       |refine qA ?_
       |refine qx ?_
       |(refine qz ?_;(refine av ?_;try exact trivial))
       |(refine jC λw0 S0 M0 oq=>mA λK hK=> ?_;(refine av ?_;try exact trivial))
       |(refine jC λw0 S0 M0 oq=>ph Tryz.ty.mixed aj λK hK=> ?_;(refine av ?_;try exact trivial))
       |(refine hK _ ?_;clear hK K;simp only[dE,dG,if_true,Nat.reduceEqDiff,reduceIte])
       |(show dE _ _ _ _ _;simp only[dE,dG,if_true,Nat.reduceEqDiff,reduceIte])
       |(show ji _ _ _ _;simp only[ji,dE,dG,if_true,Nat.reduceEqDiff,reduceIte])
       |(show dG _ _ _ _ _;simp only[dE,dG,if_true,Nat.reduceEqDiff,reduceIte])
       |(intro hg;first|(exfalso;omega)|(exfalso;contradiction)|skip)
       |apply ai
       |(with_reducible rfl)
       |(clear hK;omega)
       |omega)
     all_goals first
     |(exfalso;simp_all;done)
     |(simp_all;done)
     |(have Hn:b=true:=by simp_all
       subst Hn;exact⟨j + 1,ag,ag,by rw[hs],aV rfl (by try(refine av ?_;try exact trivial);try simp) ⟨_,rfl⟩ ⟨_,rfl⟩⟩)
     |trace_state
  |false=>
   rw[h2,if_neg ay]at hs;rw[h2]at c1;rw[hR]at c1
   (refine av ?_;try exact trivial)
   repeat'(first
     |refine qv ?_
     |refine qB ?_
     |refine qw ?_
     |refine qy ?_
     |refine qu ?_
     |refine qA ?_
     |refine qx ?_
     |(refine qz ?_;(refine av ?_;try exact trivial))
     |((refine bl (c1) ?_;try(refine av ?_;try exact trivial)))
     |(refine jC λw0 S0 M0 oq=>mA λK hK=> ?_;(refine av ?_;try exact trivial))
     |(refine jC λw0 S0 M0 oq=>ph Tryz.ty.mixed aj λK hK=> ?_;(refine av ?_;try exact trivial))
     |(refine hK _ ?_;clear hK K;simp only[dE,dG,if_true,Nat.reduceEqDiff,reduceIte])
     |(show dE _ _ _ _ _;simp only[dE,dG,if_true,Nat.reduceEqDiff,reduceIte])
     |(show ji _ _ _ _;simp only[ji,dE,dG,if_true,Nat.reduceEqDiff,reduceIte])
     |(show dG _ _ _ _ _;simp only[dE,dG,if_true,Nat.reduceEqDiff,reduceIte])
     |(intro hg;first|(exfalso;omega)|(exfalso;contradiction)|skip)
     |apply ai
     |(with_reducible rfl)
     |(clear hK;omega)
     |omega)
   all_goals exact⟨j + 1,ag,ag,by rw[hs];rfl,aV rfl (by try(refine av ?_;try exact trivial);try simp) ⟨_,rfl⟩ ⟨_,rfl⟩⟩
 ·obtain rfl:j=10:=ag
  (refine av ?_;try exact trivial)
  repeat'(first
    |refine qv ?_
    |refine qB ?_
    |refine qw ?_
    |refine qy ?_
    |refine qu ?_
    |refine qA ?_
    |refine qx ?_
    |(refine qz ?_;(refine av ?_;try exact trivial))
    |(refine jC λw0 S0 M0 oq=>mA λK hK=> ?_;(refine av ?_;try exact trivial))
    |(refine jC λw0 S0 M0 oq=>ph Tryz.ty.mixed aj λK hK=> ?_;(refine av ?_;try exact trivial))
    |(refine hK _ ?_;clear hK K;simp only[dE,dG,if_true,Nat.reduceEqDiff,reduceIte])
    |(show dE _ _ _ _ _;simp only[dE,dG,if_true,Nat.reduceEqDiff,reduceIte])
    |(show ji _ _ _ _;simp only[ji,dE,dG,if_true,Nat.reduceEqDiff,reduceIte])
    |(show dG _ _ _ _ _;simp only[dE,dG,if_true,Nat.reduceEqDiff,reduceIte])
    |(intro hg;first|(exfalso;omega)|(exfalso;contradiction)|skip)
    |apply ai
    |(with_reducible rfl)
    |(clear hK;omega)
    |omega)
  all_goals trace_state
theorem afJ (F:List (Int×Int))(T:List Int)(mo:Int)(C:List (List ByteArray))(n:List Int)(at_ pl:Nat)(hn:oB mo n):ax ae 124 [.agg (kU F T mo C), .agg (ja n),i64 (at_:Nat),i64 (pl:Nat)] (.aD 170 [.ro (kU F T mo C), .ro (ja n), .ro [i64 (at_:Nat)], .ro [i64 (pl:Nat)]]):=by
 obtain⟨a,b,c,rfl,_⟩:=hn.three;refine aR func124 ntmps124 results124 call124 rfl ay λw0 S0 M0=> ?_;repeat'(first|(refine ou 0 _ _ rfl rfl ?_;simp only[bF,Nat.reduceAdd])|(refine ou 1 _ _ rfl rfl ?_;simp only[bF,Nat.reduceAdd])|(refine ou 2 _ _ rfl rfl ?_;simp only[bF,Nat.reduceAdd])|(refine ou 3 _ _ rfl rfl ?_;simp only[bF,Nat.reduceAdd])|refine aB ?_|refine aC λK hK=> ?_|(refine kA ?_;clear hK K)|(intro hg;try exact aw)|exact fin|apply ai)
end Go.Proofs.YtopobgihpdaggaaGreatDoor
