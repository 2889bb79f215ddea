import Derived.Test.YtopobgihpdaggaaGreatDoorZ23
set_option linter.unusedVariables false
set_option linter.unusedSimpArgs false
open And renaming intro->ai
open List renaming append_nil->bN,cons_append->bR,foldr->bU,getD_cons_zero->xJ,nil_append->bQ,replicate->bP
open Go.Proofs.Tryz renaming f58->xr,prog->ae
open Go.Proofs.Tryz
namespace Go.Proofs.YtopobgihpdaggaaGreatDoor
set_option maxRecDepth 100000
set_option maxHeartbeats 4000000
open Go.Ab
attribute[local irreducible] az dI dR ax aT IA fP aZ gZ
theorem zZ {a:D}{l:List D}{k:D->Prop}:sF (a::l) 0 k=k a:=by simp[sF]
theorem zY {a b:D}{l:List D}{k:D->Prop}:sF (a::b::l) 1 k=k b:=by simp[sF]
theorem afh (x y:Int):ax ae 173 [i64 x,i64 y] (i64 (Lib.compareInt x y)):=by
 refine BW (λ_ _=> .int _ _ _) call173 λS M w args hl hr=> ?_
 match args,hl with
 |[a,b],_=>
  have h1:=hr 0 _ rfl;have h2:=hr 1 _ rfl;simp only[xJ,List.getD_cons_succ]at h1 h2;cases h1;cases h2
  exact Tryz.cmp_Compare_int x y w
theorem Z1:ax ae 172 [.int .u64 2] (i64 2):=by
 refine BW (λ_ _=> .int _ _ _) call172 λS M w args hl hr=> ?_
 match args,hl with
 |[a],_=>
  have h1:=hr 0 _ rfl;simp only[xJ]at h1;cases h1;exact Tryz.bits_Len 2 w ak ak
theorem afi (x y:Int)(xs ys:List Int)(iB:y < x):ax ae 126 [ints (x::xs),ints (y::ys)] (i64 1):=by
 have c1:=afh x y;rw[show Lib.compareInt x y=1 by unfold Lib.compareInt;simp;omega]at c1;refine aR func126 ntmps126 results126 call126 rfl ay λw0 S0 M0=> ?_;repeat'(first|(show az _ (.loop _) _ _;refine lJ 1 ?_)|(refine lp ?_)|refine aB ?_|refine aC λK hK=> ?_|refine cA (c1) ?_|(refine kA ?_;clear hK K)|(intro hg;try exact aw)|exact fin|apply ai)
 all_goals trace_state
theorem aa6 (x y:Int)(xs ys:List Int)(iB:y < x):ax ae 225 [.list [ints (y::ys),ints (x::xs)],i64 0,i64 2, .aD 126 []] (.aQ []):=by
 have c1:=afi x y xs ys iB;refine aR func225 ntmps225 results225 call225 rfl ay λw0 S0 M0=> ?_;repeat'(first|(show az _ (.loop _) _ _;refine lJ 2 ?_)|(refine lp ?_)|refine bK ?_|((first|refine bL λK hK=> ?_|refine bI ?_|show bC _ _ _ _ _|refine bl (c1) ?_);(refine sX (ai @zZ (@zY)) ?_;try exact trivial))|(refine kA ?_;clear hK K)|(intro hg;try exact aw)|exact fin|apply ai)
 all_goals trace_state
theorem Y0 (x y:Int)(xs ys:List Int)(iB:y < x):ax ae 171 [.list [ints (y::ys),ints (x::xs)],i64 0,i64 2,i64 2, .aD 126 []] (.aQ []):=by
 have c1:=aa6 x y xs ys iB;refine aR func171 ntmps171 results171 call171 rfl ay λw0 S0 M0=> ?_;repeat'(first|(show az _ (.loop _) _ _;refine lJ 1 ?_)|(refine lp ?_)|refine aB ?_|refine aC λK hK=> ?_|refine cA (c1) ?_|(refine kA ?_;clear hK K)|(intro hg;try exact aw)|exact fin|apply ai)
 all_goals trace_state
theorem WV (x y:Int)(xs ys:List Int)(iB:y < x):ax ae 125 [.list [ints (y::ys),ints (x::xs)], .aD 126 []] (.aQ []):=by
 have c1:=Y0 x y xs ys iB;have c2:=Z1;refine aR func125 ntmps125 results125 call125 rfl ay λw0 S0 M0=> ?_;repeat'(first|refine aB ?_|refine aC λK hK=> ?_|refine cA (c1) ?_|refine cA (c2) ?_|(refine kA ?_;clear hK K)|((refine hK _ ?_;clear hK K;show bC _ _ _ _ _))|(intro hg;try exact aw)|exact fin|apply ai)
 all_goals first|rfl|trace_state
def BI (k:Nat):Nat:=5 * (k + 1) + k + 1
def px (k:Nat):List Int:=bP k 0
theorem WR {F:List (Int×Int)}{T:List Int}{mo:Int}{C:List (List ByteArray)}(hT:xh T)(hC:vD F.length C)(kY:0<=mo/\mo<=2)(hF:1<=F.length/\F.length<=3):SW F T mo C (BI F.length) 0 0 0 [0,0,0] (px F.length):=
 ⟨hT,hC,kY,hF,xc ag ag ag,by simp[px],ag,ag,by unfold BI;omega,ag,λi hi=>by
  have:nth (px F.length) i=0:=by simp[nth,px,hi]
  rw[this];simp⟩
theorem ZJ (F:List (Int×Int))(T:List Int)(mo:Int)(C:List (List ByteArray))(hT:xh T)(hC:vD F.length C)(kY:0<=mo/\mo<=2)(hF:1<=F.length/\F.length<=3)(y x:Int)(ys xs:List Int)(iB:y < x)
  (hs:kr F T mo C (BI F.length) 0 0 0 [0,0,0] (px F.length)=[y::ys,x::xs]):ax ae 86 [.agg (kU F T mo C)] (.list [ints (y::ys),ints (x::xs)]):=by
 have c1:=W_ F T mo C (BI F.length) 0 0 0 [0,0,0] (px F.length) [] (WR hT hC kY hF) (by rw[hs];simp);rw[hs]at c1;have c2:=WV x y xs ys iB;have hz:gm (px F.length)=bP F.length (i64 0):=by simp[px]
 refine aR func86 ntmps86 results86 call86 rfl ay λw0 S0 M0=> ?_;repeat'(first|(show az _ (.region 6 _ _) _ _;refine b_ ?_)|refine aB ?_|refine aC λK hK=> ?_|(refine kA ?_;clear hK K)|(intro hg;try exact aw)|exact fin|apply ai)
 refine cI ?_;have gV:(bP F.length [D.int .i64 0]).flatten=gm (px F.length):=by simp[px]
 rw[gV];refine tO 1 0 24 1 _ rfl rfl ?_;refine k_ (dD 20 [(3, .box 1 0),(6, .box 5 0)] (vg F T mo C (px F.length)) [Ao []]) (aV rfl (by simp[put]) ⟨[],rfl⟩ ⟨[],rfl⟩) (gT rfl (zt _ _ _ _ _)) (Nat.zero_le _) ?_;simp only[dD,bU,vg];repeat'(first|(show az _ (.region 6 _ _) _ _;refine eo 2 rfl (λK1 aK=> ?_);refine av ?_)|(refine aK _ (cC c1 (by show(16:Nat) < 20;decide) rfl rfl rfl rfl ?_);clear aK K1;rintro d aF aL ⟨rfl,rfl,rfl⟩;simp only[bF,Nat.reduceAdd];refine av ?_)|refine aB ?_|refine aC λK hK=> ?_|refine cA (c2) ?_|(refine kA ?_;clear hK K)|(intro hg;try exact aw)|exact fin|apply ai)
 all_goals first|rfl|trace_state
def E7 (s:ByteArray):Prop:=s.size=5/\∀k (h:k < s.size),48<=(s[k]'h).toNat/\(s[k]'h).toNat<=57
def I8 (k:Nat)(g:List ByteArray):Prop:=g.length=k + 1/\∀q,q<=k->E7 (nth g q)
def E8 (k:Nat)(C:List (List ByteArray)):Prop:=(1<=C.length/\C.length<=3)/\∀i,i < C.length->I8 k (nth C i)
theorem E7.Sd {s:ByteArray}(h:E7 s):∀k (hk:k < s.size),(s[k]'hk).toNat < 128:=λk hk=>by have:=h.2 k hk;omega
theorem ac0 (c:Nat)(h:48<=c/\c<=57):ax ae 165 [.int .i32 c] (.bool true):=by
 refine aR func165 ntmps165 results165 call165 rfl ay λw0 S0 M0=> ?_;repeat'(first|refine aB ?_|refine aC λK hK=> ?_|(refine kA ?_;clear hK K)|(intro hg;try exact aw)|exact fin|apply ai)
 all_goals first|omega|(congr 1;exact decide_eq_true ag)|trace_state
theorem PV (c:Nat)(h:48<=c/\c<=57):ax ae 166 [.int .i32 c] (.bool false):=by
 refine aR func166 ntmps166 results166 call166 rfl ay λw0 S0 M0=> ?_;repeat'(first|refine aB ?_|refine aC λK hK=> ?_|(refine kA ?_;clear hK K)|(intro hg;try exact aw)|exact fin|apply ai)
 all_goals first|(congr 1;exact decide_eq_false ag)|trace_state
theorem ae7 (c:Nat)(h:48<=c/\c<=57):ax ae 164 [.int .i32 c] (.bool true):=by
 have c1:=ac0 c h;have c2:=PV c h;refine aR func164 ntmps164 results164 call164 rfl ay λw0 S0 M0=> ?_;repeat'(first|refine aB ?_|refine aC λK hK=> ?_|refine cA (c1) ?_|refine cA (c2) ?_|(refine kA ?_;clear hK K)|(intro hg;try exact aw)|exact fin|apply ai)
 all_goals first|rfl|trace_state
theorem Zp (s:ByteArray)(h:E7 s):ax ae 163 [.str s, .aD 164 []] (.bool true):=by
 refine aR func163 ntmps163 results163 call163 rfl ay λw0 S0 M0=> ?_;repeat'(first|(show az _ (.seq (.region 1 _ _) _) _ _;refine b_ ?_)|refine aB ?_|refine aC λK hK=> ?_|(refine kA ?_;clear hK K)|(intro hg;try exact aw)|exact fin|apply ai)
 refine cI ?_;refine Iy (str:=s) rfl aj h.Sd (by show 7 < 19;decide) (by show 8 < 19;decide) (by show 9 < 19;decide) (by show 10 < 19;decide) ak rfl rfl rfl (λk=>[(0, .str s),(1, .aD 164 [])]) (λk=>rfl) (λB=>aV rfl (by try(refine av ?_;try exact trivial);try simp) ⟨_,rfl⟩ ⟨_,rfl⟩) (λB k hk w1 S1 M1 o1=> ?_) (λB=> ?_)
 ·have Br:=h.2 k hk;have c1:=ae7 _ Br;generalize(s[k]'hk).toNat=c at *
  show az ⟨ae,w1,S1,M1,none,o1,[]⟩ _ _ _
  (refine av ?_;try exact trivial)
  repeat'(first|refine aB ?_|refine aC λK hK=> ?_|refine cA (c1) ?_|(refine kA ?_;clear hK K)|(intro hg;try exact aw)|exact fin|apply ai)
  all_goals first|trivial|exact aV rfl (by try(refine av ?_;try exact trivial)) ⟨_,rfl⟩ ⟨_,rfl⟩
 ·simp only[cF];have hs:=h.1
  (refine av ?_;try exact trivial)
  repeat'(first|refine aB ?_|refine aC λK hK=> ?_|(refine kA ?_;clear hK K)|(intro hg;try exact aw)|exact fin|apply ai)
  all_goals first|rfl|(rw[hs];rfl)|trace_state
abbrev bW (g:List ByteArray):D:= .list (g.map D.str)
theorem aa4 (F:List (Int×Int))(T:List Int)(mo:Int)(g:List ByteArray)(hg:I8 F.length g)(hF:F.length<=3):ax ae 119 [.agg (nG F T mo),bW g] (.bool true):=by
 have hgl:=hg.1;refine aR func119 ntmps119 results119 call119 rfl ay λw0 S0 M0=> ?_;repeat'(first|refine aB ?_|refine aC λK hK=> ?_|(refine kA ?_;clear hK K)|(intro hg;try exact aw)|exact fin|apply ai)
 refine eI ((aO.freeze 0 rfl rfl).trans (aO.read 2 rfl)) ?_;refine dH (ι:=Nat) (λj=>[(1,bW g),(2, .ro (nG F T mo)),(5,i64 0),(10,bW g),(11,i64 g.length),(12,i64 j)]) (λ_=>[]) (λ_=>[])
  (λj=>j<=g.length) (λj=>g.length - j) (λ_ _=>⟨by simp[dA,db],rfl⟩) 0 (Nat.zero_le _) (aV rfl (by try(refine av ?_;try exact trivial);try simp) ⟨_,rfl⟩ ⟨_,rfl⟩) (λj hj=> ?_)
 by_cases eu:j < g.length
 ·have hd:=hg.2 j ag;have c1:=Zp _ hd
  (refine av ?_;try exact trivial)
  repeat'(first|(show az _ (.seq (.region 7 _ _) _) _ _;refine b_ ?_)|refine aB ?_|refine aC λK hK=> ?_|refine cA (c1) ?_|(refine kA ?_;clear hK K)|(intro hg;try exact aw)|exact fin|apply ai)
  all_goals refine cI ?_
  refine Iy (str:=nth g j) rfl aj hd.Sd (by show 19 < 40;decide) (by show 20 < 40;decide) (by show 21 < 40;decide) (by show 22 < 40;decide) ak rfl rfl rfl (λk=>[(1,bW g),(2, .ro (nG F T mo)),(5,i64 0),(10,bW g),(11,i64 g.length),(12,i64 j)]) (λk=>by simp[dA,db]) (λB=>aV rfl (by try(refine av ?_;try exact trivial);try simp) ⟨_,rfl⟩ ⟨_,rfl⟩) (λB k hk w1 S1 M1 o1=> ?_) (λB=> ?_)
  ·have Br:=hd.2 k hk;have c1:=PV _ Br;generalize((nth g j)[k]'hk).toNat=c at *
   show az ⟨ae,w1,S1,M1,none,o1,[]⟩ _ _ _
   (refine av ?_;try exact trivial)
   repeat'(first|refine aB ?_|refine aC λK hK=> ?_|refine cA (c1) ?_|(refine kA ?_;clear hK K)|(intro hg;try exact aw)|exact fin|apply ai)
   all_goals first|trivial|exact aV rfl (by try(refine av ?_;try exact trivial)) ⟨_,rfl⟩ ⟨_,rfl⟩
  ·simp only[cF]
   (refine av ?_;try exact trivial)
   repeat'(first|refine aB ?_|refine aC λK hK=> ?_|(refine kA ?_;clear hK K)|(intro hg;try exact aw)|exact fin|apply ai)
   all_goals first|(refine⟨j + 1,ag,ag,aV rfl (by try(refine av ?_;try exact trivial);try simp) ⟨_,rfl⟩ ⟨_,rfl⟩⟩)|trace_state
 ·(refine av ?_;try exact trivial)
  repeat'(first|refine aB ?_|refine aC λK hK=> ?_|(refine kA ?_;clear hK K)|(intro hg;try exact aw)|exact fin|apply ai)
  all_goals trace_state
theorem agb (F:List (Int×Int))(T:List Int)(mo:Int)(g:List ByteArray)(hg:I8 F.length g)(hF:F.length<=3):ax ae 118 [bW g, .ro (nG F T mo)] (.bool false):=by
 have c1:=aa4 F T mo g hg hF;refine aR func118 ntmps118 results118 call118 rfl ay λw0 S0 M0=> ?_;repeat'(first|refine aB ?_|refine aC λK hK=> ?_|refine cA (c1) ?_|(refine kA ?_;clear hK K)|(intro hg;try exact aw)|exact fin|apply ai)
 all_goals first|rfl|trace_state
theorem aaX (l:List (List ByteArray))(gf:FuncId)(cs:List D)(aE:Cl cs)(p:List ByteArray->Bool)(hl:l.length<=9223372036854775807)(hp:∀i,i < l.length->ax ae gf (bW (nth l i)::cs) (.bool (p (nth l i)))):ax ae 162 [.list (l.map bW), .aD gf cs] (i64 (o9 p l)):=by
 refine aR func162 ntmps162 results162 call162 rfl ay λw0 S0 M0=> ?_;repeat'(first|refine bK ?_|((first|refine bL λK hK=> ?_|refine bI ?_|show bC _ _ _ _ _);(refine sX (ai @aE.1 (@aE.2)) ?_;try exact trivial))|(refine kA ?_;clear hK K)|(intro hg;try exact aw)|exact fin|apply ai)
 refine dH (ι:=Nat) (λj=>[(0, .list (l.map bW)),(1, .aD gf cs),(6, .list (l.map bW)),(7,i64 l.length),(8,i64 j)]) (λ_=>[]) (λ_=>[])
  (λj=>j<=l.length/\∀i,i < j->p (nth l i)=false) (λj=>l.length - j) (λ_ _=>⟨by simp[dA,db,aE.names],rfl⟩) 0 ⟨Nat.zero_le _,λi h=>absurd h (Nat.not_lt_zero i)⟩ (aV rfl (by try(refine sX (ai @aE.1 (@aE.2)) ?_;try exact trivial);try simp) ⟨_,rfl⟩ ⟨_,rfl⟩) (λj ⟨hj,hi⟩=> ?_)
 (refine sX (ai @aE.1 (@aE.2)) ?_;try exact trivial)
 repeat'(first|refine bK ?_|((first|refine bL λK hK=> ?_|refine bI ?_|show bC _ _ _ _ _|refine bl (hp j ag) ?_);(refine sX (ai @aE.1 (@aE.2)) ?_;try exact trivial))|(refine kA ?_;clear hK K)|(intro hg;try exact aw)|exact fin|apply ai)
 all_goals first
  |(congr 1;exact(wV ag hi (by assumption)).symm)
  |(refine⟨j + 1,⟨ag,λi h=> ?_⟩,ag,aV rfl (by try(refine sX (ai @aE.1 (@aE.2)) ?_;try exact trivial);try simp) ⟨_,rfl⟩ ⟨_,rfl⟩⟩
    by_cases h9:i=j
    ·rw[h9];assumption
    ·exact hi i ag)
  |(congr 1;exact(wW λi h=>hi i ag).symm)
  |skip
theorem afE (l:List (List ByteArray))(gf:FuncId)(cs:List D)(aE:Cl cs)(p:List ByteArray->Bool)(hl:l.length<=9223372036854775807)(hp:∀i,i < l.length->ax ae gf (bW (nth l i)::cs) (.bool (p (nth l i)))):ax ae 117 [.list (l.map bW), .aD gf cs] (.bool (l.any p)):=by
 refine aR func117 ntmps117 results117 call117 rfl ay λw0 S0 M0=> ?_;repeat'(first|refine bK ?_|((first|refine bL λK hK=> ?_|refine bI ?_|show bC _ _ _ _ _|refine bl (aaX l gf cs aE p hl hp) ?_);(refine sX (ai @aE.1 (@aE.2)) ?_;try exact trivial))|(refine kA ?_;clear hK K)|(intro hg;try exact aw)|exact fin|apply ai)
 all_goals rw[wX]
theorem Uk (F:List (Int×Int))(T:List Int)(mo:Int)(C:List (List ByteArray))(hC:E8 F.length C)(hk:qf F T mo):ax ae 85 [.agg (nG F T mo), .list (C.map bW)] (.aQ [.agg (kU F T mo C), .int .i64 0]):=by
 have c1:=Jf F T mo hk;have hF:=hk.2.2.1;have hC1:=hC.1;have c2:=afE C 118 [.ro (nG F T mo)] ⟨λ_ _=>rfl,λ_ _=>rfl⟩ (λ_=>false) ag (λi hi=>agb F T mo _ (hC.2 i hi) ag);rw[any_none (λ_ _=>rfl)]at c2;refine aR func85 ntmps85 results85 call85 rfl ay λw0 S0 M0=> ?_;repeat'(first|(refine ou 0 _ _ rfl rfl ?_;simp only[bF,Nat.reduceAdd])|refine bK ?_|((first|refine bL λK hK=> ?_|refine bI ?_|show bC _ _ _ _ _|refine bl (c1) ?_|refine bl (c2) ?_);(refine sX (ai @s6 (@s0)) ?_;try exact trivial))|(refine kA ?_;clear hK K)|(intro hg;try exact aw)|exact fin|apply ai)
 all_goals first|rfl|trace_state
theorem QM (F:List (Int×Int))(T:List Int)(mo:Int)(C:List (List ByteArray))(l:List D)(hC:E8 F.length C)(hk:qf F T mo)(hl:1<=l.length/\l.length<=9223372036854775807)(hm:ax ae 86 [.agg (kU F T mo C)] (.list l)):ax ae 51 [.agg (nG F T mo), .list (C.map bW)] (.aQ [.list l, .int .i64 0]):=by
 have c1:=Uk F T mo C hC hk;refine aR func51 ntmps51 results51 call51 rfl ay λw0 S0 M0=> ?_;repeat'(first|refine bK ?_|((first|refine bL λK hK=> ?_|refine bI ?_|show bC _ _ _ _ _|refine bl (c1) ?_|refine bl (hm) ?_);(refine sX (ai @s6 (@s0)) ?_;try exact trivial))|(refine kA ?_;clear hK K)|(intro hg;try exact aw)|exact fin|apply ai)
 all_goals first|rfl|trace_state
theorem ae9 (F:List (Int×Int))(T:List Int)(mo:Int)(C:List (List ByteArray))(l:List D)(hC:E8 F.length C)(hk:qf F T mo)(hl:1<=l.length/\l.length<=9223372036854775807)(hm:ax ae 86 [.agg (kU F T mo C)] (.list l)):ax ae 261 [.agg (nG F T mo), .list (C.map bW)] (.aQ [.list l, .int .i64 0]):=by
 have c1:=QM F T mo C l hC hk hl hm;refine aR func261 ntmps261 results261 call261 rfl ay λw0 S0 M0=> ?_;repeat'(first|refine bK ?_|((first|refine bL λK hK=> ?_|refine bI ?_|show bC _ _ _ _ _|refine bl (c1) ?_);(refine sX (ai @s6 (@s0)) ?_;try exact trivial))|(refine kA ?_;clear hK K)|(intro hg;try exact aw)|exact fin|apply ai)
 all_goals first|rfl|trace_state
theorem UG {ops:Array Oper}(cj:ops=dK xr 8)(w0:World)(S0:Addr->Prop)(M0:MM)(own:Nat->Prop)(β:List Nat)(s:bh)(nm cap:Nat)(cost:Int)(y1 y2 y3 y4 y5 y6 y7 y8:Bx)(ns k:Nat)(hk:k < 60)(hp:[y1,y2,y3,y4,y5,y6,y7,y8].map (iT 1)=[y1,y2,y3,y4,y5,y6,y7,y8])
  {Q:Exit->St->Prop}{T:dX}(hQ:Q .normal ⟨38,((T.foldr (λe f=>put f e.2.1 (e.2.2 λ_=>true)) (bj [(1, .any),(5, .box 9 0)]))),(λ(L:Nat->Bool)=>[.mu (cR s++[.a_ 2 0 nm cap, .own 0, .bz 1,i64 cost,bif L 10 then .own 1 else bif L 7 then .undef else .own 1, .bool true]),y1,y2,y3,y4,y5,y6,y7,y8, .mu [.box 0 0]]) (λ_=>true),(λ(L:Nat->Bool)=>[aG ns,⟨true,186,1,bif L 7 then bP k .any++[.any]else bP k .any⟩]) (λ_=>true)⟩)(hT:T=[(0,28,λL=> .box 0 0),(1,29,λL=> .box 0 0),(2,30,λL=> .box 0 0),(3,31,λL=> .box 0 29),(4,32,λL=>bif L 7 then .undef else .own 1),(5,33,λL=> .any),(6,34,λL=> .list [.any]),(7,35,λL=> .own 1),(8,36,λL=> .box 0 0),(9,37,λL=> .box 0 29)]:=by rfl):
  az ⟨ae,w0,S0,M0,none,own,β⟩ (.region 8 ops true) Q ⟨38,bj [(1, .any),(5, .box 9 0)],(λ(L:Nat->Bool)=>[.mu (cR s++[.a_ 2 0 nm cap, .own 0, .bz 1,i64 cost,bif L 10 then .own 1 else bif L 7 then .undef else .own 1, .bool true]),y1,y2,y3,y4,y5,y6,y7,y8, .mu [.box 0 0]]) (λ_=>false),(λ(L:Nat->Bool)=>[aG ns,⟨true,186,1,bif L 7 then bP k .any++[.any]else bP k .any⟩]) (λ_=>false)⟩:=by
 simp only[List.map_cons,List.map_nil,List.cons.injEq,and_true]at hp;obtain⟨p1,p2,p3,p4,p5,p6,p7,p8⟩:=hp;unfold iT at p1 p2 p3 p4 p5 p6 p7 p8;simp only[dK,Option.map_some,Option.getD_some,xr,fB,Nat.reduceBEq,Bool.false_eq_true,if_false,if_true,bQ,bN,bR,List.headD_cons,reduceIte,eq_self]at cj;subst cj;have ba:T.map (·.1)=[0,1,2,3,4,5,6,7,8,9]:=by rw[hT];rfl
 have cQ:T.map (·.2.1)=[28,29,30,31,32,33,34,35,36,37]:=by rw[hT];rfl
 have cD:(T.map (·.1)).Nodup:=by rw[ba];decide
 have aS:(T.map (·.2.1)).Nodup:=by rw[cQ];decide
 obtain⟨b,hb⟩:∃b:Nat->D,b=bj [(1, .any),(5, .box 9 0)]:=⟨_,rfl⟩;rw[<-hb];have h0:aI (λ_=>false) (λ_=>false) T b=b:=gR (λ_ _=>rfl);rw[<-h0];refine la (c:=⟨ae,w0,S0,M0,none,own,β⟩) Tryz.ty.mixed rfl aj 38 T b (λL=>[.mu (cR s++[.a_ 2 0 nm cap, .own 0, .bz 1,i64 cost,bif L 10 then .own 1 else bif L 7 then .undef else .own 1, .bool true]),y1,y2,y3,y4,y5,y6,y7,y8, .mu [.box 0 0]]) (λL=>[aG ns,⟨true,186,1,bif L 7 then bP k .any++[.any]else bP k .any⟩]) (λL k op hC af hL aa=> ?_) (λL hL=> ?_);rotate_left
 ·have bu:∀x∈T.map (·.1),x < 11:=by rw[ba];decide
  rw[gS (λe he=>hL _ (bu _ (List.mem_map_of_mem (f:=(·.1)) he)))];rw[hT,hb];have e7:L 7=true:=hL 7 ak;have a7:L 10=true:=hL 10 ak;simp only[bU,e7,a7];simp only[hT,bU,cond_true]at hQ;exact hQ
 match k,af,hL,aa with
 |0,af,hL,aa=>
  cases af;have a7:=au hC hL 10 [] rfl;clear hC aa;rcases Bool.eq_false_or_eq_true (L 7)with e7|e7;all_goals(have hX:=an a7 (an e7 hL);exact aA)
 |1,af,hL,aa=>
  cases af;have e7:=au hC hL 7 [4,3,2] rfl;have a7:=au hC hL 10 [] rfl;have hX:=an e7 (an a7 hL);exact aA
 |2,af,hL,aa=>
  cases af;have d1:=aq aa 1 rfl;have e7:=au hC hL 7 [4,3] rfl;have a7:=au hC hL 10 [] rfl;have hX:=an d1 (an e7 (an a7 hL));exact aA
 |3,af,hL,aa=>
  cases af;have d2:=aq aa 2 rfl;have e7:=au hC hL 7 [4] rfl;have a7:=au hC hL 10 [] rfl;have hX:=an d2 (an e7 (an a7 hL));exact aA
 |4,af,hL,aa=>
  cases af;have d3:=aq aa 3 rfl;have e7:=au hC hL 7 [] rfl;have a7:=au hC hL 10 [] rfl;have hX:=an d3 (an e7 (an a7 hL));exact aA
 |5,af,hL,aa=>
  cases af;have e7:=au hC hL 7 [6] rfl;have a7:=au hC hL 10 [] rfl;have hX:=an e7 (an a7 hL);exact aA
 |6,af,hL,aa=>
  cases af;have d5:=aq aa 5 rfl;have e7:=au hC hL 7 [] rfl;have a7:=au hC hL 10 [] rfl
  (
   have f33:=br (V:=L) (b:=b) d5 aS (show(5,33,λL=> .any)∈T by rw[hT];simp);have g7:more L 6 7=L 7:=rfl;have g10:more L 6 10=L 10:=rfl;have ek:aI (more L 6) (more L 6) T b=put (aI L L T b) 34 (.list [.any]):=(dM hL cD aS (show(6,34,λL=> .list [.any])∈T by rw[hT];simp)).trans (by rw[<-eL (V:=L) (V':=more L 6) (by rw[hT];simp[more])];try rfl);rw[ek];try simp only[e7,a7,g7,g10,cond_true,cond_false,bR,bQ,bN]
   try simp only[e7,a7,g7,g10,cond_true,cond_false,cG,cN,dN,put,Nat.reduceEqDiff,if_true,if_false,reduceIte]at f33
   refine aZ.of ?_
   (refine sX (ai @f33 (ai @hE @g_)) ?_;try exact trivial)
   exact aO.of_eq rfl)
 |7,af,hL,aa=>
  cases af;have d4:=aq aa 4 rfl;have d6:=aq aa 6 rfl;have e7:L 7=false:=hL;have a7:=au hC hL 10 [] rfl
  (
   have f32:=br (V:=L) (b:=b) d4 aS (show(4,32,λL=>bif L 7 then .undef else .own 1)∈T by rw[hT];simp);have f34:=br (V:=L) (b:=b) d6 aS (show(6,34,λL=> .list [.any])∈T by rw[hT];simp);have g7:more L 7 7=true:=rfl;have g10:more L 7 10=L 10:=rfl;have ek:aI (more L 7) (more L 7) T b=put (jz 1 (aI L L T b)) 35 (.own 1):=by
    refine(dM hL cD aS (show(7,35,λL=> .own 1)∈T by rw[hT];simp)).trans ?_;rw[mP (V:=L) (V':=more L 7) (by rw[hb];simp only[cG,cN,nM,nN];rfl) (by rw[hT];simp only[List.forall_mem_cons,List.not_mem_nil,false_implies,implies_true,and_true];and_intros<;>(intro h;first|rfl|exact absurd (hL.symm.trans h) ak|(simp only[e7,a7,g7,g10,cond_true,cond_false];rfl)))]
   rw[ek];try simp only[e7,a7,g7,g10,cond_true,cond_false,bR,bQ,bN]
   try simp only[e7,a7,g7,g10,cond_true,cond_false,cG,cN,dN,put,Nat.reduceEqDiff,if_true,if_false,reduceIte]at f32 f34
   refine aZ.of ?_
   (refine sX (ai @f32 (ai @f34 (ai @hE (ai @iO (ai @g_ (ai @iR (ai @p1 (ai @p2 (ai @p3 (ai @p4 (ai @p5 (ai @p6 (ai @p7 @p8))))))))))))) ?_;try exact trivial)
   first|exact⟨ag,ag,aO.of_eq rfl⟩|trace_state)
 |8,af,hL,aa=>
  cases af;have d0:=aq aa 0 rfl;have e7:=aq aa 7 rfl;have a7:=au hC hL 10 [9] rfl;have hX:=an d0 (an e7 (an a7 hL));exact aA
 |9,af,hL,aa=>
  cases af;have d8:=aq aa 8 rfl;have e7:=ca hC (aq aa 8 rfl) 7 [] rfl;have a7:=au hC hL 10 [] rfl;have hX:=an d8 (an e7 (an a7 hL));exact aA
 |10,af,hL,aa=>
  cases af;have d7:=aq aa 7 rfl;have d9:=aq aa 9 rfl;have e7:=ca hC (aq aa 9 rfl) 7 [] rfl;have a7:L 10=false:=hL;have hX:=an d7 (an d9 (an e7 (an a7 hL)));exact aA
 |k + 11,af,hL,aa=>simp at af
theorem UQ (s:bh)(nm cap:Nat)(cost:Int)(x1 x2 x3 x4 x5 x6 x7 x8:Bx)(T:List Bx)(rw:List Row):aT ae 100 [.box 9 0] (.mu (aP s nm cap cost)::x1::x2::x3::x4::x5::x6::x7::x8:: .mu [.box 0 0]::T) rw (bw (i64 0) (.mu (aP s nm cap cost)::x1::x2::x3::x4::x5::x6::x7::x8:: .mu [.box 0 0]::T) rw):=by
 have c1:=AJ s (.a_ 2 0 nm cap) (.own 0) (.bz 1) cost (.own 1) (x1::x2::x3::x4::x5::x6::x7::x8:: .mu [.box 0 0]::T) rw;have c2:=lP true 1;refine cV func100 ntmps100 results100 call100 rfl ay λW0 S0 M0 own β hβ=> ?_;repeat'(first|(show az _ (.region 1 _ _) _ _;refine eo 1 rfl (λK1 aK=> ?_);refine av ?_)|(refine aK _ (cC c1 (by show(3:Nat) < 6;decide) rfl rfl rfl rfl ?_);clear aK K1;rintro d aF aL ⟨rfl,rfl,rfl⟩;simp only[bF,Nat.reduceAdd];refine av ?_)|(show cT _ _ _ _ _;refine av ?_)|refine aB ?_|refine aC λK hK=> ?_|refine cA (c2) ?_|(refine kA ?_;clear hK K)|(intro hg;try exact aw)|exact fin|apply ai)
theorem UO (s:bh)(nm cap:Nat)(cost:Int)(x1 x2 x3 x4 x5 x6 x7 x8 y1 y2 y3 y4 y5 y6 y7 y8:Bx)(T:List Bx)(rw:List Row)(fc:FuncId)(cs:List D)(hc:aT ae fc cs (.mu (aP s nm cap cost)::x1::x2::x3::x4::x5::x6::x7::x8:: .mu [.box 0 0]:: .mu [.aD fc cs]::T) rw (bw (.bool true) (.mu (aP s nm cap cost)::y1::y2::y3::y4::y5::y6::y7::y8:: .mu [.box 0 0]:: .mu [.aD fc cs]::T) rw)):aT ae 102 [.box 10 0] (.mu (aP s nm cap cost)::x1::x2::x3::x4::x5::x6::x7::x8:: .mu [.box 0 0]:: .mu [.aD fc cs]::T) rw (bw (i64 0) (.mu (aP s nm cap cost)::y1::y2::y3::y4::y5::y6::y7::y8:: .mu [.box 0 0]:: .mu [.aD fc cs]::T) rw):=by
 have c2:=lP true 2;refine cV func102 ntmps102 results102 call102 rfl ay λW0 S0 M0 own β hβ=> ?_;repeat'(first|(show az _ (.region 1 _ _) _ _;refine eo 1 rfl (λK1 aK=> ?_);refine av ?_)|(refine aK _ (cC hc (by show(3:Nat) < 5;decide) rfl rfl rfl rfl ?_);clear aK K1;rintro d aF aL ⟨rfl,rfl,rfl⟩;simp only[bF,Nat.reduceAdd];refine av ?_)|(show cT _ _ _ _ _;refine av ?_)|refine aB ?_|refine aC λK hK=> ?_|refine cA (c2) ?_|(refine kA ?_;clear hK K)|(intro hg;try exact aw)|exact fin|apply ai)
theorem UK (s:bh)(nm cap:Nat)(cost:Int)(x1 x2 x3 x4 x5 x6 x7 x8 y1 y2 y3 y4 y5 y6 y7 y8:Bx)(sC Cz:Bx)(T:List Bx)(rw:List Row)(fc:FuncId)(cs:List D)(hc:aT ae fc cs (.mu (aP s nm cap cost)::x1::x2::x3::x4::x5::x6::x7::x8:: .mu [.box 0 0]::sC::Cz:: .mu [.aD fc cs]::T) rw (bw (.bool true) (.mu (aP s nm cap cost)::y1::y2::y3::y4::y5::y6::y7::y8:: .mu [.box 0 0]::sC::Cz:: .mu [.aD fc cs]::T) rw)):aT ae 104 [.box 12 0] (.mu (aP s nm cap cost)::x1::x2::x3::x4::x5::x6::x7::x8:: .mu [.box 0 0]::sC::Cz:: .mu [.aD fc cs]::T) rw (bw (i64 0) (.mu (aP s nm cap cost)::y1::y2::y3::y4::y5::y6::y7::y8:: .mu [.box 0 0]::sC::Cz:: .mu [.aD fc cs]::T) rw):=by
 have c2:=lP true 7;refine cV func104 ntmps104 results104 call104 rfl ay λW0 S0 M0 own β hβ=> ?_;repeat'(first|(show az _ (.region 1 _ _) _ _;refine eo 1 rfl (λK1 aK=> ?_);refine av ?_)|(refine aK _ (cC hc (by show(3:Nat) < 5;decide) rfl rfl rfl rfl ?_);clear aK K1;rintro d aF aL ⟨rfl,rfl,rfl⟩;simp only[bF,Nat.reduceAdd];refine av ?_)|(show cT _ _ _ _ _;refine av ?_)|refine aB ?_|refine aC λK hK=> ?_|refine cA (c2) ?_|(refine kA ?_;clear hK K)|(intro hg;try exact aw)|exact fin|apply ai)
theorem UM (s:bh)(nm cap:Nat)(cost:Int)(x1 x2 x3 x4 x5 x6 x7 x8 z1:Bx)(T:List Bx)(ns k:Nat)(hk:k < 60)(fc:FuncId)(cs:List D)(hc:aT ae fc cs (.mu (aP s nm cap cost)::x1::x2::x3::x4::x5::x6::x7::x8:: .mu [.box 0 0]::z1:: .mu [.aD fc cs]::T) [aG ns,aH k] (bw (.bool true) (.mu (aP s nm cap cost)::x1::x2::x3::x4::x5::x6::x7::x8:: .mu [.box 0 0]::z1:: .mu [.aD fc cs]::T) [aG ns,aH k])):aT ae 103 [.box 9 0, .box 11 0] (.mu (aP s nm cap cost)::x1::x2::x3::x4::x5::x6::x7::x8:: .mu [.box 0 0]::z1:: .mu [.aD fc cs]::T) [aG ns,aH k] (bw (i64 0) (.mu (aP s nm cap cost)::x1::x2::x3::x4::x5::x6::x7::x8:: .mu [.box 0 0]::z1:: .mu [.aD fc cs]::T) [aG ns,aH k]):=by
 have c2:=lP true 6;have hl:(bP k D.any).length=k:=by simp
 refine cV func103 ntmps103 results103 call103 rfl ay λW0 S0 M0 own β hβ=> ?_;repeat'(first|(show az _ (.region 1 _ _) _ _;refine Ex 8 (λN s1=>mz _ N (.tmp 10) [] (some 11) s1) (λ_ _ h=>aZ.rF h) rfl (by intro cl h;cases h) (λK1 aK=> ?_);(refine sX (@hl) ?_;try exact trivial))|(refine aK _ (vk rfl rfl ?_);clear aK K1;refine cC hc (by show(11:Nat) < 14;decide) rfl rfl rfl rfl ?_;rintro d aF aL ⟨rfl,rfl,rfl⟩;simp only[bF,Nat.reduceAdd];(refine sX (@hl) ?_;try exact trivial))|(show cT _ _ _ _ _;(refine sX (@hl) ?_;try exact trivial))|refine bK ?_|((first|refine bL λK hK=> ?_|refine bI ?_|show bC _ _ _ _ _|refine bl (c2) ?_);(refine sX (@hl) ?_;try exact trivial))|(refine kA ?_;clear hK K)|(intro hg;try exact aw)|exact fin|apply ai)
theorem UI (s:bh)(nm cap:Nat)(cost:Int)(x1 x2 x3 x4 x5 x6 x7 x8 y1 y2 y3 y4 y5 y6 y7 y8:Bx)(ns k:Nat)(hk:k < 60)(fr fn fh:FuncId)(fo fp fq:List D)(eT:bZ 9 2 [y1,y2,y3,y4,y5,y6,y7,y8]=true)(wC:bZ 10 2 [y1,y2,y3,y4,y5,y6,y7,y8, .mu [.box 0 0]]=true)(jO:[y1,y2,y3,y4,y5,y6,y7,y8].map (iT 1)=[y1,y2,y3,y4,y5,y6,y7,y8])
  (hr:aT ae fr fo (.mu (aP s nm cap cost)::x1::x2::x3::x4::x5::x6::x7::x8:: .mu [.box 0 0]:: .mu [.aD fr fo]:: .mu [.aD fn fp]:: .mu [.aD fh fq]::[]) [aG ns,aH k] (bw (.bool true) (.mu (aP s nm cap cost)::y1::y2::y3::y4::y5::y6::y7::y8:: .mu [.box 0 0]:: .mu [.aD fr fo]:: .mu [.aD fn fp]:: .mu [.aD fh fq]::[]) [aG ns,aH k]))
  (hn:aT ae fn fp (.mu (aP s nm cap cost)::y1::y2::y3::y4::y5::y6::y7::y8:: .mu [.box 0 0]:: .mu [.aD fr fo]:: .mu [.aD fn fp]:: .mu [.aD fh fq]::[]) [aG ns,aH k] (bw (.bool true) (.mu (aP s nm cap cost)::y1::y2::y3::y4::y5::y6::y7::y8:: .mu [.box 0 0]:: .mu [.aD fr fo]:: .mu [.aD fn fp]:: .mu [.aD fh fq]::[]) [aG ns,aH k]))
  (hh:aT ae fh fq (.mu (aP s nm cap cost)::y1::y2::y3::y4::y5::y6::y7::y8:: .mu [.box 0 0]:: .mu [.aD fr fo]:: .mu [.aD fn fp]:: .mu [.aD fh fq]::[]) [aG ns,aH k] (bw (.bool true) (.mu (aP s nm cap cost)::y1::y2::y3::y4::y5::y6::y7::y8:: .mu [.box 0 0]:: .mu [.aD fr fo]:: .mu [.aD fn fp]:: .mu [.aD fh fq]::[]) [aG ns,aH k])):
  aT ae 58 [.box 0 0, .any, .aD fr fo, .aD fn fp, .aD fh fq] [.mu (aP s nm cap cost),x1,x2,x3,x4,x5,x6,x7,x8] [aG ns,aH k] (bw (i64 0) [.mu (aP s nm cap cost),y1,y2,y3,y4,y5,y6,y7,y8] [aG ns,aH (k + 1)]):=by
 have rV:bZ 9 2 [.mu (aP s nm cap cost),y1,y2,y3,y4,y5,y6,y7,y8]=true:=eT;have d1:=UQ s nm cap cost x1 x2 x3 x4 x5 x6 x7 x8 (.mu [.aD fr fo]:: .mu [.aD fn fp]:: .mu [.aD fh fq]::[]) [aG ns,aH k];have d2:=UO s nm cap cost x1 x2 x3 x4 x5 x6 x7 x8 y1 y2 y3 y4 y5 y6 y7 y8 (.mu [.aD fn fp]:: .mu [.aD fh fq]::[]) [aG ns,aH k] fr fo hr;have d3:=UM s nm cap cost y1 y2 y3 y4 y5 y6 y7 y8 (.mu [.aD fr fo]) (.mu [.aD fh fq]::[]) ns k hk fn fp hn;have d4:=UK s nm cap cost y1 y2 y3 y4 y5 y6 y7 y8 y1 y2 y3 y4 y5 y6 y7 y8 (.mu [.aD fr fo]) (.mu [.aD fn fp]) [] [aG ns,aH k] fh fq hh;refine cV func58 ntmps58 results58 call58 rfl ay λW0 S0 M0 own β hβ=> ?_;repeat'(first|(show az _ (.loop _) _ _;refine lJ 5 ?_)|refine bK ?_|((first|refine bL λK hK=> ?_|refine bI ?_|show bC _ _ _ _ _);(refine sX (ai @hE (ai @iO (ai @g_ (ai @iR (@iS))))) ?_;try exact trivial))|(refine kA ?_;clear hK K)|(intro hg;try exact aw)|exact fin|apply ai)
 repeat'(first|(show az _ (.region 8 _ true) _ _;refine b_ ?_)|(refine lp ?_)|(show az _ (.region 4 _ _) _ _;refine eo 1 rfl (λK1 aK=> ?_);(refine sX (ai @hE (ai @iO (ai @g_ (ai @iR (@iS))))) ?_;try exact trivial))|(refine aK _ ?_;clear aK K1;(first|(refine cC d1 (by show(23:Nat) < 38;decide) rfl rfl rfl rfl ?_)|(refine cC d2 (by show(23:Nat) < 38;decide) rfl rfl rfl rfl ?_)|(refine cC d3 (by show(23:Nat) < 38;decide) rfl rfl rfl rfl ?_)|(refine cC d4 (by show(23:Nat) < 38;decide) rfl rfl rfl rfl ?_));rintro d aF aL ⟨rfl,rfl,rfl⟩;simp only[bF,Nat.reduceAdd];(refine sX (ai @hE (ai @iO (ai @g_ (ai @iR (@iS))))) ?_;try exact trivial))|refine bK ?_|((first|refine bL λK hK=> ?_|refine bI ?_|show bC _ _ _ _ _);(refine sX (ai @hE (ai @iO (ai @g_ (ai @iR (@iS))))) ?_;try exact trivial))|(refine kA ?_;clear hK K)|(intro hg;try exact aw)|exact fin|apply ai)
 refine cI ?_;refine k_ (dD 38 [(1, .any),(5, .box 9 0)] [.mu (aP s nm cap cost),y1,y2,y3,y4,y5,y6,y7,y8, .mu [.box 0 0]] [aG ns,aH k]) (aV rfl (by simp[put]) ⟨[_,_,_],rfl⟩ ⟨[],rfl⟩) (gT rfl wC) (by rw[hβ];exact Nat.le_succ _) ?_;refine UG (by rfl) _ _ _ _ _ s nm cap cost y1 y2 y3 y4 y5 y6 y7 y8 ns k hk jO ?_;simp only[bU,cond_true,iS];repeat'(first|(show az _ .ret _ _;refine b_ ?_)|refine bK ?_|((first|refine bL λK hK=> ?_|refine bI ?_|show bC _ _ _ _ _);(refine sX (ai @hE (ai @iO (ai @g_ (ai @iR (@iS))))) ?_;try exact trivial))|(refine kA ?_;clear hK K)|(intro hg;try exact aw)|exact fin|apply ai)
 refine cI ?_;refine k_ (dD 38 [(10,i64 0)] [.mu (aP s nm cap cost),y1,y2,y3,y4,y5,y6,y7,y8] [aG ns,aH (k + 1)]) (aV rfl (by simp[put]) ⟨[_],rfl⟩ ⟨[],rfl⟩) (gT rfl rV) (by rw[hβ];exact Nat.le_refl _) ?_;refine oo ?_;exact⟨rfl,rfl,rfl⟩
end Go.Proofs.YtopobgihpdaggaaGreatDoor
