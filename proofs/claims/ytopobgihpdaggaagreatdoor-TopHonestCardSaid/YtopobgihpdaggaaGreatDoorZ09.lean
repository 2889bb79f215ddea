import Derived.Test.YtopobgihpdaggaaGreatDoorZ08
set_option linter.unusedVariables false
set_option linter.unusedSimpArgs false
open And renaming intro->ai
open Array renaming getElem?_eq_some_iff->bJ,getElem?_setIfInBounds->sB
open Bool renaming and_eq_true->dZ,false_eq_true->cJ
open Go.Fence renaming wide->eO
open Int renaming add_mul_ediv_right->Te,ediv_eq_zero_of_lt->agY,ediv_le_ediv->Cr,ediv_nonneg->E3,mul_add->zQ,mul_comm->xR,mul_le_mul_of_nonneg_left->ub,mul_nonneg->xQ,sub_mul->E2,tdiv->zP,tmod->vz
open List renaming all_eq_true->ic,findIdx?_eq_none_iff->agU,findIdx?_eq_some_iff_getElem->agT,getElem?_append_left->cZ,getElem?_eq_some_iff->bm,getElem_mem->E1,getElem_of_mem->xH,mem_filter->Cn,mem_range->ld,range->dB,replicate->bP
open List.cons renaming injEq->xK
open Nat renaming le_of_lt_succ->EY,le_refl->cx,lt_or_eq_of_le->EX,not_lt_zero->fD,zero_le->cv
open Option renaming map_eq_some_iff->cS
open Go.Region renaming binds->eF,ready->kO,wanted->d_
open Go.Proofs.Tryz renaming prog->ae
open Go.Proofs.Tryz
namespace Go.Ab
theorem uF {p q r:Prop}(f:r->p)(h:r=q):q->p:=λk=>f (h.symm▸k)
theorem aB {p q:Prop}(k:q)(h:q->p:=by first|exact Ew|exact ID|exact Iu|exact Iv|exact Iz|exact IB|exact oo|exact λk=>bI (av k)|exact uF (r:=bC _ _ _ _ _) id (by simp -implicitDefEqProofs only[go_sem,kM,bF,Nat.reduceAdd,Nat.reduceSub,Nat.reduceMul,Nat.reduceLT,Nat.reduceLeDiff,Nat.reduceEqDiff,Nat.reduceBEq,Int.reduceLT,Int.reduceLE,Int.reduceToNat,Int.reduceAdd,Int.reduceSub,Int.reduceMul,Int.reduceNeg,Int.reduceEq,reduceCtorEq,eq_self,ne_eq,not_false_eq_true,if_true,reduceIte]<;>rfl)|exact uF (r:=cF _ _ _ _) id (by simp only[qn,cF,dn,if_true,Nat.reduceEqDiff,reduceIte]<;>rfl)|exact uF (r:=dn _ _ _ _) id (by simp only[qn,cF,dn,if_true,Nat.reduceEqDiff,reduceIte]<;>rfl)|exact uF (r:=qn _ _ _) id (by simp only[qn,cF,dn,if_true,Nat.reduceEqDiff,reduceIte]<;>rfl)):p:=h k
theorem bK {p q:Prop}(k:q)(h:q->p:=by first|exact Ew|exact ID|exact Iu|exact Iv|exact Iz|exact IB|exact oo|exact uF (r:=cF _ _ _ _) id (by simp only[qn,cF,dn,if_true,Nat.reduceEqDiff,reduceIte]<;>rfl)|exact uF (r:=dn _ _ _ _) id (by simp only[qn,cF,dn,if_true,Nat.reduceEqDiff,reduceIte]<;>rfl)|exact uF (r:=qn _ _ _) id (by simp only[qn,cF,dn,if_true,Nat.reduceEqDiff,reduceIte]<;>rfl)):p:=h k
theorem aC {p:Prop}{q:(St->Prop)->Prop}{Q:St->Prop}(k:∀K:St->Prop,(∀s',Q s'->K s')->q K)(h:(∀K:St->Prop,(∀s',Q s'->K s')->q K)->p:=by first|exact λk=>mA λK hK=>av (k K hK)|exact λk=>ph Tryz.ty.mixed aj λK hK=>av (k K hK)):p:=h k
theorem bL {p:Prop}{q:(St->Prop)->Prop}{Q:St->Prop}(k:∀K:St->Prop,(∀s',Q s'->K s')->q K)(h:(∀K:St->Prop,(∀s',Q s'->K s')->q K)->p:=by first|exact mA|exact ph Tryz.ty.mixed aj):p:=h k
theorem kA {p q:Prop}(k:q)(h:q->p:=by exact uF (hK _) (by simp only[qn,cF,dn,if_true,Nat.reduceEqDiff,reduceIte]<;>rfl)):p:=h k
theorem cA {P:Program}{f:FuncId}{ds:List D}{ops l:List Oper}{s:St}{dst:Option Tmp}{K:St->Prop}{d:D}{q:Prop}(h:ax P f ds d)(k:q)(e:cq P ops l (s.put dst d) K=q:=by simp -implicitDefEqProofs only[go_sem,kM,bF,Nat.reduceAdd,Nat.reduceSub,Nat.reduceMul,Nat.reduceLT,Nat.reduceLeDiff,Nat.reduceEqDiff,Nat.reduceBEq,Int.reduceLT,Int.reduceLE,Int.reduceToNat,Int.reduceAdd,Int.reduceSub,Int.reduceMul,Int.reduceNeg,Int.reduceEq,reduceCtorEq,eq_self,ne_eq,not_false_eq_true,if_true,reduceIte]<;>rfl):dR P f ds ops l s dst K:=bl h (e.symm▸k)
theorem sX {E p q:Prop}(e:E)(k:q)(h:E->q->p:=by intro hX k;exact W7 k):p:=h e k
theorem gG {E p q:Prop}(e:E)(k:q)(h:E->q->p:=by intro hX k;exact W6 k):p:=h e k
end Go.Ab
namespace Go.Ab
def bj (l:List (Nat×D)):Nat->D:=l.foldr (λp f=>put f p.1 p.2) eC
@[go_sem] theorem cN:bj []=eC:=rfl
@[go_sem] theorem cG {n:Nat}{d:D}{l:List (Nat×D)}:bj ((n,d)::l)=put (bj l) n d:=rfl
theorem CQ {l:List (Nat×D)}{nb:Nat}(h:(l.all λp=>dA nb 0 p.2)=true):∀m,Names nb 0 (bj l m):=by
 intro m;have:=(gT (n:=0) (l:=l) (bx:=bP nb .dead) (rw:=[]) (by simpa using h) (by
  clear h;induction nb with
  |zero=>rfl
  |succ n ih=>
   have key:∀(k a b:Nat),bZ a b (bP k .dead)=true:=by
    intro k;induction k with
    |zero=>intros;rfl
    |succ k ih=>intro a b;exact ih a b
   exact key _ _ _)).1 m
 simpa[dD,bj]using this
theorem Gj {s:St}{n:Nat}{l:List (Nat×D)}{bx:List Bx}{rw:List Row}(hn:s.n=n)(hl:∀p∈l,s.sl p.1=p.2)(hb:∃t,s.bx=bx++t)(hr:∃t,s.rw=rw++t):
  Le s ⟨n,bj l,bx,rw⟩:=aV hn hl hb hr
end Go.Ab
namespace Go.Proofs.YtopobgihpdaggaaGreatDoor
set_option maxRecDepth 100000
set_option maxHeartbeats 4000000
open Go.Ab
abbrev ints (xs:List Int):D:= .list (xs.map (D.int .i64))
abbrev rP (TS:List (List Int)):D:= .list (TS.map ints)
abbrev i64 (n:Int):D:= .int .i64 n
theorem gi {b c:Bool}(h:b=true↔c=true):D.bool b=D.bool c:=by rw[Bool.eq_iff_iff.2 h]
def Cl (cs:List D):Prop:=(∀bx rw,iU bx rw cs=some cs)/\∀bx rw,gJ bx rw cs=some cs
theorem FN {d:D}(h:nO [] [] d=some d)(nb nr:Nat):dA nb nr d=true:=by
 cases d<;>first|rfl|(simp[nO]at h;done)
theorem Oa (nb nr:Nat):∀l:List D,mQ [] [] l=some l->db nb nr l=true:=by
 intro l;induction l with
 |nil=>intros;rfl
 |cons d l ih=>
  intro hl;simp only[mQ]at hl;split at hl
  ·rename_i d' hd;simp only[cS,xK]at hl;obtain⟨l2,fH,rfl,rfl⟩:=hl;simp only[db,dZ];exact⟨FN hd nb nr,ih fH⟩
  ·cases hl
theorem YK {d:D}(h:oI [] [] d=some d)(nb nr:Nat):dA nb nr d=true:=by
 unfold oI at h;split at h
 ·simp only[cS,D.agg.injEq]at h;obtain⟨l,hl,rfl⟩:=h;simp only[dA];exact Oa nb nr _ hl
 ·exact FN h nb nr
theorem YN (nb nr:Nat):∀l:List D,nP [] [] l=some l->db nb nr l=true:=by
 intro l;induction l with
 |nil=>intros;rfl
 |cons d l ih=>
  intro hl;simp only[nP]at hl;split at hl
  ·rename_i d' hd;simp only[cS,xK]at hl;obtain⟨l2,fH,rfl,rfl⟩:=hl;simp only[db,dZ];exact⟨YK hd nb nr,ih fH⟩
  ·cases hl
theorem YQ {d:D}(h:mS [] [] d=some d)(nb nr:Nat):dA nb nr d=true:=by
 unfold mS at h;split at h
 ·simp only[cS,D.dq.injEq]at h;obtain⟨l,hl,_,rfl⟩:=h;simp only[dA];exact YN nb nr _ hl
 ·simp only[cS,D.aD.injEq]at h;obtain⟨l,hl,_,rfl⟩:=h;simp only[dA];exact Oa nb nr _ hl
 ·exact FN h nb nr
theorem Cl.names {cs:List D}(h:Cl cs)(nb nr:Nat):db nb nr cs=true:=by
 have key:∀l:List D,iU [] [] l=some l->db nb nr l=true:=by
  intro l;induction l with
  |nil=>intros;rfl
  |cons d l ih=>
   intro hl;simp only[iU]at hl;split at hl
   ·rename_i d' hd;simp only[cS,xK]at hl;obtain⟨l2,fH,rfl,rfl⟩:=hl;simp only[db,dZ];exact⟨YQ hd nb nr,ih fH⟩
   ·cases hl
 exact key cs (h.1 [] [])
def o9 {α:Type}(p:α->Bool)(l:List α):Int:=match l.findIdx? p with|some i=>i|none=> -1
theorem wW {α:Type}[Inhabited α]{p:α->Bool}{l:List α}(h:∀i,i < l.length->p (nth l i)=false):o9 p l= -1:=by
 have:l.findIdx? p=none:=agU.2 λx hx=>by
  obtain⟨i,hi,rfl⟩:=xH hx;rw[<-uB l i hi];exact h i hi
 simp[o9,this]
theorem wV {α:Type}[Inhabited α]{p:α->Bool}{l:List α}{j:Nat}(hj:j < l.length)(h:∀i,i < j->p (nth l i)=false)(hp:p (nth l j)=true):o9 p l=j:=by
 have:l.findIdx? p=some j:=agT.2 ⟨hj,by rw[<-uB l j hj];exact hp,λi hi=>by rw[<-uB l i ag];simp[h i hi]⟩;simp[o9,this]
theorem wX {α:Type}{p:α->Bool}{l:List α}:decide (0<=o9 p l)=l.any p:=by
 unfold o9;cases h:l.findIdx? p with
 |none=>have:=agU.1 h;simp;exact λx hx=>this x hx
 |some i=>
  obtain⟨h1,h2,_⟩:=agT.1 h;simp;exact⟨l[i],E1 h1,h2⟩
theorem Es {α:Type}[Inhabited α]{p:α->Bool}{l:List α}:l.any p=true↔∃i,i < l.length/\p (nth l i)=true:=by
 rw[List.any_eq_true];constructor
 ·rintro⟨x,hx,hp⟩;obtain⟨i,hi,rfl⟩:=xH hx;exact⟨i,hi,by rw[uB l i hi];exact hp⟩
 ·rintro⟨i,hi,hp⟩;exact⟨l[i],E1 hi,by rw[<-uB l i hi];exact hp⟩
def dP (f:Nat->Int):Nat->Int
 |0=>0
 |n + 1=>dP f n + f n
theorem ye {f:Nat->Int}{lo hi:Int}:∀(n:Nat),(∀i,i < n->lo<=f i/\f i<=hi)->lo * n<=dP f n/\dP f n<=hi * n
 |0,_=>by simp[dP]
 |n + 1,h=>by
  have h1:=ye n (λi hi=>h i ag);have h2:=h n ag;have e1:lo * ((n + 1:Nat):Int)=lo * n + lo:=by rw[Int.natCast_succ,zQ,Int.mul_one]
  have e2:hi * ((n + 1:Nat):Int)=hi * n + hi:=by rw[Int.natCast_succ,zQ,Int.mul_one]
  rw[e1,e2];simp only[dP];omega
theorem VX {f:Nat->Int}{n:Nat}(h:∀i,i < n->0<=f i):0<=dP f n:=by
 induction n with
 |zero=>simp[dP]
 |succ n ih=>have:=ih (λi hi=>h i ag);have:=h n ag;simp only[dP];omega
structure Ck where
 day:Int
 lo:Int
 hi:Int
 deriving Inhabited,DecidableEq
structure cg where
 hl:Int
 hh:Int
 gl:Int
 gh:Int
 dr:Int
 rd:Int
 ea:Int
 sl:Int
 ck:List Ck
 deriving Inhabited,DecidableEq
structure dY where
 day:Int
 min:Int
 zq:Int
 gn:Int
 al:Int
 ah:Int
 dl:Int
 dh:Int
 wl:Int
 wh:Int
 deriving Inhabited,DecidableEq
structure gv where
 ix:Int
 er:Int
 gr:Int
 ht:Int
 at_:Int
 dy:Int
 wt:Int
 deriving Inhabited,DecidableEq
abbrev ql (a b:Int):D:= .agg [i64 a,i64 b]
abbrev k8 (c:Ck):D:= .agg [i64 c.day,i64 c.lo,i64 c.hi]
abbrev Ah (s:cg):List D:=[i64 s.hl,i64 s.hh,i64 s.gl,i64 s.gh,i64 s.dr,i64 s.rd,i64 s.ea,i64 s.sl, .list (s.ck.map k8)]
abbrev iP (s:cg):D:= .agg [i64 s.hl,i64 s.hh,i64 s.gl,i64 s.gh,i64 s.dr,i64 s.rd,i64 s.ea,i64 s.sl, .list (s.ck.map k8)]
abbrev pC (r:dY):D:= .agg [i64 r.day,i64 r.min,i64 r.zq,i64 r.gn,i64 r.al,i64 r.ah,i64 r.dl,i64 r.dh,i64 r.wl,i64 r.wh]
abbrev Ad (t:gv):D:= .agg [i64 t.ix,i64 t.er,i64 t.gr,i64 t.ht,i64 t.at_,i64 t.dy,i64 t.wt]
def In (x lo hi:Int):Prop:=lo<=x/\x<=hi
instance(x lo hi:Int):Decidable (In x lo hi):=by unfold In;infer_instance
def gw (a b lo hi:Int):Prop:=lo<=a/\a<=b/\b<=hi
instance(a b lo hi:Int):Decidable (gw a b lo hi):=by unfold gw;infer_instance
def rj (c:Ck):Prop:=(0<=c.day/\c.day<=400)/\gw c.lo c.hi (-2000) 2000
instance(c:Ck):Decidable (rj c):=by unfold rj;infer_instance
structure fb (s:cg):Prop where
 h:gw s.hl s.hh 0 3000
 g:gw s.gl s.gh (-3000) 3000
 d:0<=s.dr/\s.dr<=100
 r:0<=s.rd/\s.rd<=200
 e: -720<=s.ea/\s.ea<=720
 sl:0<=s.sl/\s.sl<=60
 n:s.ck.length<=12
 c:∀i,i < s.ck.length->rj (nth s.ck i)
structure iw (r:dY):Prop where
 d:0<=r.day/\r.day<=400
 m:0<=r.min/\r.min<=1439
 c:1<=r.zq/\r.zq<=3
 q:40000<=r.gn/\r.gn<=90000
 a:gw r.al r.ah (-300) 500
 y:gw r.dl r.dh (-300) 500
 w:gw r.wl r.wh (-300) 500
theorem Fy (s:cg):fb s↔(gw s.hl s.hh 0 3000/\gw s.gl s.gh (-3000) 3000/\(0<=s.dr/\s.dr<=100)/\(0<=s.rd/\s.rd<=200)/\(-720<=s.ea/\s.ea<=720)/\(0<=s.sl/\s.sl<=60)/\s.ck.length<=12/\∀i,i < s.ck.length->rj (nth s.ck i)):=
 ⟨λh=>⟨h.h,h.g,h.d,h.r,h.e,h.sl,h.n,h.c⟩,λ⟨a,b,c,d,e,f,g,i⟩=>⟨a,b,c,d,e,f,g,i⟩⟩
instance(s:cg):Decidable (fb s):=decidable_of_iff _ (Fy s).symm
theorem NZ (r:dY):iw r↔((0<=r.day/\r.day<=400)/\(0<=r.min/\r.min<=1439)/\(1<=r.zq/\r.zq<=3)/\(40000<=r.gn/\r.gn<=90000)/\gw r.al r.ah (-300) 500/\gw r.dl r.dh (-300) 500/\gw r.wl r.wh (-300) 500):=
 ⟨λh=>⟨h.d,h.m,h.c,h.q,h.a,h.y,h.w⟩,λ⟨a,b,c,d,e,f,g⟩=>⟨a,b,c,d,e,f,g⟩⟩
instance(r:dY):Decidable (iw r):=decidable_of_iff _ (NZ r).symm
end Go.Proofs.YtopobgihpdaggaaGreatDoor
namespace Go.Proofs.YtopobgihpdaggaaGreatDoor
set_option maxRecDepth 100000
set_option maxHeartbeats 4000000
open Go.Ab
attribute[local irreducible] az dI dR ax
theorem uM (x a b:Int):ax ae 39 [i64 x,i64 a,i64 b] (.bool (decide (a<=x/\x<=b))):=by
 refine aR func39 ntmps39 results39 call39 rfl ay λw0 S0 M0=> ?_;repeat'(first|refine aB ?_|refine aC λK hK=> ?_|(refine kA ?_;clear hK K)|(intro hg;try exact aw)|exact fin|apply ai)
 all_goals(refine gi ?_;simp only[decide_eq_true_eq,cJ,false_iff,iff_false,true_iff,iff_true];omega)
theorem D3 (x a b:Int):ax ae 134 [i64 x,i64 a,i64 b] (.bool (decide (a<=x/\x<=b))):=by
 refine aR func134 ntmps134 results134 call134 rfl ay λw0 S0 M0=> ?_;repeat'(first|refine aB ?_|refine aC λK hK=> ?_|(refine kA ?_;clear hK K)|(intro hg;try exact aw)|exact fin|apply ai)
 all_goals(refine gi ?_;simp only[decide_eq_true_eq,cJ,false_iff,iff_false,true_iff,iff_true];omega)
theorem aeD (x:Int):ax ae 37 [i64 x] (.bool (decide (0<=x/\x<=400))):=by
 refine aR func37 ntmps37 results37 call37 rfl ay λw0 S0 M0=> ?_;repeat'(first|refine aB ?_|refine aC λK hK=> ?_|refine cA (uM _ _ _) ?_|(refine kA ?_;clear hK K)|(intro hg;try exact aw)|exact fin|apply ai)
theorem WU (x y a b:Int):ax ae 38 [ql x y,i64 a,i64 b] (.bool (decide (gw x y a b))):=by
 refine aR func38 ntmps38 results38 call38 rfl ay λw0 S0 M0=> ?_;repeat'(first|refine aB ?_|refine aC λK hK=> ?_|(refine kA ?_;clear hK K)|(intro hg;try exact aw)|exact fin|apply ai)
 all_goals(refine gi ?_;simp only[decide_eq_true_eq,cJ,false_iff,iff_false,true_iff,iff_true];try simp only[gw];omega)
theorem HG (x y a b:Int):ax ae 241 [ql x y,i64 a,i64 b] (.bool (decide (gw x y a b))):=by
 refine aR func241 ntmps241 results241 call241 rfl ay λw0 S0 M0=> ?_;repeat'(first|refine aB ?_|refine aC λK hK=> ?_|(refine kA ?_;clear hK K)|(intro hg;try exact aw)|exact fin|apply ai)
 all_goals(refine gi ?_;simp only[decide_eq_true_eq,cJ,false_iff,iff_false,true_iff,iff_true];try simp only[gw];omega)
theorem QG (r:dY):ax ae 287 [pC r] (.bool (decide (iw r))):=by
 refine aR func287 ntmps287 results287 call287 rfl ay λw0 S0 M0=> ?_;repeat'(first|refine aB ?_|refine aC λK hK=> ?_|refine cA (D3 _ _ _) ?_|refine cA (HG _ _ _ _) ?_|(refine kA ?_;clear hK K)|(intro hg;try exact aw)|exact fin|apply ai)
 all_goals(refine gi ?_;simp only[decide_eq_true_eq,cJ,false_iff,iff_false,true_iff,iff_true];simp only[NZ,gw]at *;omega)
theorem acJ (c:Ck):ax ae 240 [k8 c] (.bool (decide (rj c))):=by
 refine aR func240 ntmps240 results240 call240 rfl ay λw0 S0 M0=> ?_;repeat'(first|refine aB ?_|refine aC λK hK=> ?_|refine cA (D3 _ _ _) ?_|refine cA (HG _ _ _ _) ?_|(refine kA ?_;clear hK K)|(intro hg;try exact aw)|exact fin|apply ai)
 all_goals(refine gi ?_;simp only[decide_eq_true_eq,cJ,false_iff,iff_false,true_iff,iff_true];simp only[rj,gw]at *;omega)
def yz (l:List Int):Nat->Int
 |0=>nth l 0
 |k + 1=>min (yz l k) (nth l k)
def zc (l:List Int):Nat->Int
 |0=>nth l 0
 |k + 1=>max (zc l k) (nth l k)
theorem Z2 (l:List Int)(h1:1<=l.length)(h2:l.length<=10):ax ae 196 [ints l] (i64 (yz l l.length)):=by
 refine aR func196 ntmps196 results196 call196 rfl ay λw0 S0 M0=> ?_;repeat'(first|refine aB ?_|refine aC λK hK=> ?_|(refine kA ?_;clear hK K)|(intro hg;try exact aw)|exact fin|apply ai)
 refine dH (ι:=Nat) (λj=>[(3,i64 (yz l j)),(9,ints l),(10,i64 l.length),(11,i64 j)]) (λ_=>[]) (λ_=>[])
  (λj=>j<=l.length) (λj=>l.length - j) (λ_ _=>⟨rfl,rfl⟩) 0 (cv _) (aV rfl (by try(refine av ?_;try exact trivial);try simp[yz]) ⟨_,rfl⟩ ⟨_,rfl⟩) (λj hj=> ?_)
 (refine av ?_;try exact trivial)
 repeat'(first|refine aB ?_|refine aC λK hK=> ?_|(refine kA ?_;clear hK K)|(intro hg;try exact aw)|exact fin|apply ai)
 ·exact⟨j + 1,ag,ag,aV rfl (by try(refine av ?_;try exact trivial);try simp[yz]) ⟨_,rfl⟩ ⟨_,rfl⟩⟩
 ·obtain rfl:j=l.length:=ag;rfl
theorem acB (l:List Int)(h1:1<=l.length)(h2:l.length<=10):ax ae 195 [ints l] (i64 (zc l l.length)):=by
 refine aR func195 ntmps195 results195 call195 rfl ay λw0 S0 M0=> ?_;repeat'(first|refine aB ?_|refine aC λK hK=> ?_|(refine kA ?_;clear hK K)|(intro hg;try exact aw)|exact fin|apply ai)
 refine dH (ι:=Nat) (λj=>[(3,i64 (zc l j)),(9,ints l),(10,i64 l.length),(11,i64 j)]) (λ_=>[]) (λ_=>[])
  (λj=>j<=l.length) (λj=>l.length - j) (λ_ _=>⟨rfl,rfl⟩) 0 (cv _) (aV rfl (by try(refine av ?_;try exact trivial);try simp[zc]) ⟨_,rfl⟩ ⟨_,rfl⟩) (λj hj=> ?_)
 (refine av ?_;try exact trivial)
 repeat'(first|refine aB ?_|refine aC λK hK=> ?_|(refine kA ?_;clear hK K)|(intro hg;try exact aw)|exact fin|apply ai)
 ·exact⟨j + 1,ag,ag,aV rfl (by try(refine av ?_;try exact trivial);try simp[zc]) ⟨_,rfl⟩ ⟨_,rfl⟩⟩
 ·obtain rfl:j=l.length:=ag;rfl
theorem O6 (a b:Int):ax ae 196 [.list [i64 a,i64 b]] (i64 (min a b)):=by
 have h:=Z2 [a,b] ay ay;have e:yz [a,b] [a,b].length=min a b:=by
  show min (min (nth [a,b] 0) (nth [a,b] 0)) (nth [a,b] 1)=_;show min (min a a) b=_;omega
 rw[e]at h;exact h
theorem HI (a b:Int):ax ae 195 [.list [i64 a,i64 b]] (i64 (max a b)):=by
 have h:=acB [a,b] ay ay;have e:zc [a,b] [a,b].length=max a b:=by
  show max (max a a) b=_;omega
 rw[e]at h;exact h
theorem acH (a b:Int)(h1:0<=a/\a<=400)(h2:0<=b/\b<=400):ax ae 244 [i64 a,i64 b] (i64 (max (a - b) (b - a))):=by
 refine aR func244 ntmps244 results244 call244 rfl ay λw0 S0 M0=> ?_;repeat'(first|refine aB ?_|refine aC λK hK=> ?_|refine cA (HI _ _) ?_|(refine kA ?_;clear hK K)|(intro hg;try exact aw)|exact fin|apply ai)
theorem Fx {s:cg}{j:Nat}(hj:j < s.ck.length)(h:¬rj (nth s.ck j)):¬fb s:=λhs=>h (hs.c j hj)
theorem DY (s:cg)(hl:s.ck.length<=9223372036854775807):ax ae 191 [iP s] (.bool (decide (fb s))):=by
 refine aR func191 ntmps191 results191 call191 rfl ay λw0 S0 M0=> ?_;repeat'(first|refine aB ?_|refine aC λK hK=> ?_|(refine kA ?_;clear hK K)|(intro hg;try exact aw)|exact fin|apply ai)
 refine dH (ι:=Nat) (λj=>[(1, .box 0 0),(6, .list (s.ck.map k8)),(7,i64 s.ck.length),(8,i64 j)]) (λ_=>[.mu (Ah s)]) (λ_=>[])
  (λj=>j<=s.ck.length/\∀i,i < j->rj (nth s.ck i)) (λj=>s.ck.length - j) (λ_ _=>⟨rfl,rfl⟩) 0 ⟨cv _,λi h=>absurd h (fD i)⟩ (aV rfl (by try(refine av ?_;try exact trivial);try simp) ⟨_,rfl⟩ ⟨_,rfl⟩) (λj ⟨hj,hi⟩=> ?_)
 (refine av ?_;try exact trivial)
 repeat'(first|refine aB ?_|refine aC λK hK=> ?_|refine cA (acJ _) ?_|refine cA (D3 _ _ _) ?_|refine cA (HG _ _ _ _) ?_|(refine kA ?_;clear hK K)|(intro hg;try exact aw)|exact fin|apply ai)
 ·rw[decide_eq_false (Fx (j:=j) ag hg)]
 ·refine⟨j + 1,⟨ag,λi h=> ?_⟩,ag,aV rfl (by try(refine av ?_;try exact trivial);try simp) ⟨_,rfl⟩ ⟨_,rfl⟩⟩;by_cases h9:i=j
  ·rw[h9];exact hg
  ·exact hi i ag
 all_goals(
  have h9:(∀i,i < s.ck.length->rj (nth s.ck i))=True:=eq_true λi h=>hi i ag;refine gi ?_;simp only[decide_eq_true_eq,cJ,false_iff,iff_false,true_iff,iff_true,Fy,h9,and_true];simp only[gw]at *;omega)
end Go.Proofs.YtopobgihpdaggaaGreatDoor
namespace Go.Proofs.YtopobgihpdaggaaGreatDoor
open Go.Ab
theorem kv {a b A B:Int}(h0:0<=a)(h1:a<=A)(h2:0<=b)(h3:b<=B):0<=a * b/\a * b<=A * B:=by
 refine⟨xQ h0 h2, ?_⟩;exact Int.le_trans (Int.mul_le_mul_of_nonneg_right h1 h2) (ub h3 ag)
theorem v8 {a b:Int}(A B:Nat)(h: -(A:Int)<=a/\a<=A)(h2: -(B:Int)<=b/\b<=B): -((A * B:Nat):Int)<=a * b/\a * b<=((A * B:Nat):Int):=by
 have h3:(a * b).natAbs<=A * B:=by rw[Int.natAbs_mul];exact Nat.mul_le_mul ag ag
 omega
def fK (a b:Int):Int:=max (a - b) (b - a)
theorem zh {a b:Int}(h1:0<=a/\a<=400)(h2:0<=b/\b<=400):0<=fK a b/\fK a b<=400:=by unfold fK;omega
theorem Q1 (a b:Int):fK a b=fK b a:=by unfold fK;omega
theorem adb {D:Int}(h:0<=D)(a b c:Int):D * fK a c<=D * fK a b + D * fK b c:=by
 rw[<-zQ];exact ub (by unfold fK;omega) h
theorem HP {D:Int}(h:0<=D)(a b:Int):0<=D * fK a b:=xQ h (by unfold fK;omega)
def oN (s:cg)(day:Int):Nat->Int
 |0=> -2000
 |k + 1=>max (oN s day k) ((nth s.ck k).lo - s.dr * fK day (nth s.ck k).day)
def oY (s:cg)(day:Int):Nat->Int
 |0=>2000
 |k + 1=>min (oY s day k) ((nth s.ck k).hi + s.dr * fK day (nth s.ck k).day)
def rM (s:cg)(day:Int):Int:=oN s day s.ck.length
def rN (s:cg)(day:Int):Int:=oY s day s.ck.length
theorem fb.fK {s:cg}(h:fb s){day:Int}(hd:0<=day/\day<=400){k:Nat}(hk:k < s.ck.length):0<=s.dr * fK day (nth s.ck k).day/\s.dr * fK day (nth s.ck k).day<=40000:=
 kv h.d.1 h.d.2 (zh hd (h.c k hk).1).1 (zh hd (h.c k hk).1).2
theorem O3 {s:cg}(h:fb s)(day:Int)(hd:0<=day/\day<=400):∀k,k<=s.ck.length-> -2000<=oN s day k/\oN s day k<=2000
 |0,_=>by simp[oN]
 |k + 1,hk=>by
  have:=O3 h day hd k ag;have h2:=h.fK hd (k:=k) ag;have h3:=(h.c k ag).2;unfold gw at h3;simp only[oN];omega
theorem Qe {s:cg}(h:fb s)(day:Int)(hd:0<=day/\day<=400):∀k,k<=s.ck.length-> -2000<=oY s day k/\oY s day k<=2000
 |0,_=>by simp[oY]
 |k + 1,hk=>by
  have:=Qe h day hd k ag;have h2:=h.fK hd (k:=k) ag;have h3:=(h.c k ag).2;unfold gw at h3;simp only[oY];omega
theorem aaV {s:cg}(h:fb s){day:Int}(hd:0<=day/\day<=400): -2000<=rM s day/\rM s day<=2000:=O3 h day hd _ (cx _)
theorem aaW {s:cg}(h:fb s){day:Int}(hd:0<=day/\day<=400): -2000<=rN s day/\rN s day<=2000:=Qe h day hd _ (cx _)
theorem O2 {s:cg}{d z:Int}:∀k,oN s d k<=z↔ -2000<=z/\∀i,i < k->(nth s.ck i).lo - s.dr * fK d (nth s.ck i).day<=z
 |0=>by simp[oN]
 |k + 1=>by
  have ih:=O2 (s:=s) (d:=d) (z:=z) k;simp only[oN];rw[Int.max_le,ih];constructor
  ·rintro⟨⟨h1,h2⟩,h3⟩;refine⟨h1,λi hi=> ?_⟩;rcases EX (EY hi)with h|h
   ·exact h2 i h
   ·rw[h];exact h3
  ·rintro⟨h1,h2⟩;exact⟨⟨h1,λi hi=>h2 i ag⟩,h2 k ag⟩
theorem O7 {s:cg}{d z:Int}:∀k,z<=oY s d k↔z<=2000/\∀i,i < k->z<=(nth s.ck i).hi + s.dr * fK d (nth s.ck i).day
 |0=>by simp[oY]
 |k + 1=>by
  have ih:=O7 (s:=s) (d:=d) (z:=z) k;simp only[oY];rw[Int.le_min,ih];constructor
  ·rintro⟨⟨h1,h2⟩,h3⟩;refine⟨h1,λi hi=> ?_⟩;rcases EX (EY hi)with h|h
   ·exact h2 i h
   ·rw[h];exact h3
  ·rintro⟨h1,h2⟩;exact⟨⟨h1,λi hi=>h2 i ag⟩,h2 k ag⟩
theorem Pu {s:cg}{d z:Int}:rM s d<=z↔ -2000<=z/\∀i,i < s.ck.length->(nth s.ck i).lo - s.dr * fK d (nth s.ck i).day<=z:=O2 _
theorem Z3 {s:cg}{d z:Int}:z<=rN s d↔z<=2000/\∀i,i < s.ck.length->z<=(nth s.ck i).hi + s.dr * fK d (nth s.ck i).day:=O7 _
def lf (s:cg)(i k:Nat):Prop:=s.dr * fK (nth s.ck i).day (nth s.ck k).day < max ((nth s.ck i).lo - (nth s.ck k).hi) ((nth s.ck k).lo - (nth s.ck i).hi)
instance(s:cg) (i k:Nat):Decidable (lf s i k):=by unfold lf;infer_instance
def sy (s:cg)(i k:Nat):Prop:=i < k/\k < s.ck.length/\lf s i k/\∀a b,a < b->b < s.ck.length->(a < i\/a=i/\b < k)->¬lf s a b
def jc (s:cg):Prop:=∀a b,a < b->b < s.ck.length->¬lf s a b
noncomputable instance(s:cg):Decidable (jc s):=Classical.propDecidable _
open Classical in
noncomputable def BT (s:cg):Option (Nat×Nat):=if h:∃p:Nat×Nat,sy s p.1 p.2 then some h.choose else none
theorem afo {s:cg}(h:jc s):BT s=none:=by
 unfold BT;rw[dif_neg];rintro⟨p,h1,h2,h3,_⟩;exact h _ _ h1 h2 h3
theorem sy.uniq {s:cg}{i k a b:Nat}(h:sy s i k)(g:sy s a b):a=i/\b=k:=by
 have h1:¬(a < i\/a=i/\b < k):=λe=>h.2.2.2 a b g.1 g.2.1 e g.2.2.1;have h2:¬(i < a\/i=a/\k < b):=λe=>g.2.2.2 i k h.1 h.2.1 e h.2.2.1;omega
theorem afn {s:cg}{i k:Nat}(h:sy s i k):BT s=some (i,k):=by
 unfold BT;have hex:∃p:Nat×Nat,sy s p.1 p.2:=⟨(i,k),h⟩;rw[dif_pos hex];obtain⟨e1,e2⟩:=h.uniq hex.choose_spec
 congr 1;exact Prod.ext e1 e2
theorem HN (p:Nat->Prop):∀n,(∀i,i < n->¬p i)\/∃i,i < n/\p i/\∀j,j < i->¬p j
 |0=> .inl λi hi=>absurd hi (fD i)
 |n + 1=>by
  rcases HN p n with h|⟨i,hi,h1,h2⟩
  ·by_cases hp:p n
   ·exact .inr ⟨n,ag,hp,h⟩
   ·refine .inl λi hi=> ?_;rcases EX (EY hi)with h'|h'
    ·exact h i h'
    ·rw[h'];exact hp
  ·exact .inr ⟨i,ag,h1,h2⟩
theorem RO (s:cg):jc s\/∃i k,sy s i k:=by
 rcases HN (λa=>∃b,a < b/\b < s.ck.length/\lf s a b) s.ck.length with h|⟨i,hi,⟨b,hb⟩,h2⟩
 ·exact .inl λa b h1 h3 h4=>h a ag ⟨b,h1,h3,h4⟩
 ·rcases HN (λk=>i < k/\k < s.ck.length/\lf s i k) s.ck.length with h|⟨k,hk,h3,h4⟩
  ·exact absurd hb (h b hb.2.1)
  ·refine .inr ⟨i,k,h3.1,h3.2.1,h3.2.2,λx y g1 g2 g3 g4=> ?_⟩;rcases g3 with g3|⟨rfl,g3⟩
   ·exact h2 x g3 ⟨y,g1,g2,g4⟩
   ·exact h4 y g3 ⟨g1,g2,g4⟩
theorem sy.no {s:cg}{i k:Nat}(h:sy s i k):¬jc s:=λhn=>hn i k h.1 h.2.1 h.2.2.1
theorem jc.all {s:cg}(h:jc s)(hs:fb s){i k:Nat}(hi:i < s.ck.length)(hk:k < s.ck.length):(nth s.ck i).lo - (nth s.ck k).hi<=s.dr * fK (nth s.ck i).day (nth s.ck k).day:=by
 rcases Nat.lt_trichotomy i k with aU|e|aU
 ·have:=h i k aU hk;unfold lf at this;omega
 ·subst e;have:=(hs.c i hi).2;unfold gw at this
  have h2:=HP hs.d.1 (nth s.ck i).day (nth s.ck i).day;omega
 ·have:=h k i aU hi;unfold lf at this;rw[Q1];omega
theorem Pt {s:cg}(hs:fb s)(hn:jc s)(d:Int):rM s d<=rN s d:=by
 refine Z3.2 ⟨Pu.2 ⟨ag,λi hi=> ?_⟩,λk hk=>Pu.2 ⟨?_,λi hi=> ?_⟩⟩
 ·have:=(hs.c i hi).2;unfold gw at this
  have h2:=HP hs.d.1 d (nth s.ck i).day;omega
 ·have:=(hs.c k hk).2;unfold gw at this
  have h2:=HP hs.d.1 d (nth s.ck k).day;omega
 ·have h1:=hn.all hs hi hk;have h2:=adb hs.d.1 (nth s.ck i).day d (nth s.ck k).day;rw[Q1 (nth s.ck i).day d]at h2;omega
def ko:List Int:=[38,61,96,144,216,316,458,654,921,1279,1753,2376,3182,4218,5532,7188,9251]
def jT (t:Int):Int:=if(t + 300) % 50=0 then nth ko ((t + 300) / 50).toNat else
 nth ko ((t + 300) / 50).toNat + (nth ko (((t + 300) / 50).toNat + 1) - nth ko ((t + 300) / 50).toNat) * ((t + 300) % 50) / 50
theorem agn:((dB 801).all λk=>decide (38<=jT ((k:Int) - 300)/\jT ((k:Int) - 300)<=9251/\(k < 800->jT ((k:Int) - 300)<=jT ((k:Int) - 300 + 1))))=true:=by decide +kernel
theorem xe {t:Int}(h: -300<=t/\t<=500):38<=jT t/\jT t<=9251/\(t < 500->jT t<=jT (t + 1)):=by
 have:=ic.1 agn (t + 300).toNat (ld.2 ag);have e:(((t + 300).toNat:Nat):Int) - 300=t:=ag;simp only[e,decide_eq_true_eq]at this;exact⟨this.1,this.2.1,λh=>this.2.2 ag⟩
theorem Ir {a b:Int}(h1: -300<=a)(h2:a<=b)(h3:b<=500):jT a<=jT b:=by
 obtain⟨n,hn⟩:∃n:Nat,b=a + n:=⟨(b - a).toNat,ag⟩;subst hn;clear h2;induction n with
 |zero=>simp
 |succ n ih=>
  have:=ih ag;have h:=(xe (t:=a + n) ag).2.2 ag;rw[show a + ((n + 1:Nat):Int)=a + n + 1 by omega];omega
def n3 (m a:Int):Int:=m - m * a * 163 / 10000000
def u7 (h g:Int):Int:=h + h * g / 1000000
def yP (m a g:Int):Int:=u7 (n3 m a) g
def vS (h ht d:Int):Int:=h + h * ht * 10 / (79900 + 29 * d)
def mN (h d w:Int):Int:=max 0 (jT (min w d) - h * (d - min w d) * 8 / 100000)
def s7 (h d w:Int):Int:=100 * mN h d w / jT d
theorem DQ {m a:Int}(hm:37800<=m/\m<=92200)(ha: -300<=a/\a<=500):(-46100000<=m * a/\m * a<=46100000)/\37000<=n3 m a/\n3 m a<=92700:=by
 have h:=v8 92200 500 (a:=m) (b:=a) ag ag;have h1:m * a<=92200 * 500:=by
  have:=h.2;omega
 have h2: -(92200 * 300)<=m * a:=by
  have e:m * (-a)<=92200 * 300:=by
   rcases Int.le_total 0 (-a)with h|h
   ·exact(kv (A:=92200) (B:=300) ag hm.2 h ag).2
   ·have:=ub h (show(0:Int)<=m by omega);omega
  rw[Int.mul_neg]at e;omega
 refine⟨ag, ?_⟩;unfold n3;omega
theorem Qm {h g:Int}(hh:37000<=h/\h<=92700)(hg: -3000<=g/\g<=3000):(-278100000<=h * g/\h * g<=278100000)/\36700<=u7 h g/\u7 h g<=93000:=by
 have h2:=v8 92700 3000 (a:=h) (b:=g) ag ag;unfold u7;omega
theorem ab4 {m a g:Int}(hm:37800<=m/\m<=92200)(ha: -300<=a/\a<=500)(hg: -3000<=g/\g<=3000):36700<=yP m a g/\yP m a g<=93000:=(Qm (DQ hm ha).2 hg).2
theorem NA {h ht d:Int}(hh:36700<=h/\h<=93000)(wv:0<=ht/\ht<=3000)(hd: -300<=d/\d<=500):(0<=h * ht/\h * ht<=279000000)/\(0<=h * ht * 10 / (79900 + 29 * d)/\h * ht * 10 / (79900 + 29 * d)<=2790000000)/\h<=vS h ht d/\vS h ht d<=3000000000:=by
 have h1:=kv (A:=93000) (B:=3000) ag hh.2 wv.1 wv.2;have h2:0<=h * ht * 10 / (79900 + 29 * d):=E3 ag ag;have h3:h * ht * 10 / (79900 + 29 * d)<=h * ht * 10:=Int.ediv_le_self _ ag;unfold vS;omega
theorem M9 {h d w:Int}(hh:36700<=h/\h<=93000)(hd: -300<=d/\d<=500)(hw: -300<=w/\w<=500):(0<=h * (d - min w d)/\h * (d - min w d)<=74400000)/\0<=mN h d w/\mN h d w<=jT d:=by
 have h1:=kv (A:=93000) (B:=800) (a:=h) (b:=d - min w d) ag hh.2 ag ag;have h2:=Ir (a:=min w d) (b:=d) ag ag ag;have h3:=xe hd;unfold mN;omega
theorem PK {h d w:Int}(hh:36700<=h/\h<=93000)(hd: -300<=d/\d<=500)(hw: -300<=w/\w<=500):0<=s7 h d w/\s7 h d w<=100:=by
 have h1:=(M9 hh hd hw).2;have h3:=xe hd;unfold s7;refine⟨E3 ag ag, ?_⟩;have:100 * mN h d w / jT d < 101:=Int.ediv_lt_of_lt_mul ag ag;omega
theorem Re {a b k c:Int}(hc:0 < c)(h:a<=b + k * c):a / c<=b / c + k:=by
 have:=Cr hc h
 rwa [Te _ _ ag]at this
theorem ab6 {m m' a a':Int}(h:m<=m')(h0:0<=m)(ha:a'<=a)(hb:a'<=500):n3 m a<=n3 m' a':=by
 have h1:m' * a' * 163 / 10000000<=m * a' * 163 / 10000000 + (m' - m):=by
  refine Re ag ?_;have:(m' - m) * (a' * 163)<=(m' - m) * 10000000:=ub ag ag;rw[E2]at this;rw[Int.mul_assoc,Int.mul_assoc];omega
 have h2:m * a' * 163 / 10000000<=m * a * 163 / 10000000:=by
  refine Cr ag ?_;have:=ub ha h0;omega
 unfold n3;omega
theorem ab5 {h h' g g':Int}(hh:h<=h')(h0:0<=h)(hg:g<=g')(hb: -3000<=g'):u7 h g<=u7 h' g':=by
 have h1:h * g' / 1000000<=h' * g' / 1000000 + (h' - h):=by
  refine Re ag ?_;have:0<=(h' - h) * (g' + 1000000):=xQ ag ag;rw[E2,zQ,zQ]at this;rw[E2];omega
 have h2:h * g / 1000000<=h * g' / 1000000:=Cr ag (ub hg h0);unfold u7;omega
theorem Ql {m m' a a' g g':Int}(hm:m<=m')(iK:37800<=m/\m'<=92200)(ha:a'<=a)(ha0: -300<=a'/\a<=500)(hg:g<=g')(hg0: -3000<=g/\g'<=3000):yP m a g<=yP m' a' g':=
 ab5 (ab6 hm ag ha ag) (by have:=(DQ (m:=m) (a:=a) ag ag).2;omega) hg ag
theorem Rf {a b c:Int}(ha:0<=a)(hc:0 < c)(h:c<=b):a / b<=a / c:=by
 refine Int.le_ediv_of_mul_le hc ?_;have h1:0<=a / b:=E3 ha ag;have h2:=Int.ediv_mul_le a (b:=b) ag;have h3:=ub h h1;omega
theorem Nz {h h' t t' d d':Int}(hh:h<=h')(h0:36700<=h/\h'<=93000)(ht:t<=t')(PM:0<=t)(hd:d'<=d)(jn: -300<=d'):vS h t d<=vS h' t' d':=by
 have h1:h * t<=h' * t':=(kv (A:=h') (B:=t') ag hh PM ht).2;have hp:0<=h' * t':=xQ ag ag;have h2:h * t * 10 / (79900 + 29 * d)<=h' * t' * 10 / (79900 + 29 * d):=Cr ag ag;have h3:h' * t' * 10 / (79900 + 29 * d)<=h' * t' * 10 / (79900 + 29 * d'):=Rf ag ag ag;unfold vS;omega
theorem PJ {h h' d d' w w':Int}(hh:h'<=h)(h0:36700<=h'/\h<=93000)(hd:d'<=d)(jn: -300<=d'/\d<=500)(hw:w<=w')(hw0: -300<=w/\w'<=500):s7 h d w<=s7 h' d' w':=by
 rcases Int.lt_or_le w' d' with hc|hc
 ·have e1:min w d=w:=ag;have e2:min w' d'=w':=ag;have h1:h' * (d' - w')<=h * (d - w):=(kv (A:=h) (B:=d - w) ag hh ag ag).2;have h2:h' * (d' - w') * 8 / 100000<=h * (d - w) * 8 / 100000:=Cr ag ag;have h3:=Ir (a:=w) (b:=w') ag hw ag;have h4:=Ir (a:=d') (b:=d) ag hd ag;have hv:mN h d w<=mN h' d' w':=by unfold mN;rw[e1,e2];omega
  have hp:0<=mN h' d' w':=by unfold mN;omega
  have ha:=xe (t:=d') ag;unfold s7;exact Int.le_trans (Cr ag (show 100 * mN h d w<=100 * mN h' d' w' by omega)) (Rf ag ag h4)
 ·have h1:=(PK (h:=h) (d:=d) (w:=w) ag ag ag).2;have e2:min w' d'=d':=ag;have ha:=xe (t:=d') ag;have:s7 h' d' w'=100:=by
   unfold s7 mN;rw[e2,Int.sub_self,Int.mul_zero,Int.zero_mul,Int.zero_ediv,Int.sub_zero,Int.max_eq_right ag];exact Int.mul_ediv_cancel _ ag
  omega
end Go.Proofs.YtopobgihpdaggaaGreatDoor
namespace Go.Proofs.YtopobgihpdaggaaGreatDoor
open Go.Ab
attribute[local irreducible] az dI dR ax
theorem QI (a b:Int)(h1:0<=a/\a<=400)(h2:0<=b/\b<=400):ax ae 244 [i64 a,i64 b] (i64 (fK a b)):=acH a b h1 h2
noncomputable def zr (s:cg):D:=match BT s with
 |some p=> .aQ [i64 p.1,i64 p.2, .bool true]
 |none=> .aQ [i64 0,i64 0, .bool false]
theorem Ek {s:cg}(h:jc s):zr s= .aQ [i64 0,i64 0, .bool false]:=by unfold zr;rw[afo h]
theorem Ej {s:cg}{i k:Nat}(h:sy s i k):zr s= .aQ [i64 i,i64 k, .bool true]:=by unfold zr;rw[afn h]
end Go.Proofs.YtopobgihpdaggaaGreatDoor
namespace Go.Proofs.YtopobgihpdaggaaGreatDoor
open Go.Ab
def ov (s:cg)(r:dY)(t:gv):Prop:=(rM s r.day<=t.ix/\t.ix<=rN s r.day)/\(-s.rd<=t.er/\t.er<=s.rd)/\(s.gl<=t.gr/\t.gr<=s.gh)/\(s.hl<=t.ht/\t.ht<=s.hh)/\(r.al<=t.at_/\t.at_<=r.ah)/\(r.dl<=t.dy/\t.dy<=r.dh)/\(r.wl<=t.wt/\t.wt<=r.wh)
instance(s:cg) (r:dY) (t:gv):Decidable (ov s r t):=by unfold ov;infer_instance
structure ow (t:gv):Prop where
 i: -2000<=t.ix/\t.ix<=2000
 e: -200<=t.er/\t.er<=200
 g: -3000<=t.gr/\t.gr<=3000
 h:0<=t.ht/\t.ht<=3000
 a: -300<=t.at_/\t.at_<=500
 d: -300<=t.dy/\t.dy<=500
 w: -300<=t.wt/\t.wt<=500
theorem vO {s:cg}{r:dY}{t:gv}(hs:fb s)(hr:iw r)(h:ov s r t):ow t:=by
 have h1:=aaV hs hr.d;have h2:=aaW hs hr.d
 have h3:=hs.h;have h4:=hs.g;have h5:=hs.r;have h6:=hr.a;have h7:=hr.y;have h8:=hr.w
 unfold ov at h;unfold gw at *;constructor<;>omega
def gn (r:dY)(t:gv):Int:=r.gn - t.ix - t.er
def here (r:dY)(t:gv):Int:=yP (gn r t) t.at_ t.gr
def nJ (r:dY)(t:gv):Int:=vS (here r t) t.ht t.dy
def pH (r:dY)(t:gv):Int:=s7 (here r t) t.dy t.wt
theorem uH {r:dY}{t:gv}(hr:iw r)(ht:ow t):37800<=gn r t/\gn r t<=92200:=by
 have:=hr.q;have:=ht.i;have:=ht.e;unfold gn;omega
theorem DP {r:dY}{t:gv}(hr:iw r)(ht:ow t):36700<=here r t/\here r t<=93000:=ab4 (uH hr ht) ht.a ht.g
def uE (e:Int):Prop:=e=1\/e=3\/e=4
instance(e:Int):Decidable (uE e):=by unfold uE;infer_instance
def jQ (s:cg)(r:dY)(e:Int):gv:=
 ⟨if uE e then rM s r.day else rN s r.day,if uE e then -s.rd else s.rd,if uE e then s.gh else s.gl,if e=3 then s.hh else s.hl,if uE e then r.al else r.ah,if e=2\/e=4 then r.dh else r.dl,if e=5 then r.wh else r.wl⟩
theorem HT {s:cg}{r:dY}(hs:fb s)(hr:iw r)(hn:jc s)(e:Int):ov s r (jQ s r e):=by
 have h1:=Pt hs hn r.day;have h3:=hs.h;have h4:=hs.g;have h5:=hs.r;have h6:=hr.a;have h7:=hr.y;have h8:=hr.w
 unfold gw at *;unfold ov jQ;simp only;refine⟨?_, ?_, ?_, ?_, ?_, ?_, ?_⟩<;>split<;>omega
theorem ab2 {s:cg}{r:dY}{t:gv}(hs:fb s)(hr:iw r)(hn:jc s)(h:ov s r t):∀e:Int,¬uE e->here r (jQ s r e)<=here r t:=λe he=>by
 have hb:=vO hs hr h;have hm:=uH hr hb;have iq:=vO hs hr (HT hs hr hn e);have kD:=uH hr iq;have ha:=hr.a;have hg:=hs.g;have Qu:=hb.g;have hba:=hb.a
 unfold gw at ha hg;unfold ov at h;unfold gn jQ at kD;simp only[if_neg he]at kD;unfold here gn jQ;simp only[if_neg he];unfold gn at hm;exact Ql ag ag ag ag ag ag
theorem ab3 {s:cg}{r:dY}{t:gv}(hs:fb s)(hr:iw r)(hn:jc s)(h:ov s r t):∀e:Int,uE e->here r t<=here r (jQ s r e):=λe he=>by
 have hb:=vO hs hr h;have hm:=uH hr hb;have iq:=vO hs hr (HT hs hr hn e);have kD:=uH hr iq;have ha:=hr.a;have hg:=hs.g;have Qu:=hb.g;have hba:=hb.a
 unfold gw at ha hg;unfold ov at h;unfold gn jQ at kD;simp only[if_pos he]at kD;unfold here gn jQ;simp only[if_pos he];unfold gn at hm;exact Ql ag ag ag ag ag ag
theorem holds {s:cg}{r:dY}{t:gv}(hs:fb s)(hr:iw r)(hn:jc s)(h:ov s r t):
  (here r (jQ s r 0)<=here r t/\here r t<=here r (jQ s r 1))/\(nJ r (jQ s r 2)<=nJ r t/\nJ r t<=nJ r (jQ s r 3))/\(pH r (jQ s r 4)<=pH r t/\pH r t<=pH r (jQ s r 5))/\
  (0<=pH r t/\pH r t<=100)/\here r t<=nJ r t:=by
 have hb:=vO hs hr h;have b:∀e,ow (jQ s r e):=λe=>vO hs hr (HT hs hr hn e);have h0:=DP hr hb;have h1:=λe=>DP hr (b e);have hy:=hr.y;have hw:=hr.w;have hh:=hs.h
 unfold gw at hy hw hh;have ht:=h;unfold ov at ht;have lo:=ab2 hs hr hn h;have hi:=ab3 hs hr hn h;have hbd:=hb.d;have e_:=hb.w;have hbh:=hb.h
 refine⟨⟨lo 0 ak,hi 1 ak⟩,⟨?_, ?_⟩,⟨?_, ?_⟩,PK h0 hb.d hb.w,(NA h0 hb.h hb.d).2.2.1⟩
 ·exact Nz (lo 2 ak) ⟨(h1 2).1,h0.2⟩ (by show s.hl<=t.ht;omega) (by show 0<=s.hl;omega) (by show t.dy<=r.dh;omega) ag
 ·exact Nz (hi 3 ak) ⟨h0.1,(h1 3).2⟩ (by show t.ht<=s.hh;omega) ag (by show r.dl<=t.dy;omega) (by show -300<=r.dl;omega)
 ·exact PJ (hi 4 ak) ⟨h0.1,(h1 4).2⟩ (by show t.dy<=r.dh;omega) ⟨ag,by show r.dh<=500;omega⟩ (by show r.wl<=t.wt;omega) ⟨by show -300<=r.wl;omega,ag⟩
 ·exact PJ (lo 5 ak) ⟨(h1 5).1,h0.2⟩ (by show r.dl<=t.dy;omega) ⟨by show -300<=r.dl;omega,ag⟩ (by show t.wt<=r.wh;omega) ⟨ag,by show r.wh<=500;omega⟩
end Go.Proofs.YtopobgihpdaggaaGreatDoor
namespace Go.Proofs.YtopobgihpdaggaaGreatDoor
set_option maxRecDepth 100000
set_option maxHeartbeats 4000000
open Go.Ab
attribute[local irreducible] az dI dR ax
theorem VM {a b:Int}(hb:0 < b):(vz a b < 0->zP a b - 1=a / b)/\(¬vz a b < 0->zP a b=a / b):=by
 have h1:=Int.mul_tdiv_add_tmod a b;have h2:vz a b < b:=Int.tmod_lt_of_pos a hb;have h3: -b < vz a b:=Int.lt_tmod_of_pos a hb;generalize zP a b=q at *;generalize vz a b=r at *;subst h1;constructor
 ·intro hr;rw[show b * q + r=(r + b) + (q - 1) * b by rw[E2,xR b q];omega,Te _ _ ag,agY ag ag];omega
 ·intro hr;rw[show b * q + r=r + q * b by rw[xR b q];omega,Te _ _ ag,agY ag ag];omega
theorem VN {a b:Int}(ha: -4000000000000000000<=a/\a<=4000000000000000000)(hb:0 < b): -4000000000000000000<=zP a b/\zP a b<=4000000000000000000:=by
 have h:=Int.natAbs_tdiv a b;have h2:a.natAbs / b.natAbs<=a.natAbs:=Nat.div_le_self _ _;have h3:a.natAbs.div b.natAbs=a.natAbs / b.natAbs:=rfl;generalize a.natAbs / b.natAbs=q at *;omega
theorem D4 (a b:Int)(ha: -4000000000000000000<=a/\a<=4000000000000000000)(hb:0 < b/\b<=4000000000000000000):ax ae 342 [i64 a,i64 b] (i64 (a / b)):=by
 have h1:=VM (a:=a) hb.1;have h2:=VN ha hb.1;have h3:vz a b < b:=Int.tmod_lt_of_pos a hb.1;have h4: -b < vz a b:=Int.lt_tmod_of_pos a hb.1;refine aR func342 ntmps342 results342 call342 rfl ay λw0 S0 M0=> ?_;repeat'(first|refine aB ?_|refine aC λK hK=> ?_|(refine kA ?_;clear hK K)|(intro hg;try exact aw)|exact fin|apply ai)
 ·rw[h1.1 hg]
 ·rw[h1.2 hg]
theorem Sw {i:Nat}(h:i < 17):38<=nth ko i/\nth ko i<=9251:=by
 have:((dB 17).all λi=>decide (38<=nth ko i/\nth ko i<=9251))=true:=ak;simpa using ic.1 this i (ld.2 h)
theorem ago {i:Nat}(h:i < 16):nth ko i<=nth ko (i + 1):=by
 have:((dB 16).all λi=>decide (nth ko i<=nth ko (i + 1)))=true:=ak;simpa using ic.1 this i (ld.2 h)
end Go.Proofs.YtopobgihpdaggaaGreatDoor
namespace Go.Proofs.YtopobgihpdaggaaGreatDoor
open Go.Ab
attribute[local irreducible] az dI dR ax
abbrev vG (r:dY)(t:gv):D:= .agg [i64 (here r t),i64 (nJ r t),i64 (pH r t)]
section
variable (r:dY) (t:gv)
theorem Q5:r.gn - t.ix - t.er=gn r t:=rfl
theorem Q8:gn r t - gn r t * t.at_ * 163 / 10000000=n3 (gn r t) t.at_:=rfl
theorem Q7:n3 (gn r t) t.at_ + n3 (gn r t) t.at_ * t.gr / 1000000=here r t:=rfl
theorem Q4:here r t + here r t * t.ht * 10 / (79900 + 29 * t.dy)=nJ r t:=rfl
theorem Q3:max 0 (jT (min t.wt t.dy) - here r t * (t.dy - min t.wt t.dy) * 8 / 100000)=mN (here r t) t.dy t.wt:=rfl
theorem Q6:100 * mN (here r t) t.dy t.wt / jT t.dy=pH r t:=rfl
end
abbrev Pa (s:cg)(r:dY):D:= .agg [i64 (here r (jQ s r 0)),i64 (here r (jQ s r 1)),i64 (nJ r (jQ s r 2)),i64 (nJ r (jQ s r 3)),i64 (pH r (jQ s r 4)),i64 (pH r (jQ s r 5))]
end Go.Proofs.YtopobgihpdaggaaGreatDoor
section
namespace Go.Ab
open Go.RowKit
def SY (P:Program){ι:Type}(RR:ι->St->Act->World->Prop):Prop:=
 ∀i s a w,RR i s a w->∃(w0:World) (S0:Addr->Prop) (M0:MM) (own:Nat->Prop),R ⟨P,w0,S0,M0,none,own,[]⟩ s a w/\∀s' a' w',R ⟨P,w0,S0,M0,none,own,[]⟩ s' a' w'->RR i s' a' w'
section
variable {P:Program} {ι:Type} {RR:ι->St->Act->World->Prop} {Q:Exit->ι->St->Prop} {i:ι} {s:St}
theorem SY.le (h:SY P RR){s':St}{a:Act}{w:World}(hr:RR i s a w)(hl:Le s s')(hn:s'.named):RR i s' a w:=by
 obtain⟨w0,S0,M0,own,h1,h2⟩:=h i s a w hr;exact h2 _ _ _ (h1.le hl hn (cv _))
end
theorem agi {P:Program}{ops:Array Oper}{Q:Exit->Act->World->Prop}(Inv:(Nat->Bool)->Act->World->Prop)
  (wB:∀(i:Nat) (o:Oper),ops[i]? =some o->∀e∈o.after,eF .any e=true->e.on < i)(cK:∀(i:Nat) (o:Oper),ops[i]? =some o->o.guard=none)
  (step:∀(L:Nat->Bool) (i:Nat) (o:Oper),ops[i]? =some o->L i=false->(∀e∈o.after,eF .any e=true->L e.on=true)->∀a w,Inv L a w->
   o.wpIn eO 0 P a w (Inv (λj=>decide (j=i)||L j)) Q)
  (done:∀(L:Nat->Bool) a w,(∀i,i < ops.size->L i=true)->Inv L a w->Q .normal a w):
  ∀(fuel:Nat) (listed:Array Bool) (a:Act) (w:World),listed.size=ops.size->((dB ops.size).filter λj=> !listed.getD j false).length<=fuel->Inv (λj=>listed.getD j false) a w->
   wpAnyIn eO 0 P .any ops Q fuel listed a w:=by
 have iW:∀(listed:Array Bool) (j:Nat),listed.size=ops.size->j < ops.size->listed.getD j true=listed.getD j false:=λlisted j hs hj=>by
  simp[hs,hj]
 have bu:∀listed:Array Bool,listed.size=ops.size->kO .any ops listed=[]->∀i,i < ops.size->listed.getD i false=true:=λlisted hs hr=>by
  intro i;induction i using Nat.strongRecOn with
  |_ i ih=>
   intro hi;cases hl:listed.getD i false with
   |true=>rfl
   |false=>
    exfalso;have:i∈kO .any ops listed:=mem_ready.2 ⟨by rw[iW listed i hs hi];exact hl,ops[i],by simp[hi],λe he hb=>ih e.on (wB i _ (by simp[hi]) e he hb) (Nat.lt_trans (wB i _ (by simp[hi]) e he hb) hi)⟩;rw[hr]at this;cases this
 intro fuel;induction fuel with
 |zero=>
  intro listed a w hs hc hI;have nX:((dB ops.size).filter λj=> !listed.getD j false)=[]:=List.length_eq_zero_iff.1 (Nat.le_zero.1 hc);have hL:∀i,i < ops.size->listed.getD i false=true:=λi hi=>by
   cases hl:listed.getD i false with
   |true=>rfl
   |false=>
    have:i∈((dB ops.size).filter λj=> !listed.getD j false):=Cn.2 ⟨ld.2 hi,by rw[hl];rfl⟩;rw[nX]at this;cases this
  refine⟨?_,done _ a w hL hI⟩;refine List.eq_nil_iff_forall_not_mem.2 λi hi=> ?_;obtain⟨h1,o,ho,_⟩:=mem_ready.1 hi;have fk:=(bJ.1 ho).1;rw[iW listed i hs fk,hL i fk]at h1;cases h1
 |succ fuel ih=>
  intro listed a w hs hc hI;refine⟨λh0=>done _ a w (bu listed hs h0) hI,λi hi=> ?_⟩;obtain⟨h1,o,ho,h2⟩:=mem_ready.1 hi;have fk:=(bJ.1 ho).1;have hl:listed.getD i false=false:=by rw[<-iW listed i hs fk];exact h1
  unfold wpOpIn;rw[ho];simp only;rw[if_pos (by simp[d_,cK i o ho])];refine Oper.wpIn_mono (λa' w' HC=> ?_) (step (λj=>listed.getD j false) i o ho hl (λe he hb=>h2 e he hb) a w hI);refine ih (listed.setIfInBounds i true) a' w' (by simpa using hs) ?_ ?_
  ·have aU:((dB ops.size).filter λj=> !(listed.setIfInBounds i true).getD j false).length < ((dB ops.size).filter λj=> !listed.getD j false).length:=by
    have wx:((dB ops.size).filter λj=> !(listed.setIfInBounds i true).getD j false)=(((dB ops.size).filter λj=> !listed.getD j false).filter λj=>decide (j≠i)):=by
     rw[List.filter_filter];refine List.filter_congr λj hj=> ?_;by_cases bd:j=i
     ·subst bd;simp[hs,fk]
     ·simp[sB,Ne.symm bd,bd]
    rw[wx];refine List.length_filter_lt_length_iff_exists.2 ⟨i,Cn.2 ⟨ld.2 fk,by rw[hl];rfl⟩,by simp⟩
   omega
  ·have e:(λj=>(listed.setIfInBounds i true).getD j false)=λj=>decide (j=i)||listed.getD j false:=by
    funext j
    by_cases bd:j=i
    ·subst bd;simp[hs,fk]
    ·simp[sB,Ne.symm bd,bd]
   rw[e];exact HC
theorem T4 {P:Program}{ops:Array Oper}{Q:Exit->Act->World->Prop}{id:Nat}{a:Act}{w:World}(hm:P.follows .mixedOrders=true)(Inv:(Nat->Bool)->Act->World->Prop)
  (wB:∀(i:Nat) (o:Oper),ops[i]? =some o->∀e∈o.after,eF .any e=true->e.on < i)(cK:∀(i:Nat) (o:Oper),ops[i]? =some o->o.guard=none)
  (step:∀(L:Nat->Bool) (i:Nat) (o:Oper),ops[i]? =some o->L i=false->(∀e∈o.after,eF .any e=true->L e.on=true)->∀a w,Inv L a w->
   o.wpIn eO 0 P a w (Inv (λj=>decide (j=i)||L j)) Q)
  (done:∀(L:Nat->Bool) a w,(∀i,i < ops.size->L i=true)->Inv L a w->Q .normal a w)
  (h0:Inv (λ_=>false) a {w with drawn:=w.drawn + 1}):(Code.region id ops true).wpIn eO 0 P Q a w:=by
 refine wpIn_region_any hm (agi Inv wB cK step done ops.size _ a _ ay ?_ ?_)
 ·exact Nat.le_trans (List.length_filter_le _ _) ay
 ·have e:(λj=>(Array.replicate ops.size false).getD j false)=λ_=>false:=by
   funext j
   by_cases hj:j < ops.size<;>simp[hj]
  rw[e];exact h0
end Go.Ab
namespace Go.Ab
def BM (ops:Array Oper):Bool:=(dB ops.size).all λi=>match ops[i]? with|some o=>o.after.all (λe=> !eF .any e||decide (e.on < i))&&o.guard.isNone|none=>true
theorem QP {ops:Array Oper}(h:BM ops=true){i:Nat}{o:Oper}(ho:ops[i]? =some o):(∀e∈o.after,eF .any e=true->e.on < i)/\o.guard=none:=by
 have hi:=(bJ.1 ho).1;have h1:=ic.1 h i (ld.2 hi);rw[ho]at h1;simp only[dZ]at h1;refine⟨λe he hb=> ?_,by simpa using h1.2⟩;have:=Array.all_eq_true'.1 h1.1 e he;simpa[hb]using this
theorem TZ {P:Program}{ops:Array Oper}{Q:Exit->Act->World->Prop}{id:Nat}{a:Act}{w:World}(hm:P.follows .mixedOrders=true)(hB:BM ops=true)(Inv:(Nat->Bool)->Act->World->Prop)
  (h0:Inv (λ_=>false) a {w with drawn:=w.drawn + 1})
  (step:∀(L:Nat->Bool) (i:Nat) (o:Oper),ops[i]? =some o->L i=false->(∀e∈o.after,eF .any e=true->L e.on=true)->∀a w,Inv L a w->
   o.wpIn eO 0 P a w (Inv (λj=>decide (j=i)||L j)) Q)
  (done:∀(L:Nat->Bool) a w,(∀i,i < ops.size->L i=true)->Inv L a w->Q .normal a w):(Code.region id ops true).wpIn eO 0 P Q a w:=
 T4 hm Inv (λi o ho=>(QP hB ho).1) (λi o ho=>(QP hB ho).2) step done h0
end Go.Ab
namespace Go.Ab
def fB (n:Nat):Code->List (Array Oper)
 | .region i ops _=>if i == n then[ops]else[]
 | .seq a b=>fB n a++fB n b
 | .cond _ a b=>fB n a++fB n b
 | .block _ b=>fB n b
 | .loop b=>fB n b
 | .rangeFunc _ _ a b=>fB n a++fB n b
 | .scope b=>fB n b
 |_=>[]
def dK (f:Func)(n:Nat):Array Oper:=(((f.body.map (fB n)).getD [])).headD #[]
end Go.Ab
end
section
namespace Go.Ab
def oe (ops:Array Oper)(L:Nat->Bool):Prop:=∀(j:Nat) (o:Oper),ops[j]? =some o->L j=true->∀e∈o.after,eF .any e=true->L e.on=true
theorem TY {P:Program}{ops:Array Oper}{Q:Exit->Act->World->Prop}{id:Nat}{a:Act}{w:World}(hm:P.follows .mixedOrders=true)(hB:BM ops=true)(Inv:(Nat->Bool)->Act->World->Prop)
  (h0:Inv (λ_=>false) a {w with drawn:=w.drawn + 1})
  (step:∀(L:Nat->Bool) (i:Nat) (o:Oper),oe ops L->ops[i]? =some o->L i=false->(∀e∈o.after,eF .any e=true->L e.on=true)->∀a w,Inv L a w->
   o.wpIn eO 0 P a w (Inv (λj=>decide (j=i)||L j)) Q)
  (done:∀(L:Nat->Bool) a w,(∀i,i < ops.size->L i=true)->Inv L a w->Q .normal a w):(Code.region id ops true).wpIn eO 0 P Q a w:=by
 refine TZ hm hB (λL a w=>oe ops L/\Inv L a w) ⟨λj o _ h=>(by cases h),h0⟩ (λL i o ho hL aa a w hI=> ?_) (λL a w hL hI=>done L a w hL hI.2);refine Oper.wpIn_mono (λa' w' h=>⟨λj oj hj kJ e he hb=> ?_,h⟩) (step L i o hI.1 ho hL aa a w hI.2);simp only[Bool.or_eq_true,decide_eq_true_eq]at kJ⊢;rcases kJ with rfl|kJ
 ·rw[ho]at hj;cases hj
  exact .inr (aa e he hb)
 ·exact .inr (hI.1 j oj hj kJ e he hb)
end Go.Ab
namespace Go.Ab
open Go.RowKit
end Go.Ab
end
namespace Go.Ab
open Go.RowKit
section
variable {c:Ctx} {s:St} {a:Act} {w:World} {g:Gh}
theorem RG.N8 {v:Value}{xs:List D}{e:TypeId}{sz:Nat}{vals:List Value}(h:RG c s a w g)(b9:Rel w g v (.list xs))(bG:w.ownsRow 0 e sz v xs.length vals)(bE:∀x∈xs,x.cells.length=sz)
  (hS:∀gb,v.ownBlock=some gb->c.own gb/\∀x,g.S x->x.block=gb->x.off < xs.length * sz)
  (hO:∀gb,v.ownBlock=some gb->∀(i:Nat) (x:Bx) (b:Nat),s.bx[i]? =some x->x.live=true->g.β[i]? =some b->b≠gb)
  (oZ:∀gb,v.ownBlock=some gb->∀(r:Nat) (row:Row) (v2:Value) (g2:Nat),s.rw[r]? =some row->row.live=true->g.ρ[r]? =some v2->v2.ownBlock=some g2->g2≠gb):
  RG c {s with rw:=s.rw++[⟨true,e,sz,xs⟩]} a w ⟨g.S,g.β,g.ρ++[v],g.M⟩:=by
 have k:ep w g w ⟨g.S,g.β,g.ρ++[v],g.M⟩:=⟨λ_ _=>rfl,λ_ h=>h,λ_ _ h=>h,λi b hi=>by
  rw[cZ (bm.1 hi).1];exact hi,λ_ _ h=>h⟩
 have hold:∀(i:Nat) (x:Row),(s.rw++[⟨true,e,sz,xs⟩])[i]? =some x->s.rw[i]? =some x/\i < s.rw.length\/x=⟨true,e,sz,xs⟩/\i=s.rw.length:=λi x hi=>by
  rcases Nat.lt_or_ge i s.rw.length with aU|il
  ·rw[cZ aU]at hi;exact .inl ⟨hi,aU⟩
  ·rw[List.getElem?_append_right il]at hi;have:i - s.rw.length=0:=by have:=(bm.1 hi).1;simp at this;omega
   rw[this]at hi;simp at hi;exact .inr ⟨hi.symm,ag⟩
 have hn:(g.ρ++[v])[s.rw.length]? =some v:=by rw[<-h.lρ];simp
 refine⟨h.df.gh rfl,h.sz,h.below,h.cY,h.bt,h.eD,h.S0,h.fU,h.lβ,by simp[h.lρ],λn=>(h.sl n).bb k, ?_, ?_, ?_, ?_,λi es hi=>(h.mp i es hi).imp λb hm=>hm.bb k rfl hm.nm⟩
 ·intro i cs hi;obtain⟨b,vs,t,e1,e2,e3,e4,e5,e6⟩:=(h.bx i cs hi).ex;exact⟨b,vs,t,e1,e2,e3.bb k,e4,e5,e6⟩
 ·intro i cs hi;obtain⟨b,vs,t,e1,e2,e3,e4,e5,e6⟩:=(h.fz i cs hi).ex;exact⟨b,vs,t,e1,e2,e3,e4,e5,e6⟩
 ·intro r row hr;rcases hold r _ hr with⟨hr,_⟩|⟨rfl,rfl⟩
  ·obtain⟨v,e1,e2,e3⟩:=(h.rw r row hr).ex;exact⟨v,k.ρ _ _ e1,e2.bb k,e3⟩
  ·exact⟨_,hn,b9.bb k,λ_=>⟨⟨vals,bG⟩,bE,hS⟩⟩
 ·obtain⟨κ,k1,k2⟩:=h.ap;refine⟨λb=>if v.ownBlock=some b then .inr s.rw.length else κ b,λi x b hi hx hb=> ?_,λr row v2 gb hr hl hv aW=> ?_⟩
  ·simp only;rw[if_neg (λe=>hO b e i x b hi hx hb rfl)];exact k1 i x b hi hx hb
  ·rcases hold r _ hr with⟨hr,aU⟩|⟨rfl,rfl⟩
   ·rw[cZ (by rw[h.lρ];exact aU)]at hv;simp only;rw[if_neg (λe=>oZ gb e r row v2 gb hr hl hv aW rfl)];exact k2 r row v2 gb hr hl hv aW
   ·rw[hn]at hv;cases hv
    simp only;rw[if_pos aW]
theorem agE {id d:Nat}{t e:TypeId}{ty:TypeId}{pos:String}{aft:Array Edge}{l:List Oper}{Q:Exit->St->Prop}(he:elemOf c.P t=some e)(hz:aJ c.P e≠0)(hd:d < s.n)
  (h:∀K:St->Prop,(∀s',Q .normal s'->K s')->cq c.P (⟨some d, .buildSlice t 0 #[],ty,pos,aft,none⟩::l) l (St.put {s with rw:=s.rw++[⟨true,e,aJ c.P e,[]⟩]} (some d) (.own s.rw.length)) K):
  az c (.region id (⟨some d, .buildSlice t 0 #[],ty,pos,aft,none⟩::l).toArray false) Q s:=by
 rintro a w ⟨g,hg⟩;refine wpIn_region_lit ?_;obtain⟨o,ho⟩:∃o:Oper,o=⟨some d, .buildSlice t 0 #[],ty,pos,aft,none⟩:=⟨_,rfl⟩;rw[<-ho]at h⊢;unfold wpListIn;rw[if_pos (by rw[ho];simp[d_])];have bg:(execOp a.eval o).run c.P w= .ok (.value (.slice (some ⟨w.heap.size,0,none⟩) 0 0)) (w.alloc (.cells #[] e)):=by
  have r0:Array.range 0=#[]:=rfl;rw[ho];simp[execOp,Instr.buildSlice,run_underlying (k7 he),run_sizeOf hz,newRow,r0,Instr.fill]
 have aU:∀{b},b < w.heap.size->b≠w.heap.size:=λh e=>by omega
 have hb:=vh w (.cells #[] e);have hw:=hg.world hb (λ_ h=>h) (λ_ h=> .inl h) (hg.bt.below hb);have hp:=hw.N8 (v:= .slice (some ⟨w.heap.size,0,none⟩) 0 0) (xs:=[]) (e:=e) (sz:=aJ c.P e) (vals:=[])
  (.list _ _ 0 0 [] (aJ c.P e) (λ_=>Go.undef) rfl ay (cx 0) (λq hq=>by simp[flat]at hq) (λq d hd=>by simp[flat]at hd))
  ⟨by simp, .inr ⟨w.heap.size,0,#[],rfl,cv _,heap_alloc_new w _,cx _,cv _,by simp,by simp⟩⟩ ay
  (λgb aW=>by
   simp[Value.ownBlock]at aW;subst aW;exact⟨hg.cY _ hg.below.size,λx hx e=>by have:=hg.bt.lt hx;omega⟩)
  (λgb aW i x b hi hx hb=>by
   simp[Value.ownBlock]at aW;subst aW;exact aU (hg.om hi hx hb).1)
  (λgb aW r row v2 g2 hr hl hv h2=>by
   simp[Value.ownBlock]at aW;subst aW;exact aU (hg.oG hr hl hv h2).1)
 refine gK (by rw[ho];intro cl h;cases h) ?_;unfold Oper.wp;rw[bg];have ab8:o.dst=some d:=by rw[ho]
 show wpListIn c.F 0 c.P (o::l).toArray (λe a' w'=>∃s',R c s' a' w'/\Q e s') l (a.put o.dst _) _;rw[ab8];refine n9 (K:=Q .normal) (λs a w hr hq=>⟨s,hr,hq⟩) l _ _ _ ⟨_,RG.put (s:={s with rw:=s.rw++[⟨true,e,aJ c.P e,[]⟩]}) (dst:=some d) (d:= .own s.rw.length) hp hd (.own _ _ _ ?_)⟩ (h _ (λ_ h=>h));show(g.ρ++[_])[s.rw.length]? =_;rw[<-hg.lρ];simp
end
end Go.Ab
