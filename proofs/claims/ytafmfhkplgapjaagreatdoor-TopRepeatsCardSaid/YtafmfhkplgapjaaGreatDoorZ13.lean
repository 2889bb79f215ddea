import Derived.Test.YtafmfhkplgapjaaGreatDoorZ12
import Derived.Tactics
import Derived.Tactics2
import Derived.StillTactics
import Derived.LoopTactic
import Derived.Laws.Pointers
import Derived.Shelf.SlSortCmp.NoneTotal
import Derived.Ground.SlsfProg
set_option linter.unusedVariables false
set_option linter.unusedSimpArgs false
open And renaming intro->af
open Array renaming getD_eq_getD_getElem?->lJ,getElem?_eq_getElem->FZ,getElem?_eq_some_iff->bt,getElem?_modify->tE,size_map->O4
open Bool renaming and_eq_true->c_,false_eq_true->bK,or_eq_true->qI,true_and->oU
open Int renaming le_trans->Cs,mul_nonneg->wb,toNat_of_nonneg->OO
open Go.Lib renaming compareInt->jM
open List renaming all_eq_true->iD,append_nil->eu,cons_append->eR,drop_eq_getElem_cons->v_,drop_eq_nil_of_le->FB,foldr->e_,forall_mem_cons->Jw,getD_eq_getElem?_getD->ic,getElem?_append_left->bQ,getElem?_eq_some_iff->aQ,getElem?_map->cO,getElem?_set_ne->gj,getElem?_set_self->jg,getElem_mem->zW,headD_cons->iC,length_cons->lV,length_eq_zero_iff->Cn,length_pos_iff->uM,map_cons->ib,map_nil->nz,mem_cons->eK,mem_flatMap->zT,mem_map->eJ,mem_singleton->oQ,nil_append->eI,not_mem_nil->ny,range->ct,replicate->cD,size_toArray->vZ
open Nat renaming add_comm->zR,add_zero->xX,le_refl->aY,le_trans->fu,lt_of_lt_of_le->uJ,not_lt_zero->dF,zero_add->fK,zero_le->bD
open Option renaming getD_some->e8,map_eq_some_iff->cv,map_some->eH
open Go.Proofs.Tryz renaming call32->Fl,call92->Jm,func32->Fi,func92->Ji,ntmps32->Fg,ntmps72->Xq,ntmps92->Je,prog->aa,results32->Ff,results72->Xm,results9->Xl,results92->Jb,underlying9->ia
open Go.World renaming cell?->qz
open Go.Proofs.Tryz
namespace Go.Proofs.YtafmfhkplgapjaaGreatDoor
set_option maxRecDepth 100000
set_option maxHeartbeats 4000000
open Go.Ab
attribute[local irreducible] av dL dY ak aH cY IA ez aP fM
def rJ (n:Nat):Bool:=decide (48<=n/\n<=57)||decide (n=63)
def rL (s:ByteArray):Bool:=decide (∀k (h:k < s.size),rJ (s[k]'h).toNat=true)&&decide (s.size=5)
def qg (s:ByteArray):Nat->Nat
 |0=>0
 |k + 1=>qg s k + if(s.data.getD k 0).toNat=63 then 1 else 0
def mq (g:List ByteArray):Nat->Nat
 |0=>0
 |j + 1=>mq g j + qg (nth g j) (nth g j).size
def gU (k:Nat)(g:List ByteArray):Bool:=decide (∀i,i < g.length->rL (nth g i)=true)&&(decide (g.length=k + 1)&&decide (mq g g.length<=2))
theorem L7 (s:ByteArray):∀k,qg s k<=k
 |0=>aY _
 |k + 1=>by have:=L7 s k;simp only[qg];split<;>omega
theorem TH {g:List ByteArray}(h:∀i,i < g.length->(nth g i).size<=100):∀j,j<=g.length->mq g j<=100 * j
 |0,_=>aY _
 |j + 1,hj=>by
  have h1:=TH h j ae;have h2:=L7 (nth g j) (nth g j).size;have h3:=h j ae;simp only[mq];omega
theorem ahz (c:Nat):ak aa 205 [.int .i32 c] (.bool (decide (48<=c/\c<=57))):=by
 refine cT func205 ntmps205 results205 call205 λw0 S0 M0=> ?_;repeat'(first|refine aq ?_|refine au λK hK=> ?_|(intro hg;try exact ai)|exact fin|apply af)
 all_goals(refine gi ?_;simp only[decide_eq_true_eq,bK,false_iff,iff_false,true_iff,iff_true];omega)
theorem TG (c:Nat):ak aa 206 [.int .i32 c] (.bool (decide (c=63))):=by
 refine cT func206 ntmps206 results206 call206 λw0 S0 M0=> ?_;repeat'(first|refine aq ?_|refine au λK hK=> ?_|(intro hg;try exact ai)|exact fin|apply af)
 all_goals(refine gi ?_;simp only[decide_eq_true_eq,bK,false_iff,iff_false,true_iff,iff_true];omega)
theorem ajM (c:Nat):ak aa 204 [.int .i32 c] (.bool (rJ c)):=by
 have c1:=ahz c;have c2:=TG c;unfold rJ;refine cT func204 ntmps204 results204 call204 λw0 S0 M0=> ?_;repeat'(first|refine aq ?_|refine au λK hK=> ?_|refine cA (c1) ?_|refine cA (c2) ?_|(intro hg;try exact ai)|exact fin|apply af)
 all_goals first|(rw[decide_eq_true (p:=48<=c/\c<=57) (by assumption)];rfl)|(rw[decide_eq_false (p:=48<=c/\c<=57) (by assumption),Bool.false_or])
theorem K8 {s:ByteArray}(h:rL s=true):s.size=5/\∀k (hk:k < s.size),rJ (s[k]'hk).toNat=true:=by
 simp only[rL,c_,decide_eq_true_eq]at h;exact⟨h.2,h.1⟩
theorem K7 {n:Nat}(h:rJ n=true):n < 128:=by
 simp only[rJ,qI,decide_eq_true_eq]at h;omega
theorem adM (s:ByteArray)(hs:s.size<=1000000):ak aa 203 [.str s, .ag 204 []] (.bool (rL s)):=by
 obtain⟨b,hb⟩:∃b,b=rL s:=⟨_,rfl⟩;rw[<-hb];refine cT func203 ntmps203 results203 call203 λw0 S0 M0=> ?_;repeat'(first|(show av _ (.seq (.region 1 _ _) _) _ _;refine bJ ?_)|refine aq ?_|refine au λK hK=> ?_|(intro hg;try exact ai)|exact fin|apply af)
 refine b_ ?_;refine Xc (str:=s) rfl ax (bC rfl) (bC rfl) (bC rfl) (bC rfl) aE rfl rfl rfl (λk=>∀i (hi:i < s.size),i < k->rJ (s[i]'hi).toNat=true) (λi _ h=>absurd h (dF i)) (λk=>[(0, .str s),(1, .ag 204 [])]) (λk=>rfl) (λB=>bY) (λB k hk pv w1 S1 M1 o1 r hr=> ?_) (λpv B=> ?_)
 ·have c1:=ajM r;show av ⟨aa,w1,S1,M1,none,o1,[]⟩ _ _ _;by_cases H9:(s[k]'hk).toNat < 128
  ·rw[if_pos H9]at hr;subst hr;cases aW:rJ (s[k]'hk).toNat with
   |true=>
    rw[aW]at c1;have aga:∀i (hi:i < s.size),i < k + 1->rJ (s[i]'hi).toNat=true:=λi hi xk=>by
     by_cases Mj:i=k
     ·subst Mj;exact aW
     ·exact pv i hi ae
    generalize(s[k]'hk).toNat=c at *
    refine aj ?_;repeat'(first|refine aq ?_|refine au λK hK=> ?_|refine cA (c1) ?_|(intro hg;try exact ai)|exact fin|apply af)
    all_goals exact .inl ⟨trivial,H9,aga,bY⟩
   |false=>
    rw[aW]at c1;have r_:b=false:=by
     rw[hb];cases hw:rL s with
     |false=>rfl
     |true=>rw[(K8 hw).2 k hk]at aW;cases aW
    subst r_;generalize(s[k]'hk).toNat=c at *
    refine aj ?_;repeat'(first|refine aq ?_|refine au λK hK=> ?_|refine cA (c1) ?_|(intro hg;try exact ai)|exact fin|apply af)
    all_goals
     exact .inr ⟨.inl trivial,trivial,trivial,rfl⟩
  ·rw[if_neg H9]at hr;have aW:rJ r=false:=by
    cases hw:rJ r with
    |false=>rfl
    |true=>have:=K7 hw;omega
   rw[aW]at c1;have r_:b=false:=by
    rw[hb];cases hw:rL s with
    |false=>rfl
    |true=>exact absurd (K7 ((K8 hw).2 k hk)) H9
   subst r_;refine aj ?_;repeat'(first|refine aq ?_|refine au λK hK=> ?_|refine cA (c1) ?_|(intro hg;try exact ai)|exact fin|apply af)
   all_goals
    exact .inr ⟨.inl trivial,trivial,trivial,rfl⟩
 ·have sc:b=decide (s.size=5):=by
   rw[hb];unfold rL;rw[decide_eq_true (λk h=>pv k h h),oU]
  subst sc;simp only[bH];refine sX (@ia) ?_;repeat'(first|refine bh ?_|((first|refine bj λK hK=> ?_|refine bg ?_|show bb _ _ _ _ _);(refine sX (@ia) ?_))|(intro hg;try exact ai)|exact fin|apply af)
  all_goals(refine gi ?_;simp only[decide_eq_true_eq,bK,false_iff,iff_false,true_iff,iff_true];omega)
theorem getD_at {s:ByteArray}{k:Nat}(h:k < s.size):(s.data.getD k 0).toNat=(s[k]'h).toNat:=by
 have:k < s.data.size:=h;rw[lJ,FZ this];rfl
theorem afu (F:List (Int×Int))(T:List Int)(mo:Int)(g:List ByteArray)(Un:g.length<=100)(hg:∀i,i < g.length->(nth g i).size<=100)(hF:F.length<=3):ak aa 136 [.agg (oX F T mo),aX g] (.bool (gU F.length g)):=by
 obtain⟨b,hb⟩:∃b,b=gU F.length g:=⟨_,rfl⟩;rw[<-hb];have hle:=TH hg;refine cT func136 ntmps136 results136 call136 λw0 S0 M0=> ?_;repeat'(first|refine aq ?_|refine au λK hK=> ?_|(intro hg;try exact ai)|exact fin|apply af)
 refine ep ((bX.freeze 0 rfl rfl).trans (bX.read 2 rfl)) ?_;refine dn (ι:=Nat) (λj=>[(1,aX g),(2, .ro (oX F T mo)),(5,i64 (mq g j:Nat)),(10,aX g),(11,i64 g.length),(12,i64 j)]) (λ_=>[]) (λ_=>[])
  (λj=>j<=g.length/\∀i,i < j->rL (nth g i)=true) (λj=>g.length - j) (λ_ _=>⟨by simp[cq,bN],rfl⟩) 0 ⟨bD _,λi h=>absurd h (dF i)⟩ (br rfl (by try refine aj ?_;try simp[mq]) ⟨_,rfl⟩ ⟨_,rfl⟩) (λj ⟨hj,dw⟩=> ?_)
 by_cases dE:j < g.length
 ·have aR:=hg j dE;have c1:=adM (nth g j) ae;have h1:=hle j hj;cases A7:rL (nth g j)with
  |false=>
   rw[A7]at c1;have r_:b=false:=by
    rw[hb];unfold gU;rw[decide_eq_false (λh=>by rw[h j dE]at A7;cases A7),Bool.false_and]
   subst r_;refine aj ?_;repeat'(first|refine aq ?_|refine au λK hK=> ?_|refine cA (c1) ?_|(intro hg;try exact ai)|exact fin|apply af)
  |true=>
   rw[A7]at c1;obtain⟨h5,aW⟩:=K8 A7;have Bn:∀k (hk:k < (nth g j).size),((nth g j)[k]'hk).toNat < 128:=λk hk=>K7 (aW k hk)
   have agZ:∀i,i < j + 1->rL (nth g i)=true:=λi hi=>by
    by_cases Mj:i=j
    ·subst Mj;exact A7
    ·exact dw i ae
   have mi:mq g (j + 1)=mq g j + qg (nth g j) (nth g j).size:=rfl;refine aj ?_;repeat'(first|(show av _ (.seq (.region 7 _ _) _) _ _;refine bJ ?_)|refine aq ?_|refine au λK hK=> ?_|refine cA (c1) ?_|(intro hg;try exact ai)|exact fin|apply af)
   all_goals refine b_ ?_
   refine Xd (str:=nth g j) rfl ax Bn (bC rfl) (bC rfl) (bC rfl) (bC rfl) aE rfl rfl rfl (λk=>[(1,aX g),(2, .ro (oX F T mo)),(5,i64 (mq g j + qg (nth g j) k:Nat)),(10,aX g),(11,i64 g.length),(12,i64 j)]) (λk=>by simp[cq,bN]) (λB=>br rfl (by try refine aj ?_;try simp[qg]) ⟨_,rfl⟩ ⟨_,rfl⟩) (λB k hk w1 S1 M1 o1=> ?_) (λB=> ?_)
   ·have UF:=aW k hk;have c1:=TG ((nth g j)[k]'hk).toNat
    have cX:=L7 (nth g j) k;have xa:qg (nth g j) (k + 1)=qg (nth g j) k + if((nth g j)[k]'hk).toNat=63 then 1 else 0:=by simp only[qg,getD_at hk]
    generalize((nth g j)[k]'hk).toNat=c at *
    show av ⟨aa,w1,S1,M1,none,o1,[]⟩ _ _ _;by_cases hc:c=63
    ·rw[decide_eq_true hc]at c1;rw[if_pos hc]at xa;have e:((mq g j + (qg (nth g j) k + 1):Nat):Int)=((mq g j + qg (nth g j) k:Nat):Int) + 1:=ae;rw[xa,e];refine aj ?_;repeat'(first|refine aq ?_|refine au λK hK=> ?_|refine cA (c1) ?_|(intro hg;try exact ai)|exact fin|apply af)
     all_goals first|trivial|exact bY
    ·rw[decide_eq_false hc]at c1;rw[if_neg hc]at xa;rw[xa,xX];refine aj ?_;repeat'(first|refine aq ?_|refine au λK hK=> ?_|refine cA (c1) ?_|(intro hg;try exact ai)|exact fin|apply af)
     all_goals first|trivial|exact bY
   ·simp only[bH];refine aj ?_;repeat'(first|refine aq ?_|refine au λK hK=> ?_|(intro hg;try exact ai)|exact fin|apply af)
    all_goals exact⟨j + 1,⟨ae,agZ⟩,ae,by rw[mi];exact bY⟩
 ·obtain rfl:j=g.length:=ae;have h1:=hle _ (aY g.length);have sc:b=(decide (g.length=F.length + 1)&&decide (mq g g.length<=2)):=by
   rw[hb];unfold gU;rw[decide_eq_true dw,oU]
  subst sc;generalize mq g g.length=z at *;refine aj ?_;repeat'(first|refine aq ?_|refine au λK hK=> ?_|(intro hg;try exact ai)|exact fin|apply af)
  all_goals(refine gi ?_;simp only[c_,decide_eq_true_eq,bK,false_iff,iff_false];omega)
theorem akX (F:List (Int×Int))(T:List Int)(mo:Int)(g:List ByteArray)(Un:g.length<=100)(hg:∀i,i < g.length->(nth g i).size<=100)(hF:F.length<=3):ak aa 135 [aX g, .ro (oX F T mo)] (.bool (!gU F.length g)):=by
 have c1:=afu F T mo g Un hg hF;refine cT func135 ntmps135 results135 call135 λw0 S0 M0=> ?_;repeat'(first|refine aq ?_|refine au λK hK=> ?_|refine cA (c1) ?_|(intro hg;try exact ai)|exact fin|apply af)
structure sq (C:List (List ByteArray)):Prop where
 n:1<=C.length/\C.length<=3
 g:∀i,i < C.length->(nth C i).length<=100/\∀q,q < (nth C i).length->(nth (nth C i) q).size<=100
abbrev XW:D:= .agg [.val (.slice none 0 0), .val (.slice none 0 0),i64 0, .val (.slice none 0 0)]
theorem Po (F:List (Int×Int))(T:List Int)(mo:Int)(C:List (List ByteArray))(hC:sq C)(hk:k8 F T mo):ak aa 105 [.agg (oX F T mo), .list (C.map aX)] (.aF [if(C.any λg=> !gU F.length g)=true then XW else .agg (nM F T mo C), .int .i64 (if(C.any λg=> !gU F.length g)=true then 2 else 0)]):=by
 have c1:=O' F T mo hk;have hF:=hk.2.2.1;have By:=hC.n;have c2:=akn C 135 [.ro (oX F T mo)] ⟨λ_ _=>rfl,λ_ _=>rfl⟩ (λg=> !gU F.length g) ae (λi hi=>akX F T mo _ (hC.g i hi).1 (hC.g i hi).2 ae);generalize(C.any λg=> !gU F.length g)=b at *;cases b with
 |true=>
  simp only[if_true];refine cT func105 ntmps105 results105 call105 λw0 S0 M0=> ?_;repeat'(first|(refine j6 0 _ _ rfl rfl ?_;simp only[aU,Nat.reduceAdd])|refine bh ?_|((first|refine bj λK hK=> ?_|refine bg ?_|show bb _ _ _ _ _|refine bo (c1) ?_|refine bo (c2) ?_);(refine sX (af @Hi (@Hh)) ?_))|(intro hg;try exact ai)|exact fin|apply af)
  all_goals rfl
 |false=>
  simp only[if_false,bK];refine cT func105 ntmps105 results105 call105 λw0 S0 M0=> ?_;repeat'(first|(refine j6 0 _ _ rfl rfl ?_;simp only[aU,Nat.reduceAdd])|refine bh ?_|((first|refine bj λK hK=> ?_|refine bg ?_|show bb _ _ _ _ _|refine bo (c1) ?_|refine bo (c2) ?_);(refine sX (af @Hi (@Hh)) ?_))|(intro hg;try exact ai)|exact fin|apply af)
  all_goals rfl
theorem ajO (F:List (Int×Int))(T:List Int)(mo:Int)(C:List (List ByteArray))(hC:sq C)(hk:k8 F T mo)(hb:(C.any λg=> !gU F.length g)=true):ak aa 45 [.agg (oX F T mo), .list (C.map aX)] (.aF [.list [], .int .i64 2]):=by
 have c1:=Po F T mo C hC hk;simp only[hb,if_true]at c1;have c2:ak aa 72 [.agg (oX F T mo), .list (C.map aX)] (.aF [.list [], .int .i64 2]):=by
  refine cT func72 Xq Xm call72 λw0 S0 M0=> ?_;repeat'(first|refine aq ?_|refine au λK hK=> ?_|refine cA (c1) ?_|(intro hg;try exact ai)|exact fin|apply af)
  all_goals rfl
 refine cT func45 ntmps45 results45 call45 λw0 S0 M0=> ?_;repeat'(first|refine aq ?_|refine au λK hK=> ?_|refine cA (c2) ?_|(intro hg;try exact ai)|exact fin|apply af)
 all_goals rfl
theorem Vd (F:List (Int×Int))(T:List Int)(mo:Int)(C:List (List ByteArray))(l:List D)(hC:sq C)(hk:k8 F T mo)(hb:(C.any λg=> !gU F.length g)=false)(hl:l.length<=9223372036854775807)(hm:ak aa 106 [.agg (nM F T mo C)] (.list l)):ak aa 72 [.agg (oX F T mo), .list (C.map aX)] (.aF [.list l, .int .i64 (if l.length=0 then 5 else 0)]):=by
 have c1:=Po F T mo C hC hk;simp only[hb,if_false,bK]at c1;by_cases h0:l.length=0
 ·obtain rfl:l=[]:=Cn.1 h0;rw[if_pos h0];refine cT func72 Xq Xm call72 λw0 S0 M0=> ?_;repeat'(first|refine aq ?_|refine au λK hK=> ?_|refine cA (c1) ?_|refine cA (hm) ?_|(intro hg;try exact ai)|exact fin|apply af)
  all_goals rfl
 ·rw[if_neg h0];refine cT func72 Xq Xm call72 λw0 S0 M0=> ?_;repeat'(first|refine aq ?_|refine au λK hK=> ?_|refine cA (c1) ?_|refine cA (hm) ?_|(intro hg;try exact ai)|exact fin|apply af)
  all_goals rfl
theorem ajP (F:List (Int×Int))(T:List Int)(mo:Int)(C:List (List ByteArray))(l:List D)(hC:sq C)(hk:k8 F T mo)(hb:(C.any λg=> !gU F.length g)=false)(hl:l.length<=9223372036854775807)(hm:ak aa 106 [.agg (nM F T mo C)] (.list l)):ak aa 45 [.agg (oX F T mo), .list (C.map aX)] (.aF [.list l, .int .i64 (if l.length=0 then 5 else 0)]):=by
 have c2:=Vd F T mo C l hC hk hb hl hm;generalize(if l.length=0 then 5 else 0:Int)=e at *;refine cT func45 ntmps45 results45 call45 λw0 S0 M0=> ?_;repeat'(first|refine aq ?_|refine au λK hK=> ?_|refine cA (c2) ?_|(intro hg;try exact ai)|exact fin|apply af)
 all_goals rfl
end Go.Proofs.YtafmfhkplgapjaaGreatDoor
namespace Go.Proofs.YtafmfhkplgapjaaGreatDoor
set_option maxRecDepth 100000
set_option maxHeartbeats 4000000
open Go.Ab
def eV:List Int->List Int->Int
 |[],[]=>0
 |[],_::_=> -1
 |_::_,[]=>1
 |x::xs,y::ys=>if jM x y=0 then eV xs ys else jM x y
theorem Dv {xs ys:List Int}:∀k,k<=xs.length->k<=ys.length->(∀j,j < k->jM (xs.getD j 0) (ys.getD j 0)=0)->eV xs ys=eV (xs.drop k) (ys.drop k)
 |0,_,_,_=>rfl
 |k + 1,h1,h2,h=>by
  rw[Dv k ae ae (λj hj=>h j ae)];have e1:xs.drop k=xs.getD k 0::xs.drop (k + 1):=by
   rw[v_ ae];simp[show k < xs.length by omega]
  have e2:ys.drop k=ys.getD k 0::ys.drop (k + 1):=by
   rw[v_ ae];simp[show k < ys.length by omega]
  rw[e1,e2];simp only[eV];rw[if_pos (h k ae)]
theorem aj1 (w:World)(A B:Option Addr)(n m ca cb:Nat)(X Y:Nat->Int)(L:Int)(hx:∀j,j < n->∃b off,A=some ⟨b,off,none⟩/\w.cell? ⟨b,off + j,none⟩=some (.int .i64 (X j)))(hy:∀j,j < m->∃b off,B=some ⟨b,off,none⟩/\w.cell? ⟨b,off + j,none⟩=some (.int .i64 (Y j)))
  (bn:n<=1000000)(bm:m<=1000000)(h1:∀k,k < n->m<=k->(∀j,j < k->jM (X j) (Y j)=0)->L=1)(h2:∀k,k < n->k < m->(∀j,j < k->jM (X j) (Y j)=0)->jM (X k) (Y k)≠0->L=jM (X k) (Y k))
  (h3:n<=m->(∀j,j < n->jM (X j) (Y j)=0)->L=if n < m then -1 else 0):
  Calls aa 143 #[.slice A n ca, .slice B m cb] w λe w'=>e= .returned (.int .i64 L)/\w'=w:=by
 go_enter func143,ntmps143
 go_wp2
 go_loop [11] (λi=>∃k:Nat,k<=n/\i= .int .i64 k/\k<=m/\∀j,j < k->jM (X j) (Y j)=0) (λi=>match i with| .int _ q=>n - q.toNat|_=>0)
 case atStart=>exact⟨0,bD _,rfl,bD _,λj hj=>absurd hj (dF j)⟩
 case round=>
  obtain⟨k,hk,rfl,oc,heq⟩:=hrel;by_cases aG:k < n
  ·obtain⟨b,off,rfl,hc⟩:=hx k aG;by_cases rY:k < m
   ·obtain⟨b2,amH,rfl,zm⟩:=hy k rY;have HW:=Tryz.cmp_Compare_int (X k) (Y k) w;change Calls aa 213 _ _ _ at HW
    have hL:=h2 k aG rY heq;have TP:jM (X k) (Y k)=0->∀j,j < k + 1->jM (X j) (Y j)=0:=λh j hj=>by
     by_cases q7:j=k
     ·subst q7;exact h
     ·exact heq j ae
    generalize hr:jM (X k) (Y k)=r at HW hL TP;clear hx hy h1 h2 h3 heq hr;generalize X k=x at *;generalize Y k=y at *;have b1:(k:Int) < (n:Int):=ae;have b2:(k:Int) < (m:Int):=ae;by_cases A4:r=0
    ·subst A4;clear hL
     go_wp2_with (go_at_call 213;refine HW.mono ?_;rintro e w' ⟨rfl,rfl⟩)
     exact⟨⟨k + 1,ae,by rw[Int.natCast_add];rfl,ae,TP trivial⟩,by show n - ((k:Int) + 1).toNat < n - (k:Int).toNat;omega⟩
    ·obtain rfl:=hL A4
     go_wp2_with (go_at_call 213;refine HW.mono ?_;rintro e w' ⟨rfl,rfl⟩)
     go_ret
     exact⟨rfl,rfl⟩
   ·have hL:=h1 k aG ae heq;subst hL;clear hx hy h1 h2 h3 heq;have b1:(k:Int) < (n:Int):=ae;have b2:(m:Int)<=(k:Int):=ae
    go_wp2
    go_ret
    exact⟨rfl,rfl⟩
  ·obtain rfl:k=n:=ae;have hL:=h3 oc heq;clear hx hy h1 h2 h3 heq;by_cases dD:k < m
   ·rw[if_pos dD]at hL;subst hL;have b2:(k:Int) < (m:Int):=ae
    go_wp2
    go_ret
    exact⟨rfl,rfl⟩
   ·rw[if_neg dD]at hL;subst hL;have b2:(m:Int)<=(k:Int):=ae
    go_wp2
    go_ret
    exact⟨rfl,rfl⟩
theorem aj0 (w:World)(A B:Option Addr)(ca cb:Nat)(xs ys:List Int)(hx:∀j,j < xs.length->∃b off,A=some ⟨b,off,none⟩/\w.cell? ⟨b,off + j,none⟩=some (.int .i64 (xs.getD j 0)))(hy:∀j,j < ys.length->∃b off,B=some ⟨b,off,none⟩/\w.cell? ⟨b,off + j,none⟩=some (.int .i64 (ys.getD j 0)))
  (bx:xs.length<=1000000)(by_:ys.length<=1000000):
  Calls aa 143 #[.slice A xs.length ca, .slice B ys.length cb] w λe w'=>e= .returned (.int .i64 (eV xs ys))/\w'=w:=by
 have dx:∀k,k < xs.length->xs.drop k=xs.getD k 0::xs.drop (k + 1):=λk hk=>by rw[v_ hk];simp[hk]
 have dy:∀k,k < ys.length->ys.drop k=ys.getD k 0::ys.drop (k + 1):=λk hk=>by rw[v_ hk];simp[hk]
 refine aj1 w A B xs.length ys.length ca cb (λj=>xs.getD j 0) (λj=>ys.getD j 0) (eV xs ys) hx hy bx by_ (λk h1 h2 h3=> ?_) (λk h1 h2 h3 h4=> ?_) (λh1 h2=> ?_)
 ·by_cases hk:k=ys.length
  ·subst hk;rw[Dv _ ae (aY _) h3,dx _ h1,FB (aY _)];rfl
  ·have:=Dv (xs:=xs) (ys:=ys) ys.length ae (aY _) (λj hj=>h3 j ae);rw[this,dx _ ae,FB (aY _)];rfl
 ·rw[Dv k ae ae h3,dx k h1,dy k h2];simp only[eV];rw[if_neg h4]
 ·rw[Dv xs.length (aY _) h1 h2,FB (aY _)];by_cases h:xs.length < ys.length
  ·rw[if_pos h,dy _ h];rfl
  ·rw[if_neg h,FB ae];rfl
theorem vM {x y:Int}:(jM x y < 0↔x < y)/\(jM x y=0↔x=y)/\(0 < jM x y↔y < x):=by
 unfold jM;by_cases h1:x < y
 ·simp[h1];omega
 ·by_cases h2:y < x
  ·simp[h1,h2];omega
  ·simp[h1,h2];omega
theorem Sp:∀xs:List Int,eV xs xs=0
 |[]=>rfl
 |x::xs=>by
  simp only[eV];rw[if_pos (vM.2.1.2 rfl),Sp xs]
theorem Lq:∀xs ys zs:List Int,eV xs ys<=0->eV ys zs<=0->eV xs zs<=0/\(eV xs ys < 0\/eV ys zs < 0->eV xs zs < 0)
 |[],ys,[],h1,h2=>by
  cases ys with
  |nil=>simp[eV]
  |cons y ys=>simp[eV]at h2
 |[],ys,z::zs,h1,h2=>by simp[eV]
 |x::xs,[],zs,h1,h2=>by simp[eV]at h1
 |x::xs,y::ys,[],h1,h2=>by simp[eV]at h2
 |x::xs,y::ys,z::zs,h1,h2=>by
  have ih:=Lq xs ys zs;simp only[eV]at h1 h2⊢;have c1:= @vM x y;have c2:= @vM y z;have c3:= @vM x z;generalize jM x y=a at *;generalize jM y z=b at *;generalize jM x z=c at *;by_cases ha:a=0
  ·rw[if_pos ha]at h1⊢;by_cases hb:b=0
   ·rw[if_pos hb]at h2⊢;rw[if_pos ae];exact ih h1 h2
   ·rw[if_neg hb]at h2⊢;rw[if_neg ae];omega
  ·rw[if_neg ha]at h1⊢;by_cases hb:b=0
   ·rw[if_pos hb]at h2⊢;rw[if_neg ae];omega
   ·rw[if_neg hb]at h2⊢;rw[if_neg ae];omega
theorem Sr:∀xs ys:List Int,eV xs ys < 0->0 < eV ys xs
 |[],[],h=>by simp[eV]at h
 |[],y::ys,_=>by simp[eV]
 |x::xs,[],h=>by simp[eV]at h
 |x::xs,y::ys,h=>by
  have ih:=Sr xs ys;simp only[eV]at h⊢;have c1:= @vM x y;have c2:= @vM y x;generalize jM x y=a at *;generalize jM y x=b at *;by_cases ha:a=0
  ·rw[if_pos ha]at h;rw[if_pos ae];exact ih h
  ·rw[if_neg ha]at h;rw[if_neg ae];omega
theorem Hf:∀xs ys:List Int,0<=eV xs ys->eV ys xs<=0
 |[],[],h=>by simp[eV]
 |[],y::ys,h=>by simp[eV]at h
 |x::xs,[],_=>by simp[eV]
 |x::xs,y::ys,h=>by
  have ih:=Hf xs ys;simp only[eV]at h⊢;have c1:= @vM x y;have c2:= @vM y x;generalize jM x y=a at *;generalize jM y x=b at *;by_cases ha:a=0
  ·rw[if_pos ha]at h;rw[if_pos ae];exact ih h
  ·rw[if_neg ha]at h;rw[if_neg ae];omega
end Go.Proofs.YtafmfhkplgapjaaGreatDoor
namespace Go.Proofs
open Go.Shelf YtafmfhkplgapjaaGreatDoor
def Tryz.PZ:Go.Shelf.Ren:=⟨λ|6=>142|15=>212|14=>211|28=>265|29=>253|20=>257|21=>258|22=>259|23=>260|24=>261|25=>262|26=>263|27=>264|46=>299|47=>300|48=>301|49=>302|50=>303|57=>323|n=>n,λ|22=>75|24=>24|25=>237|3=>3|39=>283|0=>0|53=>316|55=>269|4=>4|46=>320|45=>319|50=>324|5=>5|9=>9|66=>357|70=>361|76=>386|77=>387|n=>n,λ|n=>n⟩
theorem Tryz.P0:Go.Proofs.SlLaysF.n6 aa Tryz.PZ:={
 mixed:=ax
 f6:=⟨Tryz.f142.name,by decide,func142.trans (congrArg some ax)⟩
 f14:=⟨Tryz.f211.name,by decide,func211.trans (congrArg some ax)⟩
 f15:=func212.trans (congrArg some ax)
 f20:=⟨Tryz.f257.name,by decide,func257.trans (congrArg some ax)⟩
 f21:=⟨Tryz.f258.name,by decide,func258.trans (congrArg some ax)⟩
 f22:=⟨Tryz.f259.name,by decide,func259.trans (congrArg some ax)⟩
 f23:=⟨Tryz.f260.name,by decide,func260.trans (congrArg some ax)⟩
 f24:=⟨Tryz.f261.name,by decide,func261.trans (congrArg some ax)⟩
 f25:=⟨Tryz.f262.name,by decide,func262.trans (congrArg some ax)⟩
 f26:=⟨Tryz.f263.name,by decide,func263.trans (congrArg some ax)⟩
 f27:=⟨Tryz.f264.name,by decide,func264.trans (congrArg some ax)⟩
 f28:=func265.trans (congrArg some ax)
 f29:=func253.trans (congrArg some ax)
 f46:=⟨Tryz.f299.name,by decide,func299.trans (congrArg some ax)⟩
 f47:=func300.trans (congrArg some ax)
 f48:=func301.trans (congrArg some ax)
 f49:=⟨Tryz.f302.name,by decide,func302.trans (congrArg some ax)⟩
 f50:=⟨Tryz.f303.name,by decide,func303.trans (congrArg some ax)⟩
 f57:=⟨Tryz.f323.name,by decide,func323.trans (congrArg some ax)⟩
 t0:=underlying0
 a0:=isAgg0
 z0:=sizeOf0
 v0:=zeroValue0
 t3:=underlying3
 a3:=isAgg3
 z3:=sizeOf3
 v3:=zeroValue3
 t4:=underlying4
 a4:=isAgg4
 z4:=sizeOf4
 v4:=zeroValue4
 t5:=underlying5
 a5:=isAgg5
 z5:=sizeOf5
 v5:=zeroValue5
 t9:=ia
 a9:=isAgg9
 z9:=sizeOf9
 v9:=zeroValue9
 t22:=underlying75
 a22:=isAgg75
 z22:=sizeOf75
 v22:=zeroValue75
 a24:=isAgg24
 z24:=sizeOf24
 t25:=underlying237
 a25:=isAgg237
 z25:=sizeOf237
 v25:=zeroValue237
 t39:=underlying283
 a39:=isAgg283
 z39:=sizeOf283
 v39:=zeroValue283
 t45:=underlying319
 a45:=isAgg319
 z45:=sizeOf319
 v45:=zeroValue319
 t46:=underlying320
 a46:=isAgg320
 z46:=sizeOf320
 v46:=zeroValue320
 t50:=underlying324
 a50:=isAgg324
 z50:=sizeOf324
 v50:=zeroValue324
 t53:=underlying316
 a53:=isAgg316
 z53:=sizeOf316
 v53:=zeroValue316
 t55:=underlying269
 a55:=isAgg269
 z55:=sizeOf269
 v55:=zeroValue269
 t66:=underlying357
 a66:=isAgg357
 z66:=sizeOf357
 v66:=zeroValue357
 t70:=underlying361
 a70:=isAgg361
 z70:=sizeOf361
 v70:=zeroValue361
 t76:=underlying386
 a76:=isAgg386
 z76:=sizeOf386
 v76:=zeroValue386
 t77:=underlying387
 a77:=isAgg387
 z77:=sizeOf387
 v77:=zeroValue387}
end Go.Proofs
namespace Go.Proofs.YtafmfhkplgapjaaGreatDoor
open Go.Ab Go.RowKit Go.Sort Go.Shelf Go
def wR (x y:List Int):Bool:=decide (eV x y < 0)
theorem Gl:SWO wR where
 irrefl x:=by simp[wR,Sp]
 trans x y z h1 h2:=by
  simp only[wR,decide_eq_true_eq]at *;exact(Lq x y z ae ae).2 (.inl h1)
 ntrans x y z h1 h2:=by
  simp only[wR,decide_eq_false_iff_not,Int.not_lt]at *;have:=(Lq z y x (Hf _ _ h2) (Hf _ _ h1)).1;rcases Int.lt_or_le (eV x z) 0 with h|h
  ·have:=Sr _ _ h;omega
  ·exact h
theorem Sq:∀x y:List Int,eV x y=0->x=y
 |[],[],_=>rfl
 |[],_::_,h=>by simp[eV]at h
 |_::_,[],h=>by simp[eV]at h
 |x::xs,y::ys,h=>by
  simp only[eV]at h;by_cases h0:jM x y=0
  ·rw[if_pos h0]at h;rw[Sq xs ys h,vM.2.1.1 h0]
  ·rw[if_neg h0]at h;exact absurd h h0
def kf (l:List (List Int)):List (List Int):=l.mergeSort λx y=> !wR y x
theorem Gu (l:List (List Int)):(kf l).Perm l:=List.mergeSort_perm _ _
def FQ (w:World)(S:Addr->Prop)(gb:Nat)(v:Value)(l:List Int):Prop:=
 ∃A c,v= .slice A l.length c/\l.length<=c/\l.length<=1000000/\∀j,j < l.length->∃b off,A=some ⟨b,off,none⟩/\b≠gb/\w.cell? ⟨b,off + j,none⟩=some (.int .i64 (l.getD j 0))/\S ⟨b,off + j,none⟩
abbrev ye (w:World)(S:Addr->Prop)(gb:Nat):={x:Value×List Int//FQ w S gb x.1 x.2}
instance(w:World) (S:Addr->Prop) (gb:Nat):Inhabited (ye w S gb):=⟨⟨(.slice none 0 0,[]),none,0,rfl,aY _,aE,λj hj=>absurd hj (dF _)⟩⟩
abbrev kY {w:World}{S:Addr->Prop}{gb:Nat}(x:ye w S gb):Value:=x.1.1
theorem Uz {α:Type}[Inhabited α](enc:α->Value)(w:World)(gb m:Nat)(d:Array α)(os:Array Obj){k:Nat}(hk:k < w.heap.size)(hn:k≠gb):(sortWorld enc w gb 0 m d os).heap[k]? =w.heap[k]? :=by
 unfold sortWorld;rw[heap_grow_old _ _ (by simpa[putRow,mapBlock,ahead]using hk)];simp only[putRow,mapBlock,ahead,tE];rw[if_neg (Ne.symm hn)];rfl
theorem agI {α:Type}[Inhabited α](enc:α->Value)(w:World)(gb m:Nat)(d:Array α)(os:Array Obj){cur:Array Value}{e:TypeId}{fz:Nat×Nat}(hb:w.heap[gb]? =some (.cells cur e fz)):(sortWorld enc w gb 0 m d os).heap[gb]? =some (.cells (putCells enc 0 d cur) e fz):=by
 unfold sortWorld;rw[heap_grow_old _ _ (by simpa[putRow,mapBlock,ahead]using(bt.1 hb).1)];simp only[putRow,mapBlock,ahead,tE,if_true];show Option.map _ w.heap[gb]? =_;rw[hb];rfl
theorem IJ {α:Type}[Inhabited α](enc:α->Value)(w:World)(gb m:Nat)(d:Array α)(os:Array Obj){b o:Nat}{u:Value}(hc:w.cell? ⟨b,o,none⟩=some u)(hn:b≠gb):(sortWorld enc w gb 0 m d os).cell? ⟨b,o,none⟩=some u:=by
 have aG:b < w.heap.size:=World.block_lt_of_cell? w ⟨b,o,none⟩ hc;rw[<-hc];unfold qz;simp only;rw[Uz enc w gb m d os aG hn]
theorem aa2 (w:World)(S:Addr->Prop)(gb cap:Nat)(d:Array (ye w S gb))(hH:Holds kY w gb 0 d)(aI:gb < w.heap.size)(hn:d.size < 4611686018427387904):
  Calls aa 142 #[.slice (some ⟨gb,0,none⟩) d.size cap, .func (.func 143) #[] #[]] w λe w'=>e= .returned (.tuple #[])/\∃(d':Array (ye w S gb)) (n:Nat) (os:Array Obj),d'.size=d.size/\d'.toList.map (·.1.2)=kf (d.toList.map (·.1.2))/\w'=sortWorld kY w gb 0 n d' os:=by
 have h:=Any.slices_SortFunc (P:=aa) Tryz.P0 (α:=ye w S gb) kY (λx=>by obtain⟨A,c,h,_⟩:=x.2;show(kY x).oneCell'=true;rw[show kY x=_ from h];rfl) (λx y=>eV x.1.2 y.1.2) ⟨λx=>Gl.irrefl _,λx y z=>Gl.trans _ _ _,λx y z=>Gl.ntrans _ _ _⟩ 143 #[] gb 0 cap d w call143
  (λm os dk hdk x y=>by
   obtain⟨A,c,hv,h0,h1,h2⟩:=x.2;obtain⟨A',c',n4,h0',gH,MT⟩:=y.2;rw[show kY x=_ from hv,show kY y=_ from n4];have:=aj0 (sortWorld kY w gb 0 m dk os) A A' c c' x.1.2 y.1.2 (λj hj=>by
    obtain⟨b,off,e,hb,hc,_⟩:=h2 j hj;exact⟨b,off,e,IJ _ _ _ _ _ _ hc hb⟩) (λj hj=>by
    obtain⟨b,off,e,hb,hc,_⟩:=MT j hj;exact⟨b,off,e,IJ _ _ _ _ _ _ hc hb⟩) h1 gH
   refine Calls.mono (R:=λe w'=>e= .returned (.int .i64 (eV x.1.2 y.1.2))/\w'=sortWorld kY w gb 0 m dk os) this ?_;rintro e w' ⟨rfl,rfl⟩;exact⟨rfl,0,#[],by simp[World.drewN]⟩) hH aI hn
 refine Calls.mono h ?_;rintro e w' ⟨rfl,d',n,os,⟨hs,_,hp⟩,hso,rfl⟩;refine⟨rfl,d',n,os,hs, ?_,rfl⟩;have e1:d'.extract 0 d.size=d':=by rw[<-hs];simp
 have e2:d.extract 0 d.size=d:=by simp
 rw[e1,e2]at hp;have hu:=sorted_unique_holds (lt:=wR) Gl (λx y h1 h2=>by
  simp only[wR,decide_eq_false_iff_not,Int.not_lt]at h1 h2;exact Sq x y (Int.le_antisymm (Hf _ _ h2) h1)) (d.map (·.1.2)) (d'.map (·.1.2)) ⟨by simp[hs],λi hi=>by
   simp only[O4]at hi;have:d.size<=i:=ae;rw[getElem!_neg _ _ (by simp[hs];omega),getElem!_neg _ _ (by simp;omega)],by
   have a1:(d'.map (·.1.2)).extract 0 (d.map (·.1.2)).size=d'.map (·.1.2):=by
    rw[O4,<-hs,<-O4 (f:=λx:ye w S gb=>x.1.2)];exact Array.extract_size
   have a2:(d.map (·.1.2)).extract 0 (d.map (·.1.2)).size=d.map (·.1.2):=Array.extract_size;rw[a1,a2];simpa using hp.map (·.1.2)⟩ (λi j h0 h1 h2=>by
   rw[O4]at h2;have:=hso i j h0 h1 h2;rw[getElem!_pos _ _ ae,getElem!_pos _ _ ae]at this;rw[getElem!_pos _ _ (by simp;omega),getElem!_pos _ _ (by simp;omega)];simpa[wR,ltOf]using this)
 simpa[kf]using hu
end Go.Proofs.YtafmfhkplgapjaaGreatDoor
namespace Go.Proofs.YtafmfhkplgapjaaGreatDoor
open Go.Ab Go.RowKit Go.Sort Go.Shelf Go
theorem Il:∀L:List (List Int),flat (L.map ints)=L.map ints
 |[]=>rfl
 |l::L=>by
  show[ints l]++flat (L.map ints)=_;rw[Il L];rfl
abbrev Ar (n k:Nat)(L:List (List Int)):St:=⟨n,put (λ_=> .undef) 3 (.box 1 0),(cD k .dead).set 1 (.mu [.own 0]),[lf L]⟩
theorem QC {c:Ctx}{s:St}{a:Act}{w w':World}{g:Gh}{L L':List (List Int)}{v:Value}(h:RG c s a w g)(bI:∀b,c.own b->c.w0.heap.size<=b)(h1:s.bx[1]? =some (.mu [.own 0]))(h3:s.sl 3= .box 1 0)(hr:s.rw=[lf L])(hv:g.ρ[0]? =some v)
  (os:w'.os=w.os)(tape:w'.tape=w.tape)(output:w'.output=w.output)(aR:w.heap.size<=w'.heap.size)(hk:∀k,k < w.heap.size->v.ownBlock≠some k->w'.heap[k]? =w.heap[k]?)
  (hb:∀b,v.ownBlock=some b->∃cs t fz,w.heap[b]? =some (.cells cs t fz))(od:Go.Ab.Good w' g.S)(gO:Xv c w' g 0 (lf L')):RG c (Ar s.n s.bx.length L') a w' g:=by
 have D1:∀b,v.ownBlock=some b->c.w0.heap.size<=b:=λb hb=>by
  obtain⟨v',e1,e2,e3⟩:=(h.rw 0 (lf L) (by rw[hr];rfl)).ex;rw[hv]at e1;cases e1;exact bI b ((e3 rfl).2.2 b hb).1
 have kU:1 < s.bx.length:=(aQ.1 h1).1;have fQ:∀(i:Nat) (x:Bx),((cD s.bx.length Bx.dead).set 1 (.mu [.own 0]))[i]? =some x->x.live=true->i=1/\x= .mu [.own 0]:=λi x hi hx=>by
  by_cases h:1=i
  ·subst h;rw[jg (by simpa using kU)]at hi;exact⟨rfl,(Option.some.inj hi).symm⟩
  ·rw[gj h,List.getElem?_replicate]at hi;split at hi
   ·cases hi;cases hx
   ·cases hi
 obtain⟨κ,k1,k2⟩:=h.ap;refine⟨h.df.aZ (λk o ho hc=> ?_) (λx hx=> ?_),h.sz,⟨os.trans h.below.os,tape.trans h.below.tape,output.trans h.below.output,fu h.below.size aR,λk vr hn=> ?_⟩,h.cu,od,h.en,h.S0,h.fJ,by simp[h.lβ],by rw[h.lρ,hr];rfl,λn=> ?_,λi cs hi=> ?_,λi cs hi=> ?_,λr row hr=> ?_,⟨κ,λi x b hi hx hβ=> ?_,λr row v2 gb cV hl ku aI=> ?_⟩,λi es hi=> ?_⟩
 ·rw[hk k (bt.1 ho).1 (λe=>by obtain⟨cs,t,fz,e⟩:=hb k e;rw[ho]at e;cases e;cases hc)];exact ho
 ·have aG:x.block < c.w0.heap.size:=h.fJ.lt hx;unfold qz;rw[hk x.block (uJ aG h.below.size) (λe=>by have:=D1 _ e;omega)]
 ·rw[hk k (uJ vr h.below.size) (λe=>by have:=D1 _ e;omega)];exact h.below.block k vr hn
 ·show Rel w' g _ (put (λ_=> .undef) 3 (.box 1 0) n);by_cases hn:n=3
  ·subst hn;have:=h.sl 3;rw[h3]at this;rw[kO];generalize a.tmps.getD 3 undef=vx at *;cases this with
   |box _ _ _ b hb=>exact .box _ _ _ b hb
  ·rw[QV _ _ _ _ (by simpa using hn)];exact .undef _ _
 ·obtain⟨rfl,hc⟩:=fQ i _ hi rfl;cases hc;obtain⟨b,vs,t,e1,e2,e3,e4,e5,e6⟩:=(h.bx 1 _ h1).ex;refine⟨b,vs,t,e1, ?_,⟨e3.1,λq d hd=> ?_⟩,e4,e5,λhf=>by cases hf⟩
  ·rw[hk b (bt.1 e2).1 (λe=>by
    have q1:=k1 1 _ b h1 rfl e1;have q2:=k2 0 (lf L) v b (by rw[hr];rfl) rfl hv e;rw[q1]at q2;cases q2)]
   exact e2
  ·have:=e3.2 q d hd
   match q,hd with
   |0,hd=>
    cases hd;refine⟨?_,this.2⟩;have h5:=this.1;simp only[if_true]at h5⊢;generalize vs.getD 0 undef=vx at *;cases h5 with
    |own _ _ _ h6=>exact .own _ _ _ h6
 ·cases (fQ i _ hi rfl).2
 ·match r,hr with
  |0,hr=>cases hr;exact gO
 ·obtain⟨rfl,hc⟩:=fQ i _ hi hx;exact k1 1 _ b h1 rfl hβ
 ·match r,cV with
  |0,cV=>exact k2 0 (lf L) v2 gb (by rw[hr];rfl) rfl ku aI
 ·cases (fQ i _ hi rfl).2
theorem R5 {w:World}{S:Addr->Prop}{gb:Nat}:∀(L:List (List Int)) (us:List Value),us.length=L.length->(∀q,q < L.length->FQ w S gb (us.getD q undef) (L.getD q []))->∃d:List (ye w S gb),d.map (·.1.2)=L/\d.map (·.1.1)=us
 |[],[],_,_=>⟨[],rfl,rfl⟩
 |l::L,u::us,hl,h=>by
  obtain⟨d,e1,e2⟩:=R5 L us (by simpa using hl) (λq hq=>by have:=h (q + 1) (by simpa using hq);simpa using this);exact⟨⟨(u,l),h 0 aO⟩::d,by simp[e1],by simp[e2]⟩
theorem WY (b q:Nat):(⟨b,0,none⟩:Addr).add q=⟨b,0 + q,none⟩:=by
 unfold Addr.add;split
 ·rename_i h;subst h;rfl
 ·rfl
theorem Ob {ad:Addr}{w:World}{q:Nat}{u:Value}(h:w.cell? (ad.add q)=some u):ad.add q=⟨ad.block,ad.off + q,none⟩:=by
 unfold Addr.add at *;split at h
 ·rename_i h0;subst h0;rw[if_pos rfl];obtain⟨b,o,sp⟩:=ad;have hc:=h;unfold qz at hc;simp only at hc;split at hc
  ·cases sp with
   |none=>rfl
   |some x=>simp at hc
  ·cases hc
 ·rename_i h0;rw[if_neg h0]
theorem aaV {ad:Addr}{w:World}{q:Nat}{u:Value}(h0:w.cell? (ad.add 0)=some u):ad=⟨ad.block,ad.off,none⟩:=by
 have:=Ob h0;simpa[Addr.add]using this
theorem ah4 {w:World}{S:Addr->Prop}{gb:Nat}{g:Gh}(hS:g.S=S){u:Value}{l:List Int}(h:Rel w g u (ints l))(hl:l.length<=1000000)(hn:∀(o:Nat) (z:Int),S ⟨gb,o,none⟩->w.cell? ⟨gb,o,none⟩≠some (.int .i64 z)):FQ w S gb u l:=by
 subst hS;cases h with
 |list _ A n c xs sz u dH aR hc hm hr=>
 have fv:flat (l.map (D.int .i64))=l.map (D.int .i64):=EJ λd hd=>by obtain⟨z,_,rfl⟩:=eJ.1 hd;exact⟨z,rfl⟩
 rw[fv]at hm hr;have hn3:n=l.length:=by rw[dH];simp
 subst hn3;refine⟨A,c,rfl,hc,hl,λj hj=> ?_⟩;have eX:∀i,i < l.length->u i= .int .i64 (l.getD i 0):=λi hi=>by
  have:=hr i (.int .i64 (l.getD i 0)) (by simp[hi]);generalize u i=x at this;cases this;rfl
 obtain⟨ad,rfl,e1,e2,_⟩:=hm j (by simpa using hj);obtain⟨xO,h0,f1,_⟩:=hm 0 (by simp;omega);cases h0;have e3:=Ob e1;have e4:=aaV (q:=0) f1;rw[eX j hj]at e1;rw[e3]at e1 e2;refine⟨ad.block,ad.off,by rw[<-e4],λhb=> ?_,e1,e2⟩;subst hb;exact hn _ _ e2 e1
theorem ah3 {w w':World}{g:Gh}{gb:Nat}{u:Value}{l:List Int}(h:FQ w g.S gb u l)(hk:∀b o u,b≠gb->w.cell? ⟨b,o,none⟩=some u->w'.cell? ⟨b,o,none⟩=some u):Rel w' g.er u (ints l):=by
 obtain⟨A,c,rfl,hc,hl,h⟩:=h;have fv:flat (l.map (D.int .i64))=l.map (D.int .i64):=EJ λd hd=>by obtain⟨z,_,rfl⟩:=eJ.1 hd;exact⟨z,rfl⟩
 refine .list _ A l.length c _ 1 (λj=> .int .i64 (l.getD j 0)) aO (λx hx=>by obtain⟨z,_,rfl⟩:=eJ.1 hx;rfl) hc (λj hj=> ?_) (λj d hd=> ?_)
 ·rw[fv]at hj;obtain⟨b,off,rfl,hb,h1,h2⟩:=h j (by simpa using hj);have:(⟨b,off,none⟩:Addr).add j=⟨b,off + j,none⟩:=by
   unfold Addr.add;split
   ·rename_i h;subst h;rfl
   ·rfl
  refine⟨_,rfl, ?_, ?_,rfl⟩<;>rw[this]
  ·exact hk _ _ _ hb h1
  ·exact h2
 ·rw[fv]at hd;simp only[cO,cv]at hd;obtain⟨z,hz,rfl⟩:=hd;have:l.getD j 0=z:=by simp[hz]
  rw[this];exact .int _ _ _
theorem aa1 {c:Ctx}(hP:c.P=aa)(bI:∀b,c.own b->c.w0.heap.size<=b){s:St}{K:St->Prop}{L:List (List Int)}{x:Operand}{dst:Option Tmp}{at_:Array TypeId}{ty:TypeId}{pos:String}{aft:Array Edge}(hd:bd s dst)(hx:s.ev x= .own 0)(h1:s.bx[1]? =some (.mu [.own 0]))(h3:s.sl 3= .box 1 0)(hr:s.rw=[lf L])
  (hL:L.length<=1000000)(hl:∀l∈L,l.length<=1000000)(hk:K (St.put (Ar s.n s.bx.length (kf L)) dst (.aF []))):Go.Ab.aP c ⟨dst, .call ⟨.value (.func 142),#[x, .func 143],at_⟩,ty,pos,aft,none⟩ s K:=by
 unfold Go.Ab.aP;rintro a w N' Q' ⟨g,h⟩ hN;have ek:=h.ev x;rw[hx]at ek;generalize LW:a.eval x=v at ek;cases ek with
 |own _ _ _ hv=>
 refine gK (by intro cl h;cases h) ?_;have aV:(execOp a.eval ⟨dst, .call ⟨.value (.func 142),#[x, .func 143],at_⟩,ty,pos,aft,none⟩).run c.P w= .ok (.enter 142 #[v, .func (.func 143) #[] #[]]) w:=by
  have e1:a.eval (.func 142)= .func (.func 142) #[] #[]:=rfl;have e2:a.eval (.func 143)= .func (.func 143) #[] #[]:=rfl;simp[execOp,resolve,e1,e2,LW,Deferred.ofValue,invoke];rw[hP,call142]
 unfold Oper.wp;rw[aV];have vz:∀w',RG c (Ar s.n s.bx.length (kf L)) a w' g->N' (a.put dst (.tuple #[])) w':=λw' h'=>
  hN _ _ _ ⟨g,RG.put (s:=Ar s.n s.bx.length (kf L)) (dst:=dst) (d:= .aF []) h' (by cases dst<;>first|exact trivial|exact hd) (.aF _ _ _ rfl (λq d hq=>by simp at hq))⟩ hk
 obtain⟨v',e1,e2,e3⟩:=(h.rw 0 (lf L) (by rw[hr];rfl)).ex;rw[hv]at e1;cases e1;obtain⟨⟨vals,jn,TD⟩,bf,xw⟩:=e3 rfl;have U2:(lf L).xs.length=L.length:=by simp
 rw[U2]at TD jn;rcases TD with⟨rfl,h0⟩|⟨gb,cap,cur,rfl,iH,Bb,qY,Bk,aR,qd⟩
 ·have hL0:L=[]:=Cn.1 h0;have hc:=AnyF.slices_SortFunc_none (P:=aa) (ρ:=Tryz.PZ) {Tryz.P0 with} none 0 (.func (.func 143) #[] #[]) w;rw[hP];refine Calls.mono (f:=142) hc ?_;rintro e w' ⟨rfl,rfl⟩;refine vz _ (QC h bI h1 h3 hr hv rfl rfl rfl (aY _) (λ_ _ _=>rfl) (λb hb=>by simp[Value.ownBlock]at hb) h.ba ?_);have HB:kf L=L:=by rw[hL0];exact List.mergeSort_nil
  rw[HB];exact h.rw 0 (lf L) (by rw[hr];rfl)
 ·have aG:gb < w.heap.size:=(bt.1 Bb).1;have EA:=xw gb rfl;rw[U2]at EA;have agM:cur.size=cap:=by simpa using aR
  cases e2 with
  |list _ _ _ _ _ sz u dH amL zm hm cV=>
  rw[show(lf L).xs=L.map ints from rfl,Il]at hm cV;have eX:∀q,q < L.length->w.cell? ⟨gb,0 + q,none⟩=some (u q)/\g.S ⟨gb,0 + q,none⟩/\(u q).oneCell'=true:=λq hq=>by
   obtain⟨ad,e,f1,f2,f3⟩:=hm q (by simpa using hq);cases e;rw[WY]at f1 f2;exact⟨f1,f2,f3⟩
  have bw:∀q,q < L.length->Rel w g.er (u q) (ints (L.getD q [])):=λq hq=>cV q _ (by simp[hq]);have agi:∀(o:Nat) (z:Int),g.S ⟨gb,o,none⟩->w.cell? ⟨gb,o,none⟩≠some (.int .i64 z):=λo z hS he=>by
   have ho:=EA.2 _ hS rfl;have rV:o < L.length:=by simpa using ho
   have h1:=(eX o rV).1;rw[fK,he]at h1;have h2:=bw o rV;rw[<-Option.some.inj h1]at h2;cases h2
  have Bh:∀q,q < L.length->FQ w g.S gb (u q) (L.getD q []):=λq hq=>
   ah4 (g:=g.er) rfl (bw q hq) (hl _ (by simp[hq])) agi
  obtain⟨d,ng,dQ⟩:=R5 (w:=w) (S:=g.S) (gb:=gb) L ((ct L.length).map u) aO (λq hq=>by
   have:((ct L.length).map u).getD q undef=u q:=by simp[hq]
   rw[this];exact Bh q hq)
  have uq:d.length=L.length:=by rw[<-ng];simp
  have agG:∀j,j < L.length->kY (d.toArray[j]!)=u j:=λj hj=>by
   have h5:(d.map (·.1.1))[j]? =((ct L.length).map u)[j]? :=by rw[dQ]
   simp[hj,uq]at h5;rw[getElem!_pos _ _ (by simp;omega)];simpa using h5
  have hH:Holds kY w gb 0 d.toArray:=λj hj=>by
   have gp:j < L.length:=by simpa[uq]using hj
   refine⟨by rw[agG j gp];exact(eX j gp).1, ?_⟩;unfold World.frozen?;simp only;rw[Bb];simp
  have hc:=aa2 w g.S gb cap d.toArray hH aG (by simp only[vZ];omega);simp only[vZ,uq]at hc;rw[hP];rw[show(lf L).xs.length=L.length by simp]at *;refine Calls.mono (f:=142) hc ?_;rintro e w' ⟨rfl,d',m,os,mj,Mc,rfl⟩;have Um:=agI kY w gb m d' os Bb;have il:∀q,q < L.length->(putCells kY 0 d' cur)[q]? =some (kY d'[q]!):=λq hq=>by
   have mZ:q < cur.size:=ae;simp[putCells,mj,hq,mZ]
  have UN:∀q,q < L.length->(sortWorld kY w gb 0 m d' os).cell? ⟨gb,0 + q,none⟩=some (kY d'[q]!):=λq hq=>by
   unfold qz;simp only;rw[Um,fK];exact il q hq
  have hlen:(kf L).length=L.length:=(Gu L).length_eq;have ago:d'.toList.map (·.1.2)=kf L:=by rw[Mc,ng]
  have im:∀q,q < L.length->(kf L).getD q []=(d'[q]!).1.2:=λq hq=>by
   rw[<-ago,getElem!_pos _ _ ae];simp[mj,hq]
  have px:∀x:ye w g.S gb,(kY x).oneCell'=true:=λx=>by obtain⟨A,c,h,_⟩:=x.2;rw[show kY x=_ from h];rfl
  refine vz _ (QC h bI h1 h3 hr hv rfl rfl rfl ?_ (λk hk hn=>Uz _ _ _ _ _ _ hk (λe=>hn (by rw[e];rfl))) (λb hb=> ?_) (λx hx=> ?_) ⟨_,hv, ?_,λ_=>⟨⟨(putCells kY 0 d' cur).toList.take (L.length * 1), ?_, .inr ⟨gb,cap,putCells kY 0 d' cur, ?_,iH,Um, ?_,Bk, ?_, ?_⟩⟩, ?_, ?_⟩⟩)
  ·simp[sortWorld,grow,putRow,mapBlock,Sort.ahead]
  ·cases hb;exact⟨_,_,_,Bb⟩
  ·obtain⟨b,o,sp⟩:=x;obtain⟨u0,hu⟩:=h.ba _ hx;have DS:sp=none:=by
    have:=Ob (ad:=⟨b,o,sp⟩) (q:=0) hu;simpa[Addr.add]using this
   subst DS;by_cases hb:b=gb
   ·subst hb;have ho:=EA.2 _ hx rfl;have:=UN o (by simpa using ho);rw[fK]at this;exact⟨_,this⟩
   ·exact⟨_,IJ _ _ _ _ _ _ hu hb⟩
  ·refine .list _ _ L.length cap _ 1 (λq=>kY d'[q]!) (by simp[hlen]) (λx hx=>by obtain⟨l,_,rfl⟩:=eJ.1 hx;rfl) qY (λq hq=> ?_) (λq dd pB=> ?_)
   ·rw[show(lf (kf L)).xs=(kf L).map ints from rfl,Il]at hq;have dP:q < L.length:=by simpa[hlen]using hq
    refine⟨_,rfl, ?_, ?_,px _⟩<;>rw[WY]
    ·exact UN q dP
    ·exact(eX q dP).2.1
   ·rw[show(lf (kf L)).xs=(kf L).map ints from rfl,Il]at pB;have dP:q < L.length:=by have:=(aQ.1 pB).1;simpa[hlen]using this
    have he:dd=ints (d'[q]!.1.2):=by
     rw[<-im q dP];simp only[cO,cv]at pB;obtain⟨l,eN,rfl⟩:=pB;simp[eN]
    subst he;exact ah3 (w:=w) (d'[q]!).2 (λb o u hb hc=>IJ _ _ _ _ _ _ hc hb)
  ·simp[putCells,hlen];omega
  ·simp[hlen]
  ·simpa[hlen]using qY
  ·simp[putCells,agM]
  ·simp[hlen]
  ·exact λx hx=>by obtain⟨l,_,rfl⟩:=eJ.1 hx;rfl
  ·intro gb2 aI;cases aI;refine⟨EA.1,λx hx hb=> ?_⟩;have:=EA.2 x hx hb;simpa[hlen]using this
end Go.Proofs.YtafmfhkplgapjaaGreatDoor
namespace Go.Proofs.YtafmfhkplgapjaaGreatDoor
set_option maxRecDepth 100000
set_option maxHeartbeats 4000000
open Go.Ab Go
attribute[local irreducible] av dL dY ak aH IA ez aP fM
theorem Ke (F:List (Int×Int))(T:List Int)(mo:Int)(C:List (List ByteArray)):∀(f pl at_:Nat) (sum:Int) (n now:List Int),∀l∈fE F T mo C f pl at_ sum n now,l.length=now.length
 |0,_,_,_,_,_,l,h=>by simp[fE]at h
 |f + 1,pl,at_,sum,n,now,l,h=>by
  unfold fE at h;split at h
  ·split at h
   ·rw[oQ.1 h]
   ·cases h
  ·split at h
   ·split at h
    ·exact Ke F T mo C f _ _ _ _ _ l h
    ·cases h
   ·obtain⟨x,_,hx⟩:=zT.1 h;have:=Ke F T mo C f _ _ _ _ _ l hx;simpa using this
def akT (x:Operand)(dst:Option Tmp)(N:St->Prop)(s:St):Prop:=bd s dst/\∃L,s.ev x= .own 0/\s.bx[1]? =some (.mu [.own 0])/\s.sl 3= .box 1 0/\s.rw=[lf L]/\L.length<=1000000/\(∀l∈L,l.length<=1000000)/\N (St.put (Ar s.n s.bx.length (kf L)) dst (.aF []))
abbrev mT (F:List (Int×Int))(T:List Int)(mo:Int)(C:List (List ByteArray)):List (List Int):=fE F T mo C (nn F.length) 0 0 0 [0,0,0] (nD F.length)
theorem R' (F:List (Int×Int))(T:List Int)(mo:Int)(C:List (List ByteArray))(hT:zL T)(hC:wj F.length C)(ln:0<=mo/\mo<=2)(hF:1<=F.length/\F.length<=3)
  (hs:(mT F T mo C).length<=1000000):ak aa 106 [.agg (nM F T mo C)] (.list ((kf (mT F T mo C)).map ints)):=by
 have c1:=abo F T mo C (nn F.length) 0 0 0 [0,0,0] (nD F.length) [] (sr0 hT hC ln hF) (by simpa using hs);have hlen:∀l∈mT F T mo C,l.length<=1000000:=λl hl=>by
  have:=Ke _ _ _ _ _ _ _ _ _ _ l hl;simp[nD]at this;omega
 obtain⟨A,hA⟩:∃A,mT F T mo C=A:=⟨_,rfl⟩;rw[hA]at hs hlen⊢;rw[show fE F T mo C (nn F.length) 0 0 0 [0,0,0] (nD F.length)=A from hA,eI]at c1;have hz:iF (nD F.length)=cD F.length (i64 0):=by simp[nD]
 refine cT func106 ntmps106 results106 call106 λw0 S0 M0=> ?_;repeat'(first|(show av _ (.region 6 _ _) _ _;refine bJ ?_)|refine aq ?_|refine au λK hK=> ?_|(intro hg;try exact ai)|exact fin|apply af)
 refine b_ ?_;have fv:(cD F.length [D.int .i64 0]).flatten=iF (nD F.length):=by simp[nD]
 rw[fv];refine B3 1 0 24 1 _ rfl rfl ?_;refine nv (cR 20 [(3, .box 1 0),(6, .box 5 0)] (vO F T mo C (nD F.length)) [lf []]) (br rfl (by simp[put]) ⟨[],rfl⟩ ⟨[],rfl⟩) (ik rfl (BU _ _ _ _ _)) (bD _) ?_;simp only[cR,e_,vO];repeat'(first|(show av _ (.region 6 _ _) _ _;refine et 2 rfl (λK1 aA=> ?_);refine aj ?_)|(refine aA _ (eZ c1 ?_);simp only[aU,Nat.reduceAdd];refine aj ?_)|(show av _ (.region 7 _ _) _ _;refine bJ ?_)|refine aq ?_|refine au λK hK=> ?_|(intro hg;try exact ai)|exact fin|apply af)
 refine b_ ?_;refine oK 1 (akT (.tmp 17) (some 18)) (λN s1 h=> ?_) rfl rfl (λK1 aA=> ?_)
 ·obtain⟨hd,L,h0,h1,h2,h3,h4,h5,h6⟩:=h;exact aa1 rfl (λb hb=>hb) hd h0 h1 h2 h3 h4 h5 h6
 ·refine aj ?_;refine aA _ ⟨(bC rfl),A,by(refine aj ?_;try exact trivial),rfl,by(refine aj ?_;try exact trivial),rfl,hs,hlen, ?_⟩;clear aA K1;simp only[bH,Ar,vO,lV,List.length_nil,fK,Nat.reduceAdd,cD,List.set,St.put,List.drop];refine aj ?_;repeat'(first|refine aq ?_|refine au λK hK=> ?_|(intro hg;try exact ai)|exact fin|apply af)
  all_goals trace_state
end Go.Proofs.YtafmfhkplgapjaaGreatDoor
namespace Go.Proofs.YtafmfhkplgapjaaGreatDoor
open Go.Ab Go
theorem KR (T:List Int)(mo:Int)(C:List (List ByteArray))(at_ pl:Nat)(f:Int):∀(k:Nat) (n:List Int) (i:Nat),1<=i->nth (pX T mo C at_ pl f k n i).1 0=nth n 0/\(pX T mo C at_ pl f k n i).1.length=n.length
 |0,n,i,_=>⟨rfl,rfl⟩
 |k + 1,n,i,hi=>by
  have hs:∀v,nth (n.set i v) 0=nth n 0/\(n.set i v).length=n.length:=λv=>⟨by simp only[nth,ic];rw[gj ae],by simp⟩;have hn:nth (if hG T (fX C i at_ pl) f=2 then n.set i (nth n i + 1)else n) 0=nth n 0/\(if hG T (fX C i at_ pl) f=2 then n.set i (nth n i + 1)else n).length=n.length:=by
   split
   ·exact hs _
   ·exact⟨rfl,rfl⟩
  unfold pX;revert hn;generalize(if hG T (fX C i at_ pl) f=2 then n.set i (nth n i + 1)else n)=m;intro hn;split
  ·exact⟨rfl,rfl⟩
  ·split
   ·exact hn
   ·have:=KR T mo C at_ pl f k m (i + 1) ae;exact⟨this.1.trans hn.1,this.2.trans hn.2⟩
theorem wI {T:List Int}{mo:Int}{c:List ByteArray}{C:List (List ByteArray)}{n:List Int}{at_ pl:Nat}{f:Int}(hn:0 < n.length)(h:(eC T mo (c::C) n at_ pl f).2=true):
  hG T (fX [c] 0 at_ pl) f≠0/\nth (eC T mo (c::C) n at_ pl f).1 0=nth n 0 + (if hG T (fX [c] 0 at_ pl) f=2 then 1 else 0)/\nth n 0 + (if hG T (fX [c] 0 at_ pl) f=2 then 1 else 0)<=mo/\(eC T mo (c::C) n at_ pl f).1.length=n.length:=by
 have hc:fX (c::C) 0 at_ pl=fX [c] 0 at_ pl:=rfl;unfold eC at h⊢;simp only[lV]at h⊢;unfold pX at h⊢;rw[hc]at h⊢;have hs:∀v,nth (n.set 0 v) 0=v/\(n.set 0 v).length=n.length:=λv=>⟨by simp only[nth,ic];rw[jg hn];rfl,by simp⟩;by_cases h0:hG T (fX [c] 0 at_ pl) f=0
 ·rw[if_pos h0]at h;cases h
 ·rw[if_neg h0]at h⊢;by_cases h2:hG T (fX [c] 0 at_ pl) f=2
  ·simp only[if_pos h2]at h⊢;rw[(hs _).1]at h⊢;by_cases h3:mo < nth n 0 + 1
   ·rw[if_pos h3]at h;cases h
   ·rw[if_neg h3]at h⊢;have:=KR T mo (c::C) at_ pl f C.length (n.set 0 (nth n 0 + 1)) (0 + 1) ae;rw[(hs _).1,(hs _).2]at this;exact⟨h0,this.1,ae,this.2⟩
  ·simp only[if_neg h2]at h⊢;by_cases h3:mo < nth n 0
   ·rw[if_pos h3]at h;cases h
   ·rw[if_neg h3]at h⊢;have:=KR T mo (c::C) at_ pl f C.length n (0 + 1) ae;exact⟨h0,by rw[this.1];omega,ae,this.2⟩
theorem Rc {T:List Int}{mo:Int}{c:List ByteArray}{n:List Int}{at_ pl:Nat}{f:Int}(hn:0 < n.length)(h0:hG T (fX [c] 0 at_ pl) f≠0)(h1:nth n 0 + (if hG T (fX [c] 0 at_ pl) f=2 then 1 else 0)<=mo):(eC T mo [c] n at_ pl f).2=true:=by
 have hs:∀v,nth (n.set 0 v) 0=v:=λv=>by simp only[nth,ic];rw[jg hn];rfl
 unfold eC;simp only[lV,List.length_nil];unfold pX;rw[if_neg h0];by_cases h2:hG T (fX [c] 0 at_ pl) f=2
 ·simp only[if_pos h2]at h1⊢;rw[hs,if_neg ae];rfl
 ·simp only[if_neg h2]at h1⊢;rw[if_neg ae];rfl
theorem NT {T:List Int}{mo:Int}{C:List (List ByteArray)}{n:List Int}{at_ pl:Nat}{x:Nat×List Int}:∀{m:Nat},x∈k6 T mo C n at_ pl m↔x.1 < m/\(eC T mo C n at_ pl (x.1:Nat)).2=true/\x.2=(eC T mo C n at_ pl (x.1:Nat)).1
 |0=>by simp[k6]
 |m + 1=>by
  unfold k6;rw[List.mem_append,NT];constructor
  ·rintro(⟨h1,h2⟩|h)
   ·exact⟨ae,h2⟩
   ·split at h
    ·rename_i h1;rw[oQ]at h;subst h;exact⟨Nat.lt_succ_self m,h1,rfl⟩
    ·cases h
  ·rintro⟨h1,h2,h3⟩;rcases Nat.lt_or_ge x.1 m with h|h
   ·exact .inl ⟨h,h2,h3⟩
   ·obtain⟨j,y⟩:=x;obtain rfl:j=m:=by simp at h1 h;omega
    simp only at h2 h3;subst h3;exact .inr (by rw[if_pos h2];exact oQ.2 rfl)
theorem Ka (F:List (Int×Int))(T:List Int)(mo:Int)(c:List ByteArray)(C:List (List ByteArray)):∀(f pl at_:Nat) (sum:Int) (n n' now:List Int),0 < n.length->0 < n'.length->nth n' 0=nth n 0->∀l∈fE F T mo (c::C) f pl at_ sum n now,l∈fE F T mo [c] f pl at_ sum n' now
 |0,_,_,_,_,_,_,_,_,_,l,h=>by simp[fE]at h
 |f + 1,pl,at_,sum,n,n',now,hn,n9,he,l,h=>by
  unfold fE at h⊢;split at h
  ·rename_i h5;rw[if_pos h5];exact h
  ·rename_i h5;rw[if_neg h5];split at h
   ·rename_i ha;rw[if_pos ha];split at h
    ·rename_i hp;obtain⟨q1,q2,q3,q4⟩:=wI hn hp;rw[<-he]at q3;have gP:=Rc n9 q1 q3;rw[if_pos gP];obtain⟨_,r2,_,r4⟩:=wI n9 gP;exact Ka F T mo c C f _ _ _ _ _ _ (by rw[q4];exact hn) (by rw[r4];exact n9) (by rw[r2,q2,he]) l h
    ·cases h
   ·rename_i ha;rw[if_neg ha];obtain⟨x,hx,hl⟩:=zT.1 h;obtain⟨x1,x2,x3⟩:=NT.1 hx;obtain⟨q1,q2,q3,q4⟩:=wI hn x2;rw[<-he]at q3;have gP:=Rc n9 q1 q3;obtain⟨_,r2,_,r4⟩:=wI n9 gP;refine zT.2 ⟨(x.1,(eC T mo [c] n' at_ pl (x.1:Nat)).1),NT.2 ⟨x1,gP,rfl⟩, ?_⟩;exact Ka F T mo c C f _ _ _ _ _ _ (by rw[x3,q4];exact hn) (by rw[r4];exact n9) (by rw[x3,q2,r2,he]) l hl
theorem ad8 (F:List (Int×Int))(T:List Int)(mo:Int)(c:List ByteArray)(C:List (List ByteArray)):∀l∈mT F T mo (c::C),l∈mT F T mo [c]:=
 Ka F T mo c C _ _ _ _ _ _ _ aO aO rfl
def jd:Nat->Nat->Nat
 |0,_=>1
 |r + 1,0=>jd r 0
 |r + 1,e + 1=>jd r (e + 1) + 9 * jd r e
theorem IN:∀r e,jd r e<=jd r (e + 1)
 |0,_=>aY _
 |r + 1,0=>by have:=IN r 0;simp only[jd];omega
 |r + 1,e + 1=>by have:=IN r (e + 1);have:=IN r e;simp only[jd];omega
theorem N1 (r:Nat):∀e d,jd r e<=jd r (e + d)
 |e,0=>aY _
 |e,d + 1=>fu (N1 r e d) (IN r (e + d))
theorem Wz:∀r e,jd r e<=jd (r + 1) e
 |r,0=>by simp only[jd];exact aY _
 |r,e + 1=>by simp only[jd];omega
theorem Wy (e r:Nat):∀d,jd r e<=jd (r + d) e
 |0=>aY _
 |d + 1=>fu (Wy e r d) (Wz (r + d) e)
def hW (c:List ByteArray)(k:Nat):Nat->Nat->Nat->Nat
 |0,_,_=>0
 |f + 1,pl,at_=>if pl=5 then 0 else if at_=k then hW c k f (pl + 1) 0 else(if fX [c] 0 at_ pl=63 then 1 else 0) + hW c k f pl (at_ + 1)
def rW (k:Nat):Nat->Nat->Nat->Nat
 |0,_,_=>0
 |f + 1,pl,at_=>if pl=5 then 0 else if at_=k then rW k f (pl + 1) 0 else 1 + rW k f pl (at_ + 1)
def An (t:Nat->Nat):Nat->Nat
 |0=>0
 |m + 1=>An t m + t m
theorem Wo {T:List Int}{mo:Int}{C:List (List ByteArray)}{n:List Int}{at_ pl:Nat}{α:Type}(g:Nat×List Int->List α):∀m,((k6 T mo C n at_ pl m).flatMap g).length=An (λj=>if(eC T mo C n at_ pl (j:Nat)).2=true then(g (j,(eC T mo C n at_ pl (j:Nat)).1)).length else 0) m
 |0=>rfl
 |m + 1=>by
  unfold k6 An;rw[List.flatMap_append,List.length_append,Wo g m]
  congr 1
  split
  ·simp
  ·rfl
theorem J7 {t:Nat->Nat}{g A B:Nat}(hg:g < 10)(h1:t g<=A)(h2:∀j,j < 10->j≠g->t j<=B):An t 10<=A + 9 * B:=by
 simp only[An];have h:∀j,j < 10->t j<=B\/j=g:=λj hj=>by
  by_cases e:j=g
  ·exact .inr e
  ·exact .inl (h2 j hj e)
 have:=h 0 ae;have:=h 1 ae;have:=h 2 ae;have:=h 3 ae;have:=h 4 ae;have:=h 5 ae;have:=h 6 ae;have:=h 7 ae;have:=h 8 ae;have:=h 9 ae
 match g,hg with
 |0,_=>omega
 |1,_=>omega
 |2,_=>omega
 |3,_=>omega
 |4,_=>omega
 |5,_=>omega
 |6,_=>omega
 |7,_=>omega
 |8,_=>omega
 |9,_=>omega
theorem Z9 {t:Nat->Nat}{A:Nat}(h2:∀j,j < 10->t j<=A):An t 10<=10 * A:=by
 have:=J7 (g:=0) (A:=A) (B:=A) (t:=t) ae (h2 0 ae) (λj hj _=>h2 j hj);omega
theorem Kb (F:List (Int×Int))(T:List Int)(mo:Int)(c:List ByteArray)(C:List (List ByteArray))(hc:∀q p,q<=F.length->p < 5->BR (fX [c] 0 q p)):∀(f pl at_:Nat) (sum:Int) (n now:List Int),pl<=5->at_<=F.length->0 < n.length->nth n 0<=mo->
  (fE F T mo (c::C) f pl at_ sum n now).length<=10 ^ hW c F.length f pl at_ * jd (rW F.length f pl at_) (mo - nth n 0).toNat
 |0,_,_,_,_,_,_,_,_,_=>by simp[fE]
 |f + 1,pl,at_,sum,n,now,gn,im,hn,ln=>by
  unfold fE hW rW;by_cases h5:pl=5
  ·rw[if_pos h5,if_pos h5,if_pos h5];split<;>simp[jd]
  ·rw[if_neg h5,if_neg h5,if_neg h5];by_cases ha:at_=F.length
   ·rw[if_pos ha,if_pos ha,if_pos ha];split
    ·rename_i hp;obtain⟨q1,q2,q3,q4⟩:=wI hn hp;have ih:=Kb F T mo c C hc f (pl + 1) 0 0 _ now ae ae (by rw[q4];exact hn) (by rw[q2];exact q3);refine fu ih (Nat.mul_le_mul_left _ ?_);obtain⟨d,hd⟩:∃d,(mo - nth n 0).toNat=(mo - nth (eC T mo (c::C) n at_ pl (sum.tmod 10)).1 0).toNat + d:=⟨(mo - nth n 0).toNat - (mo - nth (eC T mo (c::C) n at_ pl (sum.tmod 10)).1 0).toNat,by
      rw[q2];split at q3<;>omega⟩
     rw[hd];exact N1 _ _ _
    ·exact bD _
   ·rw[if_neg ha,if_neg ha,if_neg ha,Wo];have amR:at_ < F.length:=ae;have zi:=hc at_ pl ae ae;generalize hH:hW c F.length f pl (at_ + 1)=h';generalize hR:rW F.length f pl (at_ + 1)=r';have ih:∀sum n now,0 < n.length->nth n 0<=mo->(fE F T mo (c::C) f pl (at_ + 1) sum n now).length<=10 ^ h' * jd r' (mo - nth n 0).toNat:=λsum n now h1 h2=>by
     have:=Kb F T mo c C hc f pl (at_ + 1) sum n now gn ae h1 h2;rw[hH,hR]at this;exact this
    by_cases jI:fX [c] 0 at_ pl=63
    ·rw[if_pos jI];have hle:10 * (10 ^ h' * jd r' (mo - nth n 0).toNat)<=10 ^ (1 + h') * jd (1 + r') (mo - nth n 0).toNat:=by
      rw[zR 1 h',Nat.pow_succ,<-Nat.mul_assoc,Nat.mul_comm 10 (10 ^ h'),zR 1 r'];exact Nat.mul_le_mul_left _ (Wz _ _)
     refine fu (Z9 λj hj=> ?_) hle;split
     ·rename_i hp;obtain⟨q1,q2,q3,q4⟩:=wI hn hp;have hh:hG T (fX [c] 0 at_ pl) (j:Nat)=1:=by unfold hG;rw[if_pos (.inl jI)]
      rw[hh]at q2 q3;simp only[show¬((1:Int)=2) by decide,if_false,Int.add_zero]at q2 q3;have:=ih (sum + (j:Nat)) _ (now.set at_ (10 * nth now at_ + (j:Nat))) (by rw[q4];exact hn) (by rw[q2];exact ln);rw[q2]at this;exact this
     ·exact bD _
    ·rw[if_neg jI,fK];obtain⟨g,hg,hgc⟩:∃g:Nat,g < 10/\fX [c] 0 at_ pl=48 + (g:Nat):=by
      rcases zi with⟨h1,h2⟩|h1
      ·exact⟨(fX [c] 0 at_ pl - 48).toNat,ae,ae⟩
      ·exact absurd h1 jI
     have L0:∀j:Nat,(eC T mo (c::C) n at_ pl (j:Nat)).2=true->(j=g/\nth (eC T mo (c::C) n at_ pl (j:Nat)).1 0=nth n 0)\/(j≠g/\nth (eC T mo (c::C) n at_ pl (j:Nat)).1 0=nth n 0 + 1/\nth n 0 + 1<=mo):=λj hp=>by
      obtain⟨q1,q2,q3,q4⟩:=wI hn hp;by_cases hj:j=g
      ·have hh:hG T (fX [c] 0 at_ pl) (j:Nat)=1:=by unfold hG;rw[if_pos (.inr ae)]
       rw[hh]at q2;simp only[show¬((1:Int)=2) by decide,if_false,Int.add_zero]at q2;exact .inl ⟨hj,q2⟩
      ·have hh:hG T (fX [c] 0 at_ pl) (j:Nat)=2:=by
        unfold hG at q1⊢;have ga:¬(fX [c] 0 at_ pl=63\/fX [c] 0 at_ pl - 48=(j:Nat)):=ae;rw[if_neg ga]at q1⊢;split
        ·rfl
        ·rename_i h;rw[if_neg h]at q1;exact absurd rfl q1
       rw[hh]at q2 q3;simp only[if_true]at q2 q3;exact .inr ⟨hj,q2,q3⟩
     have hlen:∀j:Nat,(eC T mo (c::C) n at_ pl (j:Nat)).2=true->0 < (eC T mo (c::C) n at_ pl (j:Nat)).1.length:=λj hp=>by
      obtain⟨q1,q2,q3,q4⟩:=wI hn hp;rw[q4];exact hn
     have hA:(if(eC T mo (c::C) n at_ pl (g:Nat)).2=true then(fE F T mo (c::C) f pl (at_ + 1) (sum + (g:Nat)) (eC T mo (c::C) n at_ pl (g:Nat)).1 (now.set at_ (10 * nth now at_ + (g:Nat)))).length else 0)<=10 ^ h' * jd r' (mo - nth n 0).toNat:=by
      split
      ·rename_i hp;rcases L0 g hp with⟨_,q2⟩|⟨q1,_⟩
       ·have:=ih (sum + (g:Nat)) _ (now.set at_ (10 * nth now at_ + (g:Nat))) (hlen g hp) (by rw[q2];exact ln);rw[q2]at this;exact this
       ·exact absurd rfl q1
      ·exact bD _
     cases he:(mo - nth n 0).toNat with
     |zero=>
      have hB:∀j,j < 10->j≠g->(if(eC T mo (c::C) n at_ pl (j:Nat)).2=true then(fE F T mo (c::C) f pl (at_ + 1) (sum + (j:Nat)) (eC T mo (c::C) n at_ pl (j:Nat)).1 (now.set at_ (10 * nth now at_ + (j:Nat)))).length else 0)<=0:=λj hj Mg=>by
       split
       ·rename_i hp;rcases L0 j hp with⟨q1,_⟩|⟨_,_,q3⟩
        ·exact absurd q1 Mg
        ·omega
       ·exact bD _
      have:=J7 hg hA hB;rw[he]at this;refine fu this ?_;rw[zR 1 r'];simp only[jd];omega
     |succ e=>
      have hB:∀j,j < 10->j≠g->(if(eC T mo (c::C) n at_ pl (j:Nat)).2=true then(fE F T mo (c::C) f pl (at_ + 1) (sum + (j:Nat)) (eC T mo (c::C) n at_ pl (j:Nat)).1 (now.set at_ (10 * nth now at_ + (j:Nat)))).length else 0)<=10 ^ h' * jd r' e:=λj hj Mg=>by
       split
       ·rename_i hp;rcases L0 j hp with⟨q1,_⟩|⟨_,q2,q3⟩
        ·exact absurd q1 Mg
        ·have:=ih (sum + (j:Nat)) _ (now.set at_ (10 * nth now at_ + (j:Nat))) (hlen j hp) (by rw[q2];exact q3);rw[q2,show(mo - (nth n 0 + 1)).toNat=e by omega]at this;exact this
       ·exact bD _
      have:=J7 hg hA hB;rw[he]at this;refine fu this ?_;rw[zR 1 r'];simp only[jd];rw[Nat.mul_add,Nat.mul_left_comm (10 ^ h') 9];exact aY _
theorem Wd {k:Nat}{g:List ByteArray}(h:gU k g=true):g.length=k + 1/\mq g g.length<=2/\∀q,q<=k->(nth g q).size=5/\∀p,p < 5->BR (((nth g q).data.getD p 0).toNat:Int):=by
 unfold gU at h;simp only[c_,decide_eq_true_eq]at h;obtain⟨h1,h2,h3⟩:=h;refine⟨h2,h3,λq hq=> ?_⟩;have h4:=h1 q ae;unfold rL at h4;simp only[c_,decide_eq_true_eq]at h4;refine⟨h4.2,λp hp=> ?_⟩;have gP:p < (nth g q).size:=ae;have h5:=h4.1 p gP;have e:(nth g q).data.getD p 0=(nth g q)[p]'gP:=by
  have hd:p < (nth g q).data.size:=gP;rw[lJ,FZ hd];rfl
 rw[e];unfold rJ at h5;simp only[qI,decide_eq_true_eq]at h5;unfold BR;omega
theorem ajL {k:Nat}{C:List (List ByteArray)}(hl:C.length<=3)(h:∀i,i < C.length->gU k (nth C i)=true):wj k C:=⟨hl,λi hi=>by
 obtain⟨h1,_,h3⟩:=Wd (h i hi);exact⟨h1,λq hq=>h3 q hq⟩⟩
theorem L8 (s:ByteArray):qg s 5=(if(s.data.getD 0 0).toNat=63 then 1 else 0) + (if(s.data.getD 1 0).toNat=63 then 1 else 0) + (if(s.data.getD 2 0).toNat=63 then 1 else 0) + (if(s.data.getD 3 0).toNat=63 then 1 else 0) + (if(s.data.getD 4 0).toNat=63 then 1 else 0):=by
 simp only[qg,fK]
def rG (c:List ByteArray)(pl:Nat):Nat->Nat->Nat
 |_,0=>0
 |at_,d + 1=>(if((nth c at_).data.getD pl 0).toNat=63 then 1 else 0) + rG c pl (at_ + 1) d
theorem UU (c:List ByteArray)(k f pl at_:Nat):hW c k (f + 1) pl at_=if pl=5 then 0 else if at_=k then hW c k f (pl + 1) 0 else(if fX [c] 0 at_ pl=63 then 1 else 0) + hW c k f pl (at_ + 1):=rfl
theorem Bu (c:List ByteArray)(k pl f:Nat)(h5:pl≠5):∀d at_,at_ + d=k->hW c k (f + d + 1) pl at_=rG c pl at_ d + hW c k f (pl + 1) 0
 |0,at_,h=>by
  rw[xX,UU,if_neg h5,if_pos ae];simp only[rG,fK]
 |d + 1,at_,h=>by
  have ih:=Bu c k pl f h5 d (at_ + 1) ae;rw[show f + (d + 1) + 1=(f + d + 1) + 1 by omega];rw[UU,if_neg h5,if_neg ae,ih];simp only[rG];have:fX [c] 0 at_ pl=(((nth c at_).data.getD pl 0).toNat:Int):=rfl;rw[this];by_cases h:((nth c at_).data.getD pl 0).toNat=63
  ·rw[if_pos ae,if_pos h];omega
  ·rw[if_neg ae,if_neg h];omega
theorem ag3 (c:List ByteArray)(k:Nat):hW c k (nn k) 0 0=rG c 0 0 k + (rG c 1 0 k + (rG c 2 0 k + (rG c 3 0 k + rG c 4 0 k))):=by
 rw[show nn k=(((((k + 1) + k + 1) + k + 1) + k + 1) + k + 1) + k + 1 by unfold nn;omega];rw[Bu c k 0 _ aE k 0 ae,Bu c k 1 _ aE k 0 ae,Bu c k 2 _ aE k 0 ae,Bu c k 3 _ aE k 0 ae,Bu c k 4 _ aE k 0 ae];have:hW c k (k + 1) (4 + 1) 0=0:=by unfold hW;rw[if_pos rfl]
 rw[this,xX]
theorem ag2 {k:Nat}(hk:1<=k/\k<=3)(c:List ByteArray)(hs:∀q,q<=k->(nth c q).size=5)(hl:c.length=k + 1)(hh:mq c c.length<=2):hW c k (nn k) 0 0<=2:=by
 rw[ag3];rw[hl]at hh;obtain rfl|rfl|rfl:k=1\/k=2\/k=3:=ae
 ·simp only[mq,hs 0 ae,hs 1 ae,L8]at hh;simp only[rG,fK,Nat.reduceAdd];omega
 ·simp only[mq,hs 0 ae,hs 1 ae,hs 2 ae,L8]at hh;simp only[rG,fK,Nat.reduceAdd];omega
 ·simp only[mq,hs 0 ae,hs 1 ae,hs 2 ae,hs 3 ae,L8]at hh;simp only[rG,fK,Nat.reduceAdd];omega
theorem ad7 (F:List (Int×Int))(T:List Int)(mo:Int)(c:List ByteArray)(C:List (List ByteArray))(hF:1<=F.length/\F.length<=3)(ln:0<=mo/\mo<=2)(hc:gU F.length c=true):(mT F T mo (c::C)).length<=1000000:=by
 obtain⟨h1,h2,h3⟩:=Wd hc;have hb:=Kb F T mo c C (λq p hq hp=>(h3 q hq).2 p hp) (nn F.length) 0 0 0 [0,0,0] (nD F.length) ae ae aO (by show(0:Int)<=mo;omega);have hw:=ag2 hF c (λq hq=>(h3 q hq).1) h1 h2;have hr:rW F.length (nn F.length) 0 0<=15:=by
  obtain h|h|h:F.length=1\/F.length=2\/F.length=3:=ae;all_goals rw[h];decide
 have h0:nth [(0:Int),0,0] 0=0:=rfl;rw[h0,Int.sub_zero]at hb;refine fu hb ?_;have e1:jd (rW F.length (nn F.length) 0 0) mo.toNat<=jd 15 2:=by
  obtain⟨d,hd⟩:∃d,15=rW F.length (nn F.length) 0 0 + d:=⟨15 - rW F.length (nn F.length) 0 0,ae⟩;obtain⟨e,he⟩:∃e,2=mo.toNat + e:=⟨2 - mo.toNat,ae⟩;rw[hd,he];exact fu (Wy _ _ d) (N1 _ _ e)
 have e2:10 ^ hW c F.length (nn F.length) 0 0<=10 ^ 2:=Nat.pow_le_pow_right ae hw;refine fu (Nat.mul_le_mul e2 e1) ?_;decide
end Go.Proofs.YtafmfhkplgapjaaGreatDoor
namespace Go.Proofs.YtafmfhkplgapjaaGreatDoor
set_option maxRecDepth 100000
set_option maxHeartbeats 4000000
open Go.Ab
attribute[local irreducible] av dL dY ak aH cY IA ez aP fM
theorem Kc (F:List (Int×Int))(T:List Int)(mo:Int)(C:List (List ByteArray)):∀(f pl at_:Nat) (sum:Int) (n now:List Int),∀l∈fE F T mo C f pl at_ sum n now,zS F l
 |0,_,_,_,_,_,l,h=>by simp[fE]at h
 |f + 1,pl,at_,sum,n,now,l,h=>by
  unfold fE at h;split at h
  ·split at h
   ·rename_i hm;rw[oQ.1 h];exact hm
   ·cases h
  ·split at h
   ·split at h
    ·exact Kc F T mo C f _ _ _ _ _ l h
    ·cases h
   ·obtain⟨x,_,hx⟩:=zT.1 h;exact Kc F T mo C f _ _ _ _ _ l hx
def dM (s:aJ)(C:List (List ByteArray)):List (List Int):=kf (mT s.fl s.tu s.mo C)
theorem Rn {s:aJ}{C:List (List ByteArray)}{l:List Int}:l∈dM s C↔l∈mT s.fl s.tu s.mo C:=(Gu _).mem_iff
theorem KY {s:aJ}(hc:k8 s.fl s.tu s.mo){C:List (List ByteArray)}{l:List Int}(h:l∈dM s C):l.length=s.fl.length/\0<=nth l 0/\nth l 0<=99999:=by
 have h1:=Kc _ _ _ _ _ _ _ _ _ _ l (Rn.1 h);have h2:=h1.2 0 (by rw[h1.1];exact hc.2.2.1.1);have h3:=hc.1 0 hc.2.2.1.1;exact⟨h1.1,Cs h3.1 h2.1,Cs h2.2 h3.2.2⟩
theorem Ie {k:Nat}{C:List (List ByteArray)}(h:(C.any λg=> !gU k g)=false):∀i,i < C.length->gU k (nth C i)=true:=λi hi=>by
 have hm:nth C i∈C:=by
  have:nth C i=C[i]:=by simp[nth,hi]
  rw[this];exact zW hi
 have:=List.any_eq_false.1 h _ hm;simpa using this
theorem RY {s:aJ}(hc:k8 s.fl s.tu s.mo){C:List (List ByteArray)}(hC:1<=C.length)(h:(C.any λg=> !gU s.fl.length g)=false):(mT s.fl s.tu s.mo C).length<=1000000:=by
 match C,hC with
 |c::C,_=>exact ad7 _ _ _ c C hc.2.2.1 ⟨hc.2.2.2.2.1,hc.2.2.2.2.2⟩ (Ie h 0 aO)
theorem Ro {s:aJ}(hc:k8 s.fl s.tu s.mo){C:List (List ByteArray)}(hC:1<=C.length)(h:(C.any λg=> !gU s.fl.length g)=false):FO (dM s C):=by
 have h1:(dM s C).length=(mT s.fl s.tu s.mo C).length:=(Gu _).length_eq;refine⟨by rw[h1];exact RY hc hC h,λi hi=> ?_⟩;have hm:nth (dM s C) i∈dM s C:=by
  have:nth (dM s C) i=(dM s C)[i]:=by simp[nth,hi]
  rw[this];exact zW hi
 obtain⟨h2,h3⟩:=KY hc hm;have:=hc.2.2.1;rw[h2];exact⟨ae,ae,h3⟩
theorem Va:FO []:=⟨by simp,λi hi=>absurd hi (dF _)⟩
theorem Kf {l:List (List Int)}(h:FO l):∀j,0 < j->j<=l.length->(bW l j).1<=(bW l j).2
 |j + 1,_,hj=>by
  unfold bW;by_cases h0:j=0
  ·subst h0;simp only[if_true];omega
  ·simp only[h0,if_false];have:=Kf h j ae ae;omega
def ja (s:aJ)(C:List (List ByteArray)):Int:=if(C.any λg=> !gU s.fl.length g)=true then 2 else if dM s C=[]then 5 else 0
theorem IF (s:aJ)(hc:k8 s.fl s.tu s.mo)(C:List (List ByteArray))(hC:sq C):ak aa 45 [.agg (oX s.fl s.tu s.mo), .list (C.map aX)] (.aF [.list ((if(C.any λg=> !gU s.fl.length g)=true then[]else dM s C).map ints), .int .i64 (ja s C)]):=by
 unfold ja;by_cases hb:(C.any λg=> !gU s.fl.length g)=true
 ·rw[if_pos hb,if_pos hb];exact ajO _ _ _ C hC hc hb
 ·have iH:(C.any λg=> !gU s.fl.length g)=false:=by simpa using hb
  rw[if_neg hb,if_neg hb];have og:=RY hc hC.n.1 iH;have hm:=R' s.fl s.tu s.mo C ⟨hc.2.2.2.1,λi hi=>hc.2.1 i (by rw[hc.2.2.2.1];exact hi)⟩ (ajL hC.n.2 (Ie iH)) ⟨hc.2.2.2.2.1,hc.2.2.2.2.2⟩ hc.2.2.1 og;have hlen:((kf (mT s.fl s.tu s.mo C)).map ints).length<=1000000:=by rw[List.length_map,(Gu _).length_eq];exact og
  have h:=ajP s.fl s.tu s.mo C _ hC hc iH ae hm;have e:(if((kf (mT s.fl s.tu s.mo C)).map ints).length=0 then 5 else 0:Int)=if dM s C=[]then 5 else 0:=by
   unfold dM;by_cases h0:kf (mT s.fl s.tu s.mo C)=[]
   ·rw[if_pos h0,if_pos (by rw[h0];rfl)]
   ·rw[if_neg h0,if_neg (by simpa using h0)]
  rw[e]at h;exact h
theorem ajR {a b d:Int}(h:vR a b d){n k:Int}(hn:0<=n/\n<=100)(hk:1<=k/\k<=3):0<=ox a b d n k/\ox a b d n k<=1000000000000:=by
 obtain⟨h1,h2,h3⟩:=h;unfold ox;obtain⟨m,hm⟩:∃m,m=max 0 (n - b):=⟨_,rfl⟩;have h_:0<=m/\m<=100:=ae;rw[<-hm];have h4:0<=d * m:=wb h2.1 h_.1;have h5:d * m<=10000 * 100:=Int.mul_le_mul h2.2 h_.2 h_.1 aE;obtain⟨o,ho⟩:∃o,o=a + d * m:=⟨_,rfl⟩;rw[<-ho];obtain rfl|rfl|rfl:k=1\/k=2\/k=3:=ae;all_goals omega
theorem Pf (s:aJ)(aW:kJ s)(R0:Row)(n cap na:Nat)(kz cost dy:Int)(cs:List D)(C:List (List ByteArray))(aw:∀d∈cs,Names 0 0 d)(f_:sq C)(mr:na < 60)(MA:¬(0<=kz/\kz<=(s.aL.length:Int) - 1)\/¬(0<=dy/\dy<=s.dy - 1)):∃code:Int,(code=2\/code=7)/\aH aa 10 [.box 0 0,i64 kz,i64 dy, .list (C.map aX)] [.mu (ay s n cap cost), .mp [], .mu cs] [R0,az na] (aT (i64 code) [.mu (ay s n cap cost), .mp [], .mu cs] [R0,az na]):=by
 have aM:s.aL.length<=100:=by have:=aW.1;omega
 have dS:0<=s.dy/\s.dy<=100:=by have:=aW.2.1;omega
 have s_:k8 s.fl s.tu s.mo:=aW.2.2.2.2.1;have bE:∀nb nr,bN nb nr cs=true:=λnb nr=>ec λd hd=>eG (aw d hd);have iG:cs.map (gY 1)=cs:=u7 aw;have vG:=f_.n;have th:∀i,i < C.length->(nth C i).length<=1000000:=λi hi=>by have:=(f_.g i hi).1;omega
 refine⟨2, .inl rfl, ?_⟩;have q1:aH aa 43 [.box 3 0, .box 4 0, .box 5 0, .box 6 0, .box 7 0, .box 8 0] [.mu (ay s n cap cost), .mp [], .mu cs, .mu [.box 0 0], .mu [i64 kz], .mu [i64 dy], .mu [.list (C.map aX)], .mu [i64 0,i64 0], .mu [.bool false]] [R0,az na] (aT (.bool false) [.mu (ay s n cap cost), .mp [], .mu cs, .mu [.box 0 0], .mu [i64 kz], .mu [i64 dy], .mu [.list (C.map aX)], .mu [i64 0,i64 0], .mu [.bool false]] [R0,az na]):=by
  by_cases hk:0<=kz/\kz<=(s.aL.length:Int) - 1
  ·exact YB s R0 n cap na kz cost dy cs (C.map aX) aM dS aw hk (MA.resolve_left λh=>h hk)
  ·exact Yt s R0 n cap na kz cost dy cs (C.map aX) aM dS aw hk
 have q1:=gC (nr:=2) [.mu [.box 0 0], .mu [.ag 43 [.box 3 0, .box 4 0, .box 5 0, .box 6 0, .box 7 0, .box 8 0]], .mu [.ag 46 [.box 3 0, .box 5 0]], .mu [.ag 47 [.box 8 0, .box 3 0, .box 5 0, .box 4 0, .box 7 0]]] q1 rfl (by simp only[a7,bE];rfl) (by simp only[a7,bE];rfl) rfl rfl rfl;exact F8 s R0 n cap na kz cost dy cs C aM aw vG th 2 0 0 false (.inl rfl) (J4 s n cap cost (.mp []) (.mu cs) (.mu [.box 0 0]) (.mu [i64 kz]) (.mu [i64 dy]) (.mu [.list (C.map aX)]) (.mu [i64 0,i64 0]) (.mu [.bool false]) (.mp []) (.mu cs) (.mu [.box 0 0]) (.mu [i64 kz]) (.mu [i64 dy]) (.mu [.list (C.map aX)]) (.mu [i64 0,i64 0]) (.mu [.bool false]) R0 na mr 43 46 47 [.box 3 0, .box 4 0, .box 5 0, .box 6 0, .box 7 0, .box 8 0] [.box 3 0, .box 5 0] [.box 8 0, .box 3 0, .box 5 0, .box 4 0, .box 7 0] (by simp only[a7,bE];rfl) (by simp only[a7,bE];rfl) (by simp only[ib,nz,ij,iG];rfl) q1)
theorem Pc (s:aJ)(aW:kJ s)(R0:Row)(n cap na:Nat)(kz cost dy:Int)(cs:List D)(C:List (List ByteArray))(aw:∀d∈cs,Names 0 0 d)(f_:sq C)(mr:na < 60)(U:List D)(S:List aS)(hk:0<=kz/\kz<=(s.aL.length:Int) - 1)(hr:0<=dy/\dy<=s.dy - 1)(hd:cs.drop (dy.toNat * 4)=cx s.wd.toNat s.rw.toNat s.sl S++U)(bf:cs.length=cap * 4)(hn:n<=cap)(dH:n<=100)(fI:dy < n)(hS:S.length < 12)(iq:dB s.wd.toNat s.rw.toNat s.sl S)(hco:0<=cost/\cost<=1000000)(he:ja s C=0)(l:List (List Int))(Me:l=dM s C)(zq:fp s.wd.toNat s.sl (S++[⟨(nth s.aL kz.toNat).2,(bW l l.length).1,(bW l l.length).2⟩])):
  aH aa 10 [.box 0 0,i64 kz,i64 dy, .list (C.map aX)] [.mu (ay s n cap cost), .mp [], .mu cs] [R0,az na] (aT (i64 0) [.mu (ay s n cap (cost + ox s.to s.tf s.tm (s.fl.length + 1) C.length)), .mp [], .mu (cs.take (dy.toNat * 4)++cx s.wd.toNat s.rw.toNat s.sl (S++[⟨(nth s.aL kz.toNat).2,(bW l l.length).1,(bW l l.length).2⟩])++U)] [R0,az (na + 1)]):=by
 have aM:s.aL.length<=100:=by have:=aW.1;omega
 have dS:0<=s.dy/\s.dy<=100:=by have:=aW.2.1;omega
 have s_:k8 s.fl s.tu s.mo:=aW.2.2.2.2.1;have bE:∀nb nr,bN nb nr cs=true:=λnb nr=>ec λd hd=>eG (aw d hd);have iG:cs.map (gY 1)=cs:=u7 aw;have vG:=f_.n;have th:∀i,i < C.length->(nth C i).length<=1000000:=λi hi=>by have:=(f_.g i hi).1;omega
 subst Me;have iH:(C.any λg=> !gU s.fl.length g)=false:=by
  cases h:(C.any λg=> !gU s.fl.length g)with
  |false=>rfl
  |true=>exfalso;unfold ja at he;rw[if_pos h]at he;exact absurd he aE
 have bz:dM s C≠[]:=λh=>by unfold ja at he;rw[if_neg (by rw[iH];decide),if_pos h]at he;exact absurd he aE
 have ck:=IF s s_ C f_;rw[he,if_neg (by rw[iH];decide)]at ck;have hl:=Ro s_ vG.1 iH;generalize dM s C=l at *;have kS:0 < l.length:=uM.2 bz;have og:=Gt hl l.length (aY _);have hle:=Kf hl l.length kS (aY _);have MJ:∀y x:Int,0<=y->y<=x->x<=99999->dB s.wd.toNat s.rw.toNat s.sl (S++[⟨(nth s.aL kz.toNat).2,y,x⟩]):=λy x h1 h2 h3=>by
  have hs:=aW.2.2.1;have hp:=(aW.2.2.2.1 kz.toNat ae).1;have LS:((s.wd.toNat:Nat):Int)=s.wd:=OO (by have:=hs.1;omega);have pq:((s.rw.toNat:Nat):Int)=s.rw:=OO (by have:=hs.2.1;omega);refine⟨iq.w,iq.r,iq.s,by simp;omega,λi hi=> ?_⟩;by_cases zf:i < S.length
  ·have e:nth (S++[⟨(nth s.aL kz.toNat).2,y,x⟩]) i=nth S i:=by simp[nth,zf,bQ zf]
   rw[e];exact iq.a i zf
  ·have e:nth (S++[(⟨(nth s.aL kz.toNat).2,y,x⟩:aS)]) i=⟨(nth s.aL kz.toNat).2,y,x⟩:=by
    have vu:i=S.length:=by simp at hi;omega
    subst vu;simp[nth]
   rw[e];simp only[LS,pq];exact⟨hp,h1,h2,h3⟩
 have q1:=gC (nr:=2) [.mu [.box 0 0], .mu [.ag 43 [.box 3 0, .box 4 0, .box 5 0, .box 6 0, .box 7 0, .box 8 0]], .mu [.ag 46 [.box 3 0, .box 5 0]], .mu [.ag 47 [.box 8 0, .box 3 0, .box 5 0, .box 4 0, .box 7 0]]] (F7 s R0 n cap na kz cost dy cs (C.map aX) aM dS aw hk hr l hl 0 true true (.inl ⟨rfl,rfl,rfl⟩) ck);have q2:=gC (nr:=2) [.mu [.box 0 0], .mu [.ag 43 [.box 3 0, .box 4 0, .box 5 0, .box 6 0, .box 7 0, .box 8 0]], .mu [.ag 46 [.box 3 0, .box 5 0]], .mu [.ag 47 [.box 8 0, .box 3 0, .box 5 0, .box 4 0, .box 7 0]]] (JV s R0 n cap na kz cost dy cs (C.map aX) aM dS aw (bW l l.length).1 (bW l l.length).2 true U s.wd.toNat s.rw.toNat s.sl S hr hd bf hn dH fI hS);have p0:=gC (nr:=2) [.mu [.box 0 0], .mu [i64 kz], .mu [i64 dy], .mu [.list (C.map aX)], .mu [i64 (bW l l.length).1,i64 (bW l l.length).2], .mu [.bool true]] (KO s R0 n cap na cost dy (nth s.aL kz.toNat).2 (bW l l.length).1 (bW l l.length).2 cs U s.wd.toNat s.rw.toNat s.sl S aw hd bf hn dH ⟨hr.1,fI⟩ ae (MJ _ _ ae hle ae) zq);have q3:=gC (nr:=2) [.mu [.box 0 0], .mu [.ag 43 [.box 3 0, .box 4 0, .box 5 0, .box 6 0, .box 7 0, .box 8 0]], .mu [.ag 46 [.box 3 0, .box 5 0]], .mu [.ag 47 [.box 8 0, .box 3 0, .box 5 0, .box 4 0, .box 7 0]]] (Pj s R0 n cap na kz cost dy cs (C.map aX) aM dS aw (bW l l.length).1 (bW l l.length).2 hk true p0);have fv:=s_.2.2.1;have To:=aW.2.2.2.2.2.1;have cc:=Pn s.to s.tf s.tm To (s.fl.length + 1) C.length ae ae;have zk:0<=ox s.to s.tf s.tm (s.fl.length + 1) C.length/\ox s.to s.tf s.tm (s.fl.length + 1) C.length<=1000000000000:=ajR To ae ae;have c1:=Y5 s n cap cost (.mp []) (.mu cs) (.mu [.box 0 0]) (.mu [i64 kz]) (.mu [i64 dy]) (.mu [.list (C.map aX)]) (.mu [i64 0,i64 0]) (.mu [.bool false]) (.mp []) (.mu cs) (.mu [.box 0 0]) (.mu [i64 kz]) (.mu [i64 dy]) (.mu [.list (C.map aX)]) (.mu [i64 (bW l l.length).1,i64 (bW l l.length).2]) (.mu [.bool true]) R0 na mr 43 46 47 [.box 3 0, .box 4 0, .box 5 0, .box 6 0, .box 7 0, .box 8 0] [.box 3 0, .box 5 0] [.box 8 0, .box 3 0, .box 5 0, .box 4 0, .box 7 0] (by simp only[a7,bE];rfl) (by simp only[a7,bE];rfl) (by simp only[ib,nz,ij,iG];rfl) q1 q2 q3;exact Yu s R0 n cap na kz cost dy cs C aM aw vG th _ _ _ U s.wd.toNat s.rw.toNat s.sl S hr hd bf hn dH fI hS hk ae zk ae c1 cc
theorem Pe (s:aJ)(aW:kJ s)(R0:Row)(n cap na:Nat)(kz cost dy:Int)(cs:List D)(C:List (List ByteArray))(aw:∀d∈cs,Names 0 0 d)(f_:sq C)(mr:na < 60)(U:List D)(S:List aS)(hk:0<=kz/\kz<=(s.aL.length:Int) - 1)(hr:0<=dy/\dy<=s.dy - 1)(hd:cs.drop (dy.toNat * 4)=cx s.wd.toNat s.rw.toNat s.sl S++U)(bf:cs.length=cap * 4)(hn:n<=cap)(dH:n<=100)(fI:dy < n)(hS:S.length < 12)(iq:dB s.wd.toNat s.rw.toNat s.sl S)(ga:ja s C≠0\/(ja s C=0/\∀l,l=dM s C->¬fp s.wd.toNat s.sl (S++[⟨(nth s.aL kz.toNat).2,(bW l l.length).1,(bW l l.length).2⟩]))):∃code:Int,(code=2\/code=7)/\aH aa 10 [.box 0 0,i64 kz,i64 dy, .list (C.map aX)] [.mu (ay s n cap cost), .mp [], .mu cs] [R0,az na] (aT (i64 code) [.mu (ay s n cap cost), .mp [], .mu cs] [R0,az na]):=by
 have aM:s.aL.length<=100:=by have:=aW.1;omega
 have dS:0<=s.dy/\s.dy<=100:=by have:=aW.2.1;omega
 have s_:k8 s.fl s.tu s.mo:=aW.2.2.2.2.1;have bE:∀nb nr,bN nb nr cs=true:=λnb nr=>ec λd hd=>eG (aw d hd);have iG:cs.map (gY 1)=cs:=u7 aw;have vG:=f_.n;have th:∀i,i < C.length->(nth C i).length<=1000000:=λi hi=>by have:=(f_.g i hi).1;omega
 by_cases hb:(C.any λg=> !gU s.fl.length g)=true
 ·refine⟨2, .inl rfl, ?_⟩;have ck:=IF s s_ C f_;have e:ja s C=2:=by unfold ja;rw[if_pos hb]
  rw[e,if_pos hb]at ck;have q1:=gC (nr:=2) [.mu [.box 0 0], .mu [.ag 43 [.box 3 0, .box 4 0, .box 5 0, .box 6 0, .box 7 0, .box 8 0]], .mu [.ag 46 [.box 3 0, .box 5 0]], .mu [.ag 47 [.box 8 0, .box 3 0, .box 5 0, .box 4 0, .box 7 0]]] (F7 s R0 n cap na kz cost dy cs (C.map aX) aM dS aw hk hr [] Va 2 false false (.inr (.inl ⟨rfl,rfl,rfl⟩)) ck);exact F8 s R0 n cap na kz cost dy cs C aM aw vG th 2 _ _ false (.inl rfl) (J4 s n cap cost (.mp []) (.mu cs) (.mu [.box 0 0]) (.mu [i64 kz]) (.mu [i64 dy]) (.mu [.list (C.map aX)]) (.mu [i64 0,i64 0]) (.mu [.bool false]) (.mp []) (.mu cs) (.mu [.box 0 0]) (.mu [i64 kz]) (.mu [i64 dy]) (.mu [.list (C.map aX)]) (.mu [i64 (bW [] 0).1,i64 (bW [] 0).2]) (.mu [.bool false]) R0 na mr 43 46 47 [.box 3 0, .box 4 0, .box 5 0, .box 6 0, .box 7 0, .box 8 0] [.box 3 0, .box 5 0] [.box 8 0, .box 3 0, .box 5 0, .box 4 0, .box 7 0] (by simp only[a7,bE];rfl) (by simp only[a7,bE];rfl) (by simp only[ib,nz,ij,iG];rfl) q1)
 ·have iH:(C.any λg=> !gU s.fl.length g)=false:=by simpa using hb
  refine⟨7, .inr rfl, ?_⟩;by_cases h0:dM s C=[]
  ·have ck:=IF s s_ C f_;have e:ja s C=5:=by unfold ja;rw[if_neg hb,if_pos h0]
   rw[e,if_neg hb,h0]at ck;have q1:=gC (nr:=2) [.mu [.box 0 0], .mu [.ag 43 [.box 3 0, .box 4 0, .box 5 0, .box 6 0, .box 7 0, .box 8 0]], .mu [.ag 46 [.box 3 0, .box 5 0]], .mu [.ag 47 [.box 8 0, .box 3 0, .box 5 0, .box 4 0, .box 7 0]]] (F7 s R0 n cap na kz cost dy cs (C.map aX) aM dS aw hk hr [] Va 5 true false (.inr (.inr ⟨rfl,rfl,rfl⟩)) ck);have q2:=gC (nr:=2) [.mu [.box 0 0], .mu [.ag 43 [.box 3 0, .box 4 0, .box 5 0, .box 6 0, .box 7 0, .box 8 0]], .mu [.ag 46 [.box 3 0, .box 5 0]], .mu [.ag 47 [.box 8 0, .box 3 0, .box 5 0, .box 4 0, .box 7 0]]] (JV s R0 n cap na kz cost dy cs (C.map aX) aM dS aw (bW [] 0).1 (bW [] 0).2 false U s.wd.toNat s.rw.toNat s.sl S hr hd bf hn dH fI hS);have q3:=gC (nr:=2) [.mu [.box 0 0], .mu [.ag 43 [.box 3 0, .box 4 0, .box 5 0, .box 6 0, .box 7 0, .box 8 0]], .mu [.ag 46 [.box 3 0, .box 5 0]], .mu [.ag 47 [.box 8 0, .box 3 0, .box 5 0, .box 4 0, .box 7 0]]] (YA s R0 n cap na kz cost dy cs (C.map aX) aM dS aw (bW [] 0).1 (bW [] 0).2 hk);exact F8 s R0 n cap na kz cost dy cs C aM aw vG th 7 _ _ false (.inr rfl) (PE s n cap cost (.mp []) (.mu cs) (.mu [.box 0 0]) (.mu [i64 kz]) (.mu [i64 dy]) (.mu [.list (C.map aX)]) (.mu [i64 0,i64 0]) (.mu [.bool false]) (.mp []) (.mu cs) (.mu [.box 0 0]) (.mu [i64 kz]) (.mu [i64 dy]) (.mu [.list (C.map aX)]) (.mu [i64 (bW [] 0).1,i64 (bW [] 0).2]) (.mu [.bool false]) R0 na mr 43 46 47 [.box 3 0, .box 4 0, .box 5 0, .box 6 0, .box 7 0, .box 8 0] [.box 3 0, .box 5 0] [.box 8 0, .box 3 0, .box 5 0, .box 4 0, .box 7 0] (by simp only[a7,bE];rfl) (by simp only[a7,bE];rfl) (by simp only[ib,nz,ij,iG];rfl) q1 q2 q3)
  ·have he:ja s C=0:=by unfold ja;rw[if_neg hb,if_neg h0]
   have zq:=(ga.resolve_left λh=>h he).2 _ rfl;clear ga;have bz:dM s C≠[]:=h0;have ck:=IF s s_ C f_;rw[he,if_neg (by rw[iH];decide)]at ck;have hl:=Ro s_ vG.1 iH;generalize dM s C=l at *;have kS:0 < l.length:=uM.2 bz;have og:=Gt hl l.length (aY _);have hle:=Kf hl l.length kS (aY _);have MJ:∀y x:Int,0<=y->y<=x->x<=99999->dB s.wd.toNat s.rw.toNat s.sl (S++[⟨(nth s.aL kz.toNat).2,y,x⟩]):=λy x h1 h2 h3=>by
    have hs:=aW.2.2.1;have hp:=(aW.2.2.2.1 kz.toNat ae).1;have LS:((s.wd.toNat:Nat):Int)=s.wd:=OO (by have:=hs.1;omega);have pq:((s.rw.toNat:Nat):Int)=s.rw:=OO (by have:=hs.2.1;omega);refine⟨iq.w,iq.r,iq.s,by simp;omega,λi hi=> ?_⟩;by_cases zf:i < S.length
    ·have e:nth (S++[⟨(nth s.aL kz.toNat).2,y,x⟩]) i=nth S i:=by simp[nth,zf,bQ zf]
     rw[e];exact iq.a i zf
    ·have e:nth (S++[(⟨(nth s.aL kz.toNat).2,y,x⟩:aS)]) i=⟨(nth s.aL kz.toNat).2,y,x⟩:=by
      have vu:i=S.length:=by simp at hi;omega
      subst vu;simp[nth]
     rw[e];simp only[LS,pq];exact⟨hp,h1,h2,h3⟩
   have q1:=gC (nr:=2) [.mu [.box 0 0], .mu [.ag 43 [.box 3 0, .box 4 0, .box 5 0, .box 6 0, .box 7 0, .box 8 0]], .mu [.ag 46 [.box 3 0, .box 5 0]], .mu [.ag 47 [.box 8 0, .box 3 0, .box 5 0, .box 4 0, .box 7 0]]] (F7 s R0 n cap na kz cost dy cs (C.map aX) aM dS aw hk hr l hl 0 true true (.inl ⟨rfl,rfl,rfl⟩) ck);have q2:=gC (nr:=2) [.mu [.box 0 0], .mu [.ag 43 [.box 3 0, .box 4 0, .box 5 0, .box 6 0, .box 7 0, .box 8 0]], .mu [.ag 46 [.box 3 0, .box 5 0]], .mu [.ag 47 [.box 8 0, .box 3 0, .box 5 0, .box 4 0, .box 7 0]]] (JV s R0 n cap na kz cost dy cs (C.map aX) aM dS aw (bW l l.length).1 (bW l l.length).2 true U s.wd.toNat s.rw.toNat s.sl S hr hd bf hn dH fI hS);have p0:=gC (nr:=2) [.mu [.box 0 0], .mu [i64 kz], .mu [i64 dy], .mu [.list (C.map aX)], .mu [i64 (bW l l.length).1,i64 (bW l l.length).2], .mu [.bool true]] (Q9 s R0 n cap na cost dy (nth s.aL kz.toNat).2 (bW l l.length).1 (bW l l.length).2 cs U s.wd.toNat s.rw.toNat s.sl S aw hd bf hn dH ⟨hr.1,fI⟩ ae (MJ _ _ ae hle ae) zq);have q3:=gC (nr:=2) [.mu [.box 0 0], .mu [.ag 43 [.box 3 0, .box 4 0, .box 5 0, .box 6 0, .box 7 0, .box 8 0]], .mu [.ag 46 [.box 3 0, .box 5 0]], .mu [.ag 47 [.box 8 0, .box 3 0, .box 5 0, .box 4 0, .box 7 0]]] (Pj s R0 n cap na kz cost dy cs (C.map aX) aM dS aw (bW l l.length).1 (bW l l.length).2 hk false p0);exact F8 s R0 n cap na kz cost dy cs C aM aw vG th 7 _ _ true (.inr rfl) (PE s n cap cost (.mp []) (.mu cs) (.mu [.box 0 0]) (.mu [i64 kz]) (.mu [i64 dy]) (.mu [.list (C.map aX)]) (.mu [i64 0,i64 0]) (.mu [.bool false]) (.mp []) (.mu cs) (.mu [.box 0 0]) (.mu [i64 kz]) (.mu [i64 dy]) (.mu [.list (C.map aX)]) (.mu [i64 (bW l l.length).1,i64 (bW l l.length).2]) (.mu [.bool true]) R0 na mr 43 46 47 [.box 3 0, .box 4 0, .box 5 0, .box 6 0, .box 7 0, .box 8 0] [.box 3 0, .box 5 0] [.box 8 0, .box 3 0, .box 5 0, .box 4 0, .box 7 0] (by simp only[a7,bE];rfl) (by simp only[a7,bE];rfl) (by simp only[ib,nz,ij,iG];rfl) q1 q2 q3)
theorem Y4 (k0 m0:Nat)(s:aJ)(nm cap:Nat)(cost:Int)(x1 x2 x3 x4 x5 x6 x7 x8 y1 y2 y3 y4 y5 y6 y7 y8:Bx)(lM lL:Bx)(T:List Bx)(rw:List Row)(fc:FuncId)(cs:List D)(hc:cY aa k0 m0 fc cs (.mu (ay s nm cap cost)::x1::x2::x3::x4::x5::x6::x7::x8:: .mu [.box 0 0]::lM::lL:: .mu [.ag fc cs]::T) rw (aT (.bool true) (.mu (ay s nm cap cost)::y1::y2::y3::y4::y5::y6::y7::y8:: .mu [.box 0 0]::lM::lL:: .mu [.ag fc cs]::T) rw)):cY aa k0 m0 92 [.box 12 0] (.mu (ay s nm cap cost)::x1::x2::x3::x4::x5::x6::x7::x8:: .mu [.box 0 0]::lM::lL:: .mu [.ag fc cs]::T) rw (aT (i64 0) (.mu (ay s nm cap cost)::y1::y2::y3::y4::y5::y6::y7::y8:: .mu [.box 0 0]::lM::lL:: .mu [.ag fc cs]::T) rw):=by
 have c2:=rA true 7;refine xJ Ji Je Jb Jm rfl aO λW0 S0 M0 own β hβ ht=> ?_;repeat'(first|(show av _ (.region 1 _ _) _ _;refine oL k0 m0 1 rfl (λK1 aA=> ?_);refine aj ?_)|(refine aA _ (jL ht hc (bC rfl) rfl rfl rfl rfl ?_);clear aA K1;rintro d aB aD ⟨rfl,rfl,rfl⟩;simp only[aU,Nat.reduceAdd];refine aj ?_)|(show cC _ _ _ _ _;refine aj ?_)|refine aq ?_|refine au λK hK=> ?_|refine cA (c2) ?_|(intro hg;try exact ai)|exact fin|apply af)
theorem Y3 (k0 m0:Nat)(s:aJ)(nm cap:Nat)(cost:Int)(x1 x2 x3 x4 x5 x6 x7 x8 y1 y2 y3 y4 y5 y6 y7 y8:Bx)(lM lL:Bx)(T:List Bx)(rw:List Row)(fc:FuncId)(cs:List D)(hc:cY aa k0 m0 fc cs (.mu (ay s nm cap cost)::x1::x2::x3::x4::x5::x6::x7::x8:: .mu [.box 0 0]::lM::lL:: .mu [.ag fc cs]::T) rw (aT (.bool false) (.mu (ay s nm cap cost)::y1::y2::y3::y4::y5::y6::y7::y8:: .mu [.box 0 0]::lM::lL:: .mu [.ag fc cs]::T) rw)):cY aa k0 m0 92 [.box 12 0] (.mu (ay s nm cap cost)::x1::x2::x3::x4::x5::x6::x7::x8:: .mu [.box 0 0]::lM::lL:: .mu [.ag fc cs]::T) rw (aT (i64 7) (.mu (ay s nm cap cost)::y1::y2::y3::y4::y5::y6::y7::y8:: .mu [.box 0 0]::lM::lL:: .mu [.ag fc cs]::T) rw):=by
 have c2:=rA false 7;refine xJ Ji Je Jb Jm rfl aO λW0 S0 M0 own β hβ ht=> ?_;repeat'(first|(show av _ (.region 1 _ _) _ _;refine oL k0 m0 1 rfl (λK1 aA=> ?_);refine aj ?_)|(refine aA _ (jL ht hc (bC rfl) rfl rfl rfl rfl ?_);clear aA K1;rintro d aB aD ⟨rfl,rfl,rfl⟩;simp only[aU,Nat.reduceAdd];refine aj ?_)|(show cC _ _ _ _ _;refine aj ?_)|refine aq ?_|refine au λK hK=> ?_|refine cA (c2) ?_|(intro hg;try exact ai)|exact fin|apply af)
theorem Y1 (k0 m0:Nat)(s:aJ)(nm cap:Nat)(cost:Int)(x1 x2 x3 x4 x5 x6 x7 x8 y1 y2 y3 y4 y5 y6 y7 y8:Bx)(R0:Row)(k:Nat)(hk:k < 60)(fr fn fh:FuncId)(cG cJ cK:List D)(dD:a7 9 2 [y1,y2,y3,y4,y5,y6,y7,y8]=true)(uj:a7 10 2 [y1,y2,y3,y4,y5,y6,y7,y8, .mu [.box 0 0]]=true)(jF:[y1,y2,y3,y4,y5,y6,y7,y8].map (ij 1)=[y1,y2,y3,y4,y5,y6,y7,y8])
  (hr:aH aa fr cG (.mu (ay s nm cap cost)::x1::x2::x3::x4::x5::x6::x7::x8:: .mu [.box 0 0]:: .mu [.ag fr cG]:: .mu [.ag fn cJ]:: .mu [.ag fh cK]::[]) [R0,az k] (aT (.bool true) (.mu (ay s nm cap cost)::y1::y2::y3::y4::y5::y6::y7::y8:: .mu [.box 0 0]:: .mu [.ag fr cG]:: .mu [.ag fn cJ]:: .mu [.ag fh cK]::[]) [R0,az k]))
  (hn:aH aa fn cJ (.mu (ay s nm cap cost)::y1::y2::y3::y4::y5::y6::y7::y8:: .mu [.box 0 0]:: .mu [.ag fr cG]:: .mu [.ag fn cJ]:: .mu [.ag fh cK]::[]) [R0,az k] (aT (.bool true) (.mu (ay s nm cap cost)::y1::y2::y3::y4::y5::y6::y7::y8:: .mu [.box 0 0]:: .mu [.ag fr cG]:: .mu [.ag fn cJ]:: .mu [.ag fh cK]::[]) [R0,az k]))
  (hh:cY aa k0 m0 fh cK (.mu (ay s nm cap cost)::y1::y2::y3::y4::y5::y6::y7::y8:: .mu [.box 0 0]:: .mu [.ag fr cG]:: .mu [.ag fn cJ]:: .mu [.ag fh cK]::[]) [R0,az k] (aT (.bool true) (.mu (ay s nm cap cost)::y1::y2::y3::y4::y5::y6::y7::y8:: .mu [.box 0 0]:: .mu [.ag fr cG]:: .mu [.ag fn cJ]:: .mu [.ag fh cK]::[]) [R0,az k])):
  cY aa k0 m0 32 [.box 0 0, .any, .ag fr cG, .ag fn cJ, .ag fh cK] [.mu (ay s nm cap cost),x1,x2,x3,x4,x5,x6,x7,x8] [R0,az k] (aT (i64 0) [.mu (ay s nm cap cost),y1,y2,y3,y4,y5,y6,y7,y8] [R0,az (k + 1)]):=by
 have qh:a7 9 2 [.mu (ay s nm cap cost),y1,y2,y3,y4,y5,y6,y7,y8]=true:=dD;have d1:=CG s nm cap cost x1 x2 x3 x4 x5 x6 x7 x8 (.mu [.ag fr cG]:: .mu [.ag fn cJ]:: .mu [.ag fh cK]::[]) [R0,az k];have d2:=Gj s nm cap cost x1 x2 x3 x4 x5 x6 x7 x8 y1 y2 y3 y4 y5 y6 y7 y8 (.mu [.ag fn cJ]:: .mu [.ag fh cK]::[]) [R0,az k] fr cG hr;have d3:=Gi s nm cap cost y1 y2 y3 y4 y5 y6 y7 y8 (.mu [.ag fr cG]) (.mu [.ag fh cK]::[]) R0 k hk fn cJ hn;have d4:=Y4 k0 m0 s nm cap cost y1 y2 y3 y4 y5 y6 y7 y8 y1 y2 y3 y4 y5 y6 y7 y8 (.mu [.ag fr cG]) (.mu [.ag fn cJ]) [] [R0,az k] fh cK hh;refine xJ Fi Fg Ff Fl rfl aO λW0 S0 M0 own β hβ ht=> ?_;repeat'(first|(show av _ (.loop _) _ _;refine sn 5 ?_)|refine bh ?_|((first|refine bj λK hK=> ?_|refine bg ?_|show bb _ _ _ _ _);(refine sX (af @mM (af @mN (af @mL (af @mR (@me))))) ?_))|(intro hg;try exact ai)|exact fin|apply af)
 repeat'(first|(show av _ (.region 8 _ true) _ _;refine bJ ?_)|(refine sJ ?_)|(show av _ (.region 4 _ _) _ _;refine oL k0 m0 1 rfl (λK1 aA=> ?_);(refine sX (af @mM (af @mN (af @mL (af @mR (@me))))) ?_))|(refine aA _ ?_;clear aA K1;(first|(refine jL ht (aH.tie k0 m0 d1) (bC rfl) rfl rfl rfl rfl ?_)|(refine jL ht (aH.tie k0 m0 d2) (bC rfl) rfl rfl rfl rfl ?_)|(refine jL ht (aH.tie k0 m0 d3) (bC rfl) rfl rfl rfl rfl ?_)|(refine jL ht d4 (bC rfl) rfl rfl rfl rfl ?_));rintro d aB aD ⟨rfl,rfl,rfl⟩;simp only[aU,Nat.reduceAdd];(refine sX (af @mM (af @mN (af @mL (af @mR (@me))))) ?_))|refine bh ?_|((first|refine bj λK hK=> ?_|refine bg ?_|show bb _ _ _ _ _);(refine sX (af @mM (af @mN (af @mL (af @mR (@me))))) ?_))|(intro hg;try exact ai)|exact fin|apply af)
 refine b_ ?_;refine nv (cR 38 [(1, .any),(5, .box 9 0)] [.mu (ay s nm cap cost),y1,y2,y3,y4,y5,y6,y7,y8, .mu [.box 0 0]] [R0,az k]) (br rfl (by simp[put]) ⟨[_,_,_],rfl⟩ ⟨[],rfl⟩) (ik rfl uj) (by rw[hβ];exact Nat.le_succ _) ?_;refine PD (by rfl) _ _ _ _ _ s nm cap cost y1 y2 y3 y4 y5 y6 y7 y8 R0 k hk jF _ ?_;simp only[e_,cond_true,me];repeat'(first|(show av _ .ret _ _;refine bJ ?_)|refine bh ?_|((first|refine bj λK hK=> ?_|refine bg ?_|show bb _ _ _ _ _);(refine sX (af @mM (af @mN (af @mL (af @mR (@me))))) ?_))|(intro hg;try exact ai)|exact fin|apply af)
 refine b_ ?_;refine nv (cR 38 [(10,i64 0)] [.mu (ay s nm cap cost),y1,y2,y3,y4,y5,y6,y7,y8] [R0,az (k + 1)]) (br rfl (by simp[put]) ⟨[_],rfl⟩ ⟨[],rfl⟩) (ik rfl qh) (by rw[hβ];exact aY _) ?_;refine tp ?_;exact⟨rfl,rfl,rfl⟩
theorem Y2 (k0 m0:Nat)(s:aJ)(nm cap:Nat)(cost:Int)(x1 x2 x3 x4 x5 x6 x7 x8 y1 y2 y3 y4 y5 y6 y7 y8:Bx)(R0:Row)(k:Nat)(hk:k < 60)(fr fn fh:FuncId)(cG cJ cK:List D)(dD:a7 9 2 [y1,y2,y3,y4,y5,y6,y7,y8]=true)(uj:a7 10 2 [y1,y2,y3,y4,y5,y6,y7,y8, .mu [.box 0 0]]=true)(jF:[y1,y2,y3,y4,y5,y6,y7,y8].map (ij 1)=[y1,y2,y3,y4,y5,y6,y7,y8])
  (hr:aH aa fr cG (.mu (ay s nm cap cost)::x1::x2::x3::x4::x5::x6::x7::x8:: .mu [.box 0 0]:: .mu [.ag fr cG]:: .mu [.ag fn cJ]:: .mu [.ag fh cK]::[]) [R0,az k] (aT (.bool true) (.mu (ay s nm cap cost)::y1::y2::y3::y4::y5::y6::y7::y8:: .mu [.box 0 0]:: .mu [.ag fr cG]:: .mu [.ag fn cJ]:: .mu [.ag fh cK]::[]) [R0,az k]))
  (hn:aH aa fn cJ (.mu (ay s nm cap cost)::y1::y2::y3::y4::y5::y6::y7::y8:: .mu [.box 0 0]:: .mu [.ag fr cG]:: .mu [.ag fn cJ]:: .mu [.ag fh cK]::[]) [R0,az k] (aT (.bool true) (.mu (ay s nm cap cost)::y1::y2::y3::y4::y5::y6::y7::y8:: .mu [.box 0 0]:: .mu [.ag fr cG]:: .mu [.ag fn cJ]:: .mu [.ag fh cK]::[]) [R0,az k]))
  (hh:cY aa k0 m0 fh cK (.mu (ay s nm cap cost)::y1::y2::y3::y4::y5::y6::y7::y8:: .mu [.box 0 0]:: .mu [.ag fr cG]:: .mu [.ag fn cJ]:: .mu [.ag fh cK]::[]) [R0,az k] (aT (.bool false) (.mu (ay s nm cap cost)::y1::y2::y3::y4::y5::y6::y7::y8:: .mu [.box 0 0]:: .mu [.ag fr cG]:: .mu [.ag fn cJ]:: .mu [.ag fh cK]::[]) [R0,az k])):
  cY aa k0 m0 32 [.box 0 0, .any, .ag fr cG, .ag fn cJ, .ag fh cK] [.mu (ay s nm cap cost),x1,x2,x3,x4,x5,x6,x7,x8] [R0,az k] (aT (i64 7) [.mu (ay s nm cap cost),y1,y2,y3,y4,y5,y6,y7,y8] [R0,az k]):=by
 have qh:a7 9 2 [.mu (ay s nm cap cost),y1,y2,y3,y4,y5,y6,y7,y8]=true:=dD;have d1:=CG s nm cap cost x1 x2 x3 x4 x5 x6 x7 x8 (.mu [.ag fr cG]:: .mu [.ag fn cJ]:: .mu [.ag fh cK]::[]) [R0,az k];have d2:=Gj s nm cap cost x1 x2 x3 x4 x5 x6 x7 x8 y1 y2 y3 y4 y5 y6 y7 y8 (.mu [.ag fn cJ]:: .mu [.ag fh cK]::[]) [R0,az k] fr cG hr;have d3:=Gi s nm cap cost y1 y2 y3 y4 y5 y6 y7 y8 (.mu [.ag fr cG]) (.mu [.ag fh cK]::[]) R0 k hk fn cJ hn;have d4:=Y3 k0 m0 s nm cap cost y1 y2 y3 y4 y5 y6 y7 y8 y1 y2 y3 y4 y5 y6 y7 y8 (.mu [.ag fr cG]) (.mu [.ag fn cJ]) [] [R0,az k] fh cK hh;refine xJ Fi Fg Ff Fl rfl aO λW0 S0 M0 own β hβ ht=> ?_;repeat'(first|(show av _ (.loop _) _ _;refine sn 5 ?_)|refine aq ?_|refine au λK hK=> ?_|(intro hg;try exact ai)|exact fin|apply af)
 repeat'(first|(show av _ .ret _ _;refine bJ ?_)|(refine sJ ?_)|(show av _ (.region 4 _ _) _ _;refine oL k0 m0 1 rfl (λK1 aA=> ?_);refine aj ?_)|(refine aA _ ?_;clear aA K1;(first|(refine jL ht (aH.tie k0 m0 d1) (bC rfl) rfl rfl rfl rfl ?_)|(refine jL ht (aH.tie k0 m0 d2) (bC rfl) rfl rfl rfl rfl ?_)|(refine jL ht (aH.tie k0 m0 d3) (bC rfl) rfl rfl rfl rfl ?_)|(refine jL ht d4 (bC rfl) rfl rfl rfl rfl ?_));rintro d aB aD ⟨rfl,rfl,rfl⟩;simp only[aU,Nat.reduceAdd];refine aj ?_)|refine aq ?_|refine au λK hK=> ?_|(intro hg;try exact ai)|exact fin|apply af)
 refine b_ ?_;refine nv (cR 38 [(10,i64 7)] [.mu (ay s nm cap cost),y1,y2,y3,y4,y5,y6,y7,y8] [R0,az k]) (br rfl (by simp[put]) ⟨[_,_,_,_],rfl⟩ ⟨[],rfl⟩) (ik rfl qh) (by rw[hβ];exact aY _) ?_;refine tp ?_;exact⟨rfl,rfl,rfl⟩
def Jo (q1 q2 q3 q4 q5:Bool):Prop:=(q1=true/\q2=true/\q3=true/\q4=true/\q5=true)\/(q1=true/\q2=true/\q3=true/\q4=true/\q5=false)\/(q1=true/\q2=true/\q3=true/\q4=false/\q5=false)\/(q1=true/\q2=true/\q3=false/\q4=false/\q5=false)\/(q1=true/\q2=false/\q3=false/\q4=false/\q5=false)\/(q1=false/\q2=false/\q3=false/\q4=false/\q5=false)
theorem abj {ops:Array Oper}(bP:ops=dA Tryz.f33 1)(w0:World)(S0:Addr->Prop)(e9:MM)(own:Nat->Prop)(β:List Nat)(s:aJ)(R0:Row)(n cap na:Nat)(kz cost dy pt lo hi:Int)(cs:List D)(es:List (D×D))(q1 q2 q3 q4 q5:Bool)(hwd:0<=s.wd/\s.wd<=6)(ml:0<=s.rw/\s.rw<=5)(Ti:0<=s.wd * s.rw/\s.wd * s.rw<=30)(hq:Jo q1 q2 q3 q4 q5)(c0:ak aa 34 [i64 kz,i64 0,i64 99] (.bool true))(c2:aH aa 35 [.box 0 0,i64 dy] [.mu (ay s n cap cost), .mp [], .mu cs, .mp es, .mu [.box 0 0], .mu [i64 kz], .mu [i64 dy], .mu [i64 pt], .mu [i64 lo,i64 hi], .mu [.box 0 0], .mu [.ag 33 [.box 5 0, .box 4 0, .box 6 0, .box 7 0, .box 8 0]], .mu [.ag 36 [.box 4 0, .box 6 0]], .mu [.ag 38 [.box 4 0, .box 6 0, .box 5 0, .box 7 0, .box 8 0]]] [R0,az na] (aT (.bool q1) [.mu (ay s n cap cost), .mp [], .mu cs, .mp es, .mu [.box 0 0], .mu [i64 kz], .mu [i64 dy], .mu [i64 pt], .mu [i64 lo,i64 hi], .mu [.box 0 0], .mu [.ag 33 [.box 5 0, .box 4 0, .box 6 0, .box 7 0, .box 8 0]], .mu [.ag 36 [.box 4 0, .box 6 0]], .mu [.ag 38 [.box 4 0, .box 6 0, .box 5 0, .box 7 0, .box 8 0]]] [R0,az na]))(c1:q1=true->ak aa 34 [i64 pt,i64 0,i64 (s.wd * s.rw - 1)] (.bool q2))(h3:q2=true->q3=decide (0<=lo))(h4:q3=true->q4=decide (lo<=hi))(h5:q4=true->q5=decide (hi<=99999)):
  jN ⟨aa,w0,S0,e9,none,own,β⟩ 1 ops 46 [(0,6,λL=>i64 kz),(1,7,λL=> .bool true),(2,8,λL=> .bool true),(3,9,λL=> .box 0 0),(4,10,λL=>i64 dy),(5,11,λL=> .bool q1),(6,12,λL=> .bool q1),(7,13,λL=> .bool q1),(8,14,λL=>bif q1 then i64 pt else .skp),(9,15,λL=>bif q1 then .box 0 0 else .skp),(10,16,λL=>bif q1 then .box 0 0 else .skp),(11,17,λL=>bif q1 then .box 0 0 else .skp),(12,18,λL=>bif q1 then .box 0 7 else .skp),(13,19,λL=>bif q1 then i64 s.wd else .skp),(14,20,λL=>bif q1 then .box 0 0 else .skp),(15,21,λL=>bif q1 then .box 0 0 else .skp),(16,22,λL=>bif q1 then .box 0 0 else .skp),(17,23,λL=>bif q1 then .box 0 8 else .skp),(18,24,λL=>bif q1 then i64 s.rw else .skp),(19,25,λL=>bif q1 then i64 (s.wd * s.rw)else .skp),(20,26,λL=>bif q1 then i64 (s.wd * s.rw - 1)else .skp),(21,27,λL=>bif q1 then .bool q2 else .skp),(22,28,λL=> .bool q2),(23,29,λL=> .bool q2),(24,30,λL=>bif q2 then .box 8 0 else .skp),(25,31,λL=>bif q2 then i64 lo else .skp),(26,32,λL=>bif q2 then .bool q3 else .skp),(27,33,λL=> .bool q3),(28,34,λL=> .bool q3),(29,35,λL=>bif q3 then .box 8 0 else .skp),(30,36,λL=>bif q3 then i64 lo else .skp),(31,37,λL=>bif q3 then .box 8 1 else .skp),(32,38,λL=>bif q3 then i64 hi else .skp),(33,39,λL=>bif q3 then .bool q4 else .skp),(34,40,λL=> .bool q4),(35,41,λL=> .bool q4),(36,42,λL=>bif q4 then .box 8 1 else .skp),(37,43,λL=>bif q4 then i64 hi else .skp),(38,44,λL=>bif q4 then .bool q5 else .skp),(39,45,λL=> .bool q5),(40,5,λL=> .bool q5)] [(0, .box 5 0),(1, .box 4 0),(2, .box 6 0),(3, .box 7 0),(4, .box 8 0),(5, .bool false)] (λL=>[.mu (ay s n cap cost), .mp [], .mu cs, .mp es, .mu [.box 0 0], .mu [i64 kz], .mu [i64 dy], .mu [i64 pt], .mu [i64 lo,i64 hi], .mu [.box 0 0], .mu [.ag 33 [.box 5 0, .box 4 0, .box 6 0, .box 7 0, .box 8 0]], .mu [.ag 36 [.box 4 0, .box 6 0]], .mu [.ag 38 [.box 4 0, .box 6 0, .box 5 0, .box 7 0, .box 8 0]]]) (λL=>[R0,az na]):=by
 unfold Jo at hq;rcases hq with⟨qf,mZ,g_,vm,A5⟩|⟨qf,mZ,g_,vm,A5⟩|⟨qf,mZ,g_,vm,A5⟩|⟨qf,mZ,g_,vm,A5⟩|⟨qf,mZ,g_,vm,A5⟩|⟨qf,mZ,g_,vm,A5⟩;all_goals
  try have c1:=c1 qf
  have hE:=(af @qf (af @mZ (af @g_ (af @vm (af @A5 (af (λh=>(h3 h).symm) (af (λh=>(h4 h).symm) (λh=>(h5 h).symm))))))));simp only[dA,eH,e8,Tryz.f33,fw,Nat.reduceBEq,bK,if_false,if_true,eI,eu,eR,iC,reduceIte,eq_self]at bP;subst bP;exact jY Tryz.ty.mixed rfl [(0,[]),(1,[1]),(2,[3]),(3,[5]),(4,[5]),(5,[5,7,9]),(6,[5,11]),(7,[13]),(8,[15]),(9,[15]),(10,[15,19]),(11,[15,21]),(12,[15,23]),(13,[15,25]),(14,[15]),(15,[15,29]),(16,[15,31]),(17,[15,33]),(18,[15,35]),(19,[15,27,37]),(20,[15,39]),(21,[15,17,41]),(22,[15,43]),(23,[45]),(24,[47]),(25,[47,49]),(26,[47,51]),(27,[47,53]),(28,[55]),(29,[57]),(30,[57,59]),(31,[57]),(32,[57,63]),(33,[57,61,65]),(34,[57,67]),(35,[69]),(36,[71]),(37,[71,73]),(38,[71,75]),(39,[71,77]),(40,[79])] [] ax rfl rfl iv js iw
abbrev abc (k:Int):D×D:=(i64 k, .bool true)
abbrev db (A:List Int):List (D×D):=A.map abc
abbrev dC (xs:List D):Row:=⟨true,95,1,xs⟩
theorem abb {A:List Int}{k:Int}(h:k∉A):kR (i64 k) (db A)=none:=by
 induction A with
 |nil=>rfl
 |cons a A ih=>
  simp only[eK,not_or]at h;show(bif jl (i64 a) (i64 k)then _ else _)=_;have:jl (i64 a) (i64 k)=false:=by
   simp[jl];omega
  rw[this];exact ih h.2
theorem aba {A:List Int}{k:Int}(h:k∉A):nP (i64 k) (.bool true) (db A)=db (A++[k]):=by
 induction A with
 |nil=>rfl
 |cons a A ih=>
  simp only[eK,not_or]at h;show(bif jl (i64 a) (i64 k)then _ else _)=_;have:jl (i64 a) (i64 k)=false:=by
   simp[jl];omega
  rw[this];show _::nP _ _ _=_;rw[ih h.2];rfl
theorem P6 (A:List Int):((db A).all λp=>decide (jB p.fst=some sy.num))=true:=by
 rw[iD];intro p hp;obtain⟨k,_,rfl⟩:=eJ.1 hp;rfl
theorem P2 {nb:Nat}{L V V':Nat->Bool}{b:Nat->D}(hb:j4 nb b=b):∀{T:fm},(∀e∈T,L e.1=true->iJ nb (e.2.2 V)=e.2.2 V')->j4 nb (bq L V T b)=bq L V' T b
 |[],_=>hb
 |e::T,h=>by
  have h1:=h e (List.mem_cons_self ..);have h2:=P2 (L:=L) hb λx hx=>h x (List.mem_cons_of_mem _ hx);simp only[bq];cases hL:L e.1 with
  |false=>simp only[cond_false];exact h2
  |true=>
   simp only[cond_true];rw[aiU,h2,h1 hL]
theorem Qb (s:aJ)(R0:Row)(n cap na:Nat)(kz cost dy pt lo hi:Int)(cs:List D)(es:List (D×D))(U:List D)(W R:Nat)(sl:Int)(S:List aS)(hr:0<=dy/\dy<=s.dy - 1)(hd:cs.drop (dy.toNat * 4)=i64 (W:Nat)::i64 (R:Nat)::i64 sl:: .list (S.map dU)::U)(bf:cs.length=cap * 4)(hn:n<=cap)(dH:n<=100)(fI:dy < n)(hS:S.length < 12):aH aa 36 [.box 4 0, .box 6 0] [.mu (ay s n cap cost), .mp [], .mu cs, .mp es, .mu [.box 0 0], .mu [i64 kz], .mu [i64 dy], .mu [i64 pt], .mu [i64 lo,i64 hi], .mu [.box 0 0], .mu [.ag 33 [.box 5 0, .box 4 0, .box 6 0, .box 7 0, .box 8 0]], .mu [.ag 36 [.box 4 0, .box 6 0]], .mu [.ag 38 [.box 4 0, .box 6 0, .box 5 0, .box 7 0, .box 8 0]]] [R0,az na] (aT (.bool true) [.mu (ay s n cap cost), .mp [], .mu cs, .mp es, .mu [.box 0 0], .mu [i64 kz], .mu [i64 dy], .mu [i64 pt], .mu [i64 lo,i64 hi], .mu [.box 0 0], .mu [.ag 33 [.box 5 0, .box 4 0, .box 6 0, .box 7 0, .box 8 0]], .mu [.ag 36 [.box 4 0, .box 6 0]], .mu [.ag 38 [.box 4 0, .box 6 0, .box 5 0, .box 7 0, .box 8 0]]] [R0,az na]):=by
 have c1:=Kw s n cap cost dy cs U _ _ _ S [R0,az na] hd bf hn dH ⟨hr.1,fI⟩ (.mp es:: .mu [.box 0 0]:: .mu [i64 kz]:: .mu [i64 dy]:: .mu [i64 pt]:: .mu [i64 lo,i64 hi]:: .mu [.box 0 0]:: .mu [.ag 33 [.box 5 0, .box 4 0, .box 6 0, .box 7 0, .box 8 0]]:: .mu [.ag 36 [.box 4 0, .box 6 0]]:: .mu [.ag 38 [.box 4 0, .box 6 0, .box 5 0, .box 7 0, .box 8 0]]::[]);rw[decide_eq_true ae]at c1;refine cU func36 ntmps36 results36 call36 λW0 S0 M0 own β hβ=> ?_;repeat'(first|(show av _ (.region 1 _ _) _ _;refine et 2 rfl (λK1 aA=> ?_);refine aj ?_)|(refine aA _ (eZ c1 ?_);simp only[aU,Nat.reduceAdd];refine aj ?_)|(show cC _ _ _ _ _;refine aj ?_)|refine aq ?_|refine au λK hK=> ?_|(intro hg;try exact ai)|exact fin|apply af)
theorem abi {ops:Array Oper}(bP:ops=dA Tryz.f38 1)(w0:World)(S0:Addr->Prop)(e9:MM)(own:Nat->Prop)(β:List Nat)(s:aJ)(n cap na m0:Nat)(kz cost dy pt lo hi:Int)(cs xs:List D)(A:List Int)(qb:β[3]? =some m0)(hA:kz∉A)(dS:0<=dy/\dy < xs.length)(mX:xs.length<=100)(hx:xs[dy.toNat]? =some (.val (.map (some m0))))(pb:Bool)(hc:aH aa 39 [.box 0 0,i64 dy,i64 pt, .agg [i64 lo,i64 hi]] [.mu (ay s n cap cost), .mp [], .mu cs, .mp (db A), .mu [.box 0 0], .mu [i64 kz], .mu [i64 dy], .mu [i64 pt], .mu [i64 lo,i64 hi], .mu [.box 0 0], .mu [.ag 33 [.box 5 0, .box 4 0, .box 6 0, .box 7 0, .box 8 0]], .mu [.ag 36 [.box 4 0, .box 6 0]], .mu [.ag 38 [.box 4 0, .box 6 0, .box 5 0, .box 7 0, .box 8 0]]] [dC xs,az na] (aT (.bool pb) [.mu (ay s n cap cost), .mp [], .mu cs, .mp (db A), .mu [.box 0 0], .mu [i64 kz], .mu [i64 dy], .mu [i64 pt], .mu [i64 lo,i64 hi], .mu [.box 0 0], .mu [.ag 33 [.box 5 0, .box 4 0, .box 6 0, .box 7 0, .box 8 0]], .mu [.ag 36 [.box 4 0, .box 6 0]], .mu [.ag 38 [.box 4 0, .box 6 0, .box 5 0, .box 7 0, .box 8 0]]] [dC xs,az na])):
  jN ⟨aa,w0,S0,e9,none,own,β⟩ 1 ops 23 [(0,6,λL=> .box 0 0),(1,7,λL=> .box 0 0),(2,8,λL=> .box 0 26),(3,9,λL=>bif L 15 then .undef else .own 0),(4,10,λL=>i64 dy),(5,11,λL=> .ro [.val (.map (some m0))]),(6,12,λL=> .bu 3),(7,13,λL=>i64 kz),(8,14,λL=> .bool false),(9,15,λL=> .bool true),(10,16,λL=> .bool true),(11,17,λL=> .box 0 0),(12,18,λL=>i64 dy),(13,19,λL=>i64 pt),(14,20,λL=> .agg [i64 lo,i64 hi]),(15,21,λL=> .bool pb),(16,22,λL=> .bool pb),(17,5,λL=> .bool pb)] [(0, .box 4 0),(1, .box 6 0),(2, .box 5 0),(3, .box 7 0),(4, .box 8 0),(5, .bool false)] (λL=>[.mu (ay s n cap cost), .mp [], .mu cs, .mp (db A), .mu [.box 0 0], .mu [i64 kz], .mu [i64 dy], .mu [i64 pt], .mu [i64 lo,i64 hi], .mu [.box 0 0], .mu [.ag 33 [.box 5 0, .box 4 0, .box 6 0, .box 7 0, .box 8 0]], .mu [.ag 36 [.box 4 0, .box 6 0]], .mu [.ag 38 [.box 4 0, .box 6 0, .box 5 0, .box 7 0, .box 8 0]]]) (λL=>[dC xs,az na]):=by
 have hs:=P6 A;have hE:=(abb hA);simp only[dA,eH,e8,Tryz.f38,fw,Nat.reduceBEq,bK,if_false,if_true,eI,eu,eR,iC,reduceIte,eq_self]at bP;subst bP;refine jY Tryz.ty.mixed rfl [(0,[30]),(1,[1,30]),(2,[3,30]),(3,[5,30]),(4,[30]),(5,[7,9,30]),(6,[11,30]),(7,[30]),(8,[13,15,30]),(9,[17,30]),(10,[19,30]),(11,[21,30]),(12,[21,30]),(13,[21,30]),(14,[21,30]),(16,[21,31]),(17,[31,33])] [(15,[21,23,25,27,29])] ax rfl rfl iv ?_ iw;intro T b hT hb pk pj;have hR:∀L m,bq L L T b m=pS L L _ b m:=λL m=>yy (F:=L) (V:=L) (b:=b) hT m;simp only[Jw,ny,false_implies,implies_true,and_true];intro L o hX ho;cases ho;obtain⟨hL,hX⟩:=hX
 replace hX:=af hL hX
 simp only[FA,Nat.reduceDiv,Nat.reduceMod,Nat.reduceBEq,and_true]at hX;have f:∀m,bq L L T b m=_:=hR L;simp only[hX,congrFun hb,l_,lZ,cond_true,cond_false]at f;refine fS.on (t:=16) rfl rfl (f 16) ?_;have h9:bq (more L 15) (more L 15) T b=put (bq L (more L 15) T b) 21 (.bool pb):=Gw hL pk pj (show(15,21,λL=> .bool pb)∈T by rw[hT];simp);have nk:j4 13 (bq L L T b)=bq L (more L 15) T b:=P2 (by rw[hb];exact Nv (Kh rfl)) (by rw[hT];simp only[Jw,ny,false_implies,implies_true,and_true];(repeat' apply af)<;>exact λ_=>by(try simp only[hL,jS,cond_true,cond_false]);rfl);rw[h9];refine aP.vd (iK hc (bC rfl) rfl (by show[bq L L T b 17,bq L L T b 18,bq L L T b 19,bq L L T b 20]=_;simp only[f];rfl) rfl rfl ?_);rintro d aB aD ⟨rfl,rfl,rfl⟩;show bX _ (St.put ⟨23,j4 13 (bq L L T b),_,_⟩ _ _) _;rw[nk];exact bX.of_eq rfl
def tN (s:aJ)(dy pt lo hi:Int):Bool:=decide (0<=dy/\dy<=s.dy - 1)&&(decide (0<=pt/\pt<=s.wd * s.rw - 1)&&(decide (0<=lo)&&(decide (lo<=hi)&&decide (hi<=99999))))
theorem adl (a b c d e:Bool):Jo a (a&&b) (a&&(b&&c)) (a&&(b&&(c&&d))) (a&&(b&&(c&&(d&&e)))):=by
 unfold Jo;cases a<;>cases b<;>cases c<;>cases d<;>cases e<;>simp
theorem nH (nb:Nat)(A:List Int):((db A).all λp=>cq nb 0 p.1&&cq nb 0 p.2)=true:=by
 rw[iD];intro p hp;obtain⟨k,_,rfl⟩:=eJ.1 hp;rfl
theorem NW {P:Program}{k m:Nat}{f:FuncId}{ds:List D}{bx cH:List Bx}{rw fF:List Row}{d0:D}(h:cY P k m f ds bx rw (PJ d0 cH fF))(hn:cq cH.length fF.length d0=true)(hb:a7 cH.length fF.length cH=true)(hl:bx.length<=cH.length):cY P k m f ds bx rw (aT d0 cH fF):=by
 refine akA h ?_;rintro d aB aD ⟨rfl,⟨tl,rfl⟩,⟨tr,rfl⟩⟩;exact⟨cH,tl,fF,tr,rfl,rfl,t_ _ hn,hb,hl,rfl,rfl,rfl⟩
theorem Kn (s:aJ)(R0:Row)(n cap na:Nat)(kz cost dy pt lo hi:Int)(cs:List D)(es:List (D×D))(dS:0<=s.dy/\s.dy<=100)(aR:oN s)(hk:0<=kz/\kz<=99):aH aa 33 [.box 5 0, .box 4 0, .box 6 0, .box 7 0, .box 8 0] [.mu (ay s n cap cost), .mp [], .mu cs, .mp es, .mu [.box 0 0], .mu [i64 kz], .mu [i64 dy], .mu [i64 pt], .mu [i64 lo,i64 hi], .mu [.box 0 0], .mu [.ag 33 [.box 5 0, .box 4 0, .box 6 0, .box 7 0, .box 8 0]], .mu [.ag 36 [.box 4 0, .box 6 0]], .mu [.ag 38 [.box 4 0, .box 6 0, .box 5 0, .box 7 0, .box 8 0]]] [R0,az na] (aT (.bool (tN s dy pt lo hi)) [.mu (ay s n cap cost), .mp [], .mu cs, .mp es, .mu [.box 0 0], .mu [i64 kz], .mu [i64 dy], .mu [i64 pt], .mu [i64 lo,i64 hi], .mu [.box 0 0], .mu [.ag 33 [.box 5 0, .box 4 0, .box 6 0, .box 7 0, .box 8 0]], .mu [.ag 36 [.box 4 0, .box 6 0]], .mu [.ag 38 [.box 4 0, .box 6 0, .box 5 0, .box 7 0, .box 8 0]]] [R0,az na]):=by
 have c0:=Df kz 0 99;rw[decide_eq_true hk]at c0;have Ti:0<=s.wd * s.rw/\s.wd * s.rw<=30:=by
  obtain⟨h1,h2,_⟩:=aR;constructor
  ·exact wb ae ae
  ·exact Int.mul_le_mul (c:=6) (d:=5) ae ae ae ae
 have c1:=Df pt 0 (s.wd * s.rw - 1);have c2:=AR s (.aN 2 0 n cap) (.own 0) (.bu 1) cost (.own 1) dS dy (.mp []:: .mu cs:: .mp es:: .mu [.box 0 0]:: .mu [i64 kz]:: .mu [i64 dy]:: .mu [i64 pt]:: .mu [i64 lo,i64 hi]:: .mu [.box 0 0]:: .mu [.ag 33 [.box 5 0, .box 4 0, .box 6 0, .box 7 0, .box 8 0]]:: .mu [.ag 36 [.box 4 0, .box 6 0]]:: .mu [.ag 38 [.box 4 0, .box 6 0, .box 5 0, .box 7 0, .box 8 0]]::[]) [R0,az na];obtain⟨h1,h2,_⟩:=aR;refine cU func33 ntmps33 results33 call33 λW0 S0 M0 own β hβ=> ?_;repeat'(first|(show av _ (.region 1 _ true) _ _;refine bJ ?_)|refine aq ?_|refine au λK hK=> ?_|(intro hg;try exact ai)|exact fin|apply af)
 refine b_ ?_;refine ep (jQ [(0, .box 5 0),(1, .box 4 0),(2, .box 6 0),(3, .box 7 0),(4, .box 8 0),(5, .bool false)] (by simp[put])) ?_;refine abj (by rfl) W0 S0 M0 own β s R0 n cap na kz cost dy pt lo hi cs es _ _ _ _ _ ae ae Ti (adl (decide (0<=dy/\dy<=s.dy - 1)) (decide (0<=pt/\pt<=s.wd * s.rw - 1)) (decide (0<=lo)) (decide (lo<=hi)) (decide (hi<=99999))) c0 c2 (λh=>by rw[h,oU];exact c1) (λh=>by simp only[c_]at h;rw[h.1,h.2,oU,oU]) (λh=>by simp only[c_]at h;rw[h.1,h.2.1,h.2.2,oU,oU,oU]) (λh=>by simp only[c_]at h;rw[h.1,h.2.1,h.2.2.1,h.2.2.2,oU,oU,oU,oU]) _ ?_;simp only[e_,cond_true,cj,bH];repeat'(first|(show cC _ _ _ _ _;refine aj ?_)|refine aq ?_|refine au λK hK=> ?_|(intro hg;try exact ai)|exact fin|apply af)
 all_goals rfl
theorem Qa (s:aJ)(n cap na m0:Nat)(kz cost dy pt lo hi:Int)(cs xs:List D)(A:List Int)(hA:kz∉A)(dS:0<=dy/\dy < xs.length)(mX:xs.length<=100)(hx:xs[dy.toNat]? =some (.val (.map (some m0))))(pb:Bool)(hc:aH aa 39 [.box 0 0,i64 dy,i64 pt, .agg [i64 lo,i64 hi]] [.mu (ay s n cap cost), .mp [], .mu cs, .mp (db A), .mu [.box 0 0], .mu [i64 kz], .mu [i64 dy], .mu [i64 pt], .mu [i64 lo,i64 hi], .mu [.box 0 0], .mu [.ag 33 [.box 5 0, .box 4 0, .box 6 0, .box 7 0, .box 8 0]], .mu [.ag 36 [.box 4 0, .box 6 0]], .mu [.ag 38 [.box 4 0, .box 6 0, .box 5 0, .box 7 0, .box 8 0]]] [dC xs,az na] (aT (.bool pb) [.mu (ay s n cap cost), .mp [], .mu cs, .mp (db A), .mu [.box 0 0], .mu [i64 kz], .mu [i64 dy], .mu [i64 pt], .mu [i64 lo,i64 hi], .mu [.box 0 0], .mu [.ag 33 [.box 5 0, .box 4 0, .box 6 0, .box 7 0, .box 8 0]], .mu [.ag 36 [.box 4 0, .box 6 0]], .mu [.ag 38 [.box 4 0, .box 6 0, .box 5 0, .box 7 0, .box 8 0]]] [dC xs,az na])):
  cY aa 3 m0 38 [.box 4 0, .box 6 0, .box 5 0, .box 7 0, .box 8 0] [.mu (ay s n cap cost), .mp [], .mu cs, .mp (db A), .mu [.box 0 0], .mu [i64 kz], .mu [i64 dy], .mu [i64 pt], .mu [i64 lo,i64 hi], .mu [.box 0 0], .mu [.ag 33 [.box 5 0, .box 4 0, .box 6 0, .box 7 0, .box 8 0]], .mu [.ag 36 [.box 4 0, .box 6 0]], .mu [.ag 38 [.box 4 0, .box 6 0, .box 5 0, .box 7 0, .box 8 0]]] [dC xs,az na] (aT (.bool pb) [.mu (ay s n cap cost), .mp [], .mu cs, .mp (db A), .mu [.box 0 0], .mu [i64 kz], .mu [i64 dy], .mu [i64 pt], .mu [i64 lo,i64 hi], .mu [.box 0 0], .mu [.ag 33 [.box 5 0, .box 4 0, .box 6 0, .box 7 0, .box 8 0]], .mu [.ag 36 [.box 4 0, .box 6 0]], .mu [.ag 38 [.box 4 0, .box 6 0, .box 5 0, .box 7 0, .box 8 0]]] [dC xs,az na]):=by
 refine xJ func38 ntmps38 results38 call38 rfl aO λW0 S0 M0 own β hβ ht=> ?_;repeat'(first|(show av _ (.region 1 _ true) _ _;refine bJ ?_)|refine aq ?_|refine au λK hK=> ?_|(intro hg;try exact ai)|exact fin|apply af)
 refine b_ ?_;refine ep (jQ [(0, .box 4 0),(1, .box 6 0),(2, .box 5 0),(3, .box 7 0),(4, .box 8 0),(5, .bool false)] (by simp[put])) ?_;refine abi (by rfl) W0 S0 M0 own β s n cap na m0 kz cost dy pt lo hi cs xs A ht hA dS mX hx pb hc _ ?_;simp only[e_,cond_true,cj,bH];repeat'(first|(show cC _ _ _ _ _;refine aj ?_)|refine aq ?_|refine au λK hK=> ?_|(intro hg;try exact ai)|exact fin|apply af)
theorem abf {ops:Array Oper}(bP:ops=dA Tryz.f9 5)(w0:World)(S0:Addr->Prop)(e9:MM)(own:Nat->Prop)(β:List Nat)(s:aJ)(n cap na m0:Nat)(kz cost dy pt lo hi:Int)(cs xs:List D)(A:List Int)(qb:β[3]? =some m0)(hA:kz∉A)(dS:0<=dy/\dy < xs.length)(mX:xs.length<=100)(hx:xs[dy.toNat]? =some (.val (.map (some m0)))):
  jN ⟨aa,w0,S0,e9,none,own,β⟩ 5 ops 39 [(0,31,λL=> .box 0 0),(1,32,λL=> .box 0 0),(2,33,λL=> .box 0 26),(3,34,λL=> .own 0),(4,35,λL=>i64 dy),(5,36,λL=> .ro [.val (.map (some m0))]),(6,37,λL=> .bu 3),(7,38,λL=>i64 kz)] [(5, .box 4 0),(6, .box 5 0),(7, .box 6 0),(8, .box 7 0),(9, .box 8 0)] (λL=>[.mu (ay s n cap cost), .mp [], .mu cs, .mp (bif L 8 then db (A++[kz])else db A), .mu [.box 0 0], .mu [i64 kz], .mu [i64 dy], .mu [i64 pt], .mu [i64 lo,i64 hi]]) (λL=>[dC xs,az na]):=by
 have hs:=P6 A;have hE:=(aba hA);simp only[dA,eH,e8,Tryz.f9,fw,Nat.reduceBEq,bK,if_false,if_true,eI,eu,eR,iC,reduceIte,eq_self]at bP;subst bP;exact jY Tryz.ty.mixed rfl [(0,[16]),(1,[1,16]),(2,[3,16]),(3,[5,16]),(4,[16]),(5,[7,9,16]),(6,[11,16]),(7,[16]),(8,[13,15])] [] ax rfl rfl iv js iw
theorem abh (s:aJ)(aW:kJ s)(n cap na m0:Nat)(kz cost dy pt lo hi:Int)(cs xs:List D)(A:List Int)(aw:∀d∈cs,Names 0 0 d)(mr:na < 60)(hk:0<=kz/\kz<=99)(MA:tN s dy pt lo hi=false):cY aa 3 m0 9 [.box 0 0,i64 kz,i64 dy,i64 pt, .agg [i64 lo,i64 hi]] [.mu (ay s n cap cost), .mp [], .mu cs, .mp (db A)] [dC xs,az na] (aT (i64 2) [.mu (ay s n cap cost), .mp [], .mu cs, .mp (db A)] [dC xs,az na]):=by
 have Em:0<=s.dy/\s.dy<=100:=by have:=aW.2.1;omega
 have bE:∀nb nr,bN nb nr cs=true:=λnb nr=>ec λd hd=>eG (aw d hd);have iG:cs.map (gY 1)=cs:=u7 aw;have q1:=Kn s (dC xs) n cap na kz cost dy pt lo hi cs (db A) Em aW.2.2.1 hk;rw[MA]at q1;have c1:=aH.tie 3 m0 (J4 s n cap cost (.mp []) (.mu cs) (.mp (db A)) (.mu [.box 0 0]) (.mu [i64 kz]) (.mu [i64 dy]) (.mu [i64 pt]) (.mu [i64 lo,i64 hi]) (.mp []) (.mu cs) (.mp (db A)) (.mu [.box 0 0]) (.mu [i64 kz]) (.mu [i64 dy]) (.mu [i64 pt]) (.mu [i64 lo,i64 hi]) (dC xs) na mr 33 36 38 [.box 5 0, .box 4 0, .box 6 0, .box 7 0, .box 8 0] [.box 4 0, .box 6 0] [.box 4 0, .box 6 0, .box 5 0, .box 7 0, .box 8 0] (by simp only[a7,bE,nH];rfl) (by simp only[a7,bE,nH];rfl) (by simp only[ib,nz,ij,iG];rfl) q1);refine NW ?_ rfl (by simp only[a7,bE,nH];rfl) (aY _);refine xJ func9 ntmps9 Xl call9 rfl aO λW0 S0 M0 own β hβ ht=> ?_;repeat'(first|(show av _ (.region 1 _ _) _ _;refine oL 3 m0 10 rfl (λK1 aA=> ?_);refine aj ?_)|(refine aA _ (jL ht c1 (bC rfl) rfl rfl rfl rfl ?_);clear aA K1;rintro d aB aD ⟨rfl,rfl,rfl⟩;simp only[aU,Nat.reduceAdd];refine aj ?_)|(show cC _ _ _ _ _;refine aj ?_)|refine aq ?_|refine au λK hK=> ?_|(intro hg;try exact ai)|exact fin|apply af)
 all_goals first|exact⟨[],rfl⟩|exact⟨_,rfl⟩
theorem abg (s:aJ)(aW:kJ s)(n cap na m0:Nat)(kz cost dy pt lo hi:Int)(cs xs:List D)(A:List Int)(aw:∀d∈cs,Names 0 0 d)(mr:na < 60)(hk:0<=kz/\kz<=99)(U:List D)(S:List aS)(hr:0<=dy/\dy<=s.dy - 1)(hd:cs.drop (dy.toNat * 4)=cx s.wd.toNat s.rw.toNat s.sl S++U)(bf:cs.length=cap * 4)(hn:n<=cap)(dH:n<=100)(fI:dy < n)(hS:S.length < 12)(iq:dB s.wd.toNat s.rw.toNat s.sl (S++[⟨pt,lo,hi⟩]))(HT:0<=dy/\dy < xs.length)(mX:xs.length<=100)(hx:xs[dy.toNat]? =some (.val (.map (some m0))))(hA:kz∉A)(od:tN s dy pt lo hi=true)(zq:¬fp s.wd.toNat s.sl (S++[⟨pt,lo,hi⟩])):cY aa 3 m0 9 [.box 0 0,i64 kz,i64 dy,i64 pt, .agg [i64 lo,i64 hi]] [.mu (ay s n cap cost), .mp [], .mu cs, .mp (db A)] [dC xs,az na] (aT (i64 7) [.mu (ay s n cap cost), .mp [], .mu cs, .mp (db A)] [dC xs,az na]):=by
 have Em:0<=s.dy/\s.dy<=100:=by have:=aW.2.1;omega
 have bE:∀nb nr,bN nb nr cs=true:=λnb nr=>ec λd hd=>eG (aw d hd);have iG:cs.map (gY 1)=cs:=u7 aw;have q1:=Kn s (dC xs) n cap na kz cost dy pt lo hi cs (db A) Em aW.2.2.1 hk;rw[od]at q1;have q2:=Qb s (dC xs) n cap na kz cost dy pt lo hi cs (db A) U s.wd.toNat s.rw.toNat s.sl S hr hd bf hn dH fI hS;have p0:=gC (nr:=2) [.mp (db A), .mu [.box 0 0], .mu [i64 kz], .mu [i64 dy], .mu [i64 pt], .mu [i64 lo,i64 hi], .mu [.box 0 0], .mu [.ag 33 [.box 5 0, .box 4 0, .box 6 0, .box 7 0, .box 8 0]], .mu [.ag 36 [.box 4 0, .box 6 0]], .mu [.ag 38 [.box 4 0, .box 6 0, .box 5 0, .box 7 0, .box 8 0]]] (Q9 s (dC xs) n cap na cost dy pt lo hi cs U s.wd.toNat s.rw.toNat s.sl S aw hd bf hn dH ⟨hr.1,fI⟩ ae iq zq) rfl (by simp only[a7,bE,nH];rfl) (by simp only[a7,bE,nH];rfl) rfl rfl rfl;have q3:=Qa s n cap na m0 kz cost dy pt lo hi cs xs A hA HT mX hx false p0;have c1:=Y2 3 m0 s n cap cost (.mp []) (.mu cs) (.mp (db A)) (.mu [.box 0 0]) (.mu [i64 kz]) (.mu [i64 dy]) (.mu [i64 pt]) (.mu [i64 lo,i64 hi]) (.mp []) (.mu cs) (.mp (db A)) (.mu [.box 0 0]) (.mu [i64 kz]) (.mu [i64 dy]) (.mu [i64 pt]) (.mu [i64 lo,i64 hi]) (dC xs) na mr 33 36 38 [.box 5 0, .box 4 0, .box 6 0, .box 7 0, .box 8 0] [.box 4 0, .box 6 0] [.box 4 0, .box 6 0, .box 5 0, .box 7 0, .box 8 0] (by simp only[a7,bE,nH];rfl) (by simp only[a7,bE,nH];rfl) (by simp only[ib,nz,ij,iG];rfl) q1 q2 q3;refine NW ?_ rfl (by simp only[a7,bE,nH];rfl) (aY _);refine xJ func9 ntmps9 Xl call9 rfl aO λW0 S0 M0 own β hβ ht=> ?_;repeat'(first|(show av _ (.region 1 _ _) _ _;refine oL 3 m0 10 rfl (λK1 aA=> ?_);refine aj ?_)|(refine aA _ (jL ht c1 (bC rfl) rfl rfl rfl rfl ?_);clear aA K1;rintro d aB aD ⟨rfl,rfl,rfl⟩;simp only[aU,Nat.reduceAdd];refine aj ?_)|(show cC _ _ _ _ _;refine aj ?_)|refine aq ?_|refine au λK hK=> ?_|(intro hg;try exact ai)|exact fin|apply af)
 all_goals first|exact⟨[],rfl⟩|exact⟨_,rfl⟩
theorem abe (s:aJ)(aW:kJ s)(n cap na m0:Nat)(kz cost dy pt lo hi:Int)(cs xs:List D)(A:List Int)(aw:∀d∈cs,Names 0 0 d)(mr:na < 60)(hk:0<=kz/\kz<=99)(U:List D)(S:List aS)(hr:0<=dy/\dy<=s.dy - 1)(hd:cs.drop (dy.toNat * 4)=cx s.wd.toNat s.rw.toNat s.sl S++U)(bf:cs.length=cap * 4)(hn:n<=cap)(dH:n<=100)(fI:dy < n)(hS:S.length < 12)(iq:dB s.wd.toNat s.rw.toNat s.sl (S++[⟨pt,lo,hi⟩]))(HT:0<=dy/\dy < xs.length)(mX:xs.length<=100)(hx:xs[dy.toNat]? =some (.val (.map (some m0))))(hA:kz∉A)(od:tN s dy pt lo hi=true)(zq:fp s.wd.toNat s.sl (S++[⟨pt,lo,hi⟩])):cY aa 3 m0 9 [.box 0 0,i64 kz,i64 dy,i64 pt, .agg [i64 lo,i64 hi]] [.mu (ay s n cap cost), .mp [], .mu cs, .mp (db A)] [dC xs,az na] (aT (i64 0) [.mu (ay s n cap cost), .mp [], .mu (cs.take (dy.toNat * 4)++cx s.wd.toNat s.rw.toNat s.sl (S++[⟨pt,lo,hi⟩])++U), .mp (db (A++[kz]))] [dC xs,az (na + 1)]):=by
 have Em:0<=s.dy/\s.dy<=100:=by have:=aW.2.1;omega
 have bE:∀nb nr,bN nb nr cs=true:=λnb nr=>ec λd hd=>eG (aw d hd);have iG:cs.map (gY 1)=cs:=u7 aw;have q1:=Kn s (dC xs) n cap na kz cost dy pt lo hi cs (db A) Em aW.2.2.1 hk;rw[od]at q1;have q2:=Qb s (dC xs) n cap na kz cost dy pt lo hi cs (db A) U s.wd.toNat s.rw.toNat s.sl S hr hd bf hn dH fI hS;have p0:=gC (nr:=2) [.mp (db A), .mu [.box 0 0], .mu [i64 kz], .mu [i64 dy], .mu [i64 pt], .mu [i64 lo,i64 hi], .mu [.box 0 0], .mu [.ag 33 [.box 5 0, .box 4 0, .box 6 0, .box 7 0, .box 8 0]], .mu [.ag 36 [.box 4 0, .box 6 0]], .mu [.ag 38 [.box 4 0, .box 6 0, .box 5 0, .box 7 0, .box 8 0]]] (KO s (dC xs) n cap na cost dy pt lo hi cs U s.wd.toNat s.rw.toNat s.sl S aw hd bf hn dH ⟨hr.1,fI⟩ ae iq zq) rfl (by simp only[a7,bE,nH];rfl) (by simp only[a7,bE,nH];rfl) rfl rfl rfl;have q3:=Qa s n cap na m0 kz cost dy pt lo hi cs xs A hA HT mX hx true p0;have c1:=Y1 3 m0 s n cap cost (.mp []) (.mu cs) (.mp (db A)) (.mu [.box 0 0]) (.mu [i64 kz]) (.mu [i64 dy]) (.mu [i64 pt]) (.mu [i64 lo,i64 hi]) (.mp []) (.mu cs) (.mp (db A)) (.mu [.box 0 0]) (.mu [i64 kz]) (.mu [i64 dy]) (.mu [i64 pt]) (.mu [i64 lo,i64 hi]) (dC xs) na mr 33 36 38 [.box 5 0, .box 4 0, .box 6 0, .box 7 0, .box 8 0] [.box 4 0, .box 6 0] [.box 4 0, .box 6 0, .box 5 0, .box 7 0, .box 8 0] (by simp only[a7,bE,nH];rfl) (by simp only[a7,bE,nH];rfl) (by simp only[ib,nz,ij,iG];rfl) q1 q2 q3;have mv:∀d∈(cs.take (dy.toNat * 4)++cx s.wd.toNat s.rw.toNat s.sl (S++[⟨pt,lo,hi⟩])++U),Names 0 0 d:=NG (pt:=pt) (lo:=lo) (hi:=hi) aw hd;have c2:=KC s (dC xs) n cap (na + 1) cost dy pt lo hi cs U s.wd.toNat s.rw.toNat s.sl S aw hd bf hn dH ⟨hr.1,fI⟩ ae;generalize(cs.take (dy.toNat * 4)++cx s.wd.toNat s.rw.toNat s.sl (S++[⟨pt,lo,hi⟩])++U)=eF at mv c2⊢;have qX:∀nb nr,bN nb nr eF=true:=λnb nr=>ec λd hd=>eG (mv d hd);have c2:=gC (nr:=2) [.mp (db A), .mu [.box 0 0], .mu [i64 kz], .mu [i64 dy], .mu [i64 pt], .mu [i64 lo,i64 hi]] c2 rfl (by simp only[a7,bE,nH];rfl) (by simp only[a7,qX,nH];rfl) rfl rfl rfl;refine NW ?_ rfl (by simp only[a7,qX,nH];rfl) (aY _);refine xJ func9 ntmps9 Xl call9 rfl aO λW0 S0 M0 own β hβ ht=> ?_;repeat'(first|(show av _ (.region 1 _ _) _ _;refine oL 3 m0 10 rfl (λK1 aA=> ?_);refine aj ?_)|(refine aA _ (jL ht c1 (bC rfl) rfl rfl rfl rfl ?_);clear aA K1;rintro d aB aD ⟨rfl,rfl,rfl⟩;simp only[aU,Nat.reduceAdd];refine aj ?_)|(show av _ (.region 4 _ _) _ _;refine et 4 rfl (λK1 aA=> ?_);refine aj ?_)|(refine aA _ (eZ c2 ?_);simp only[aU,Nat.reduceAdd];refine aj ?_)|(show av _ (.region 5 _ true) _ _;refine bJ ?_)|refine aq ?_|refine au λK hK=> ?_|(intro hg;try exact ai)|exact fin|apply af)
 all_goals refine b_ ?_
 refine ep (jQ [(5, .box 4 0),(6, .box 5 0),(7, .box 6 0),(8, .box 7 0),(9, .box 8 0)] (by simp[put])) ?_;refine abf (by rfl) W0 S0 M0 own β s n cap (na + 1) m0 kz cost dy pt lo hi eF xs A ht hA HT mX hx _ ?_;simp only[e_,cond_true,cj,bH];repeat'(first|(show cC _ _ _ _ _;refine aj ?_)|refine aq ?_|refine au λK hK=> ?_|(intro hg;try exact ai)|exact fin|apply af)
 all_goals first|exact⟨[],rfl⟩|exact⟨_,rfl⟩
end Go.Proofs.YtafmfhkplgapjaaGreatDoor
