import Derived.Test.YtafmfhkplgapjaaGreatDoorZ13
set_option linter.unusedVariables false
set_option linter.unusedSimpArgs false
set_option linter.unusedSectionVars false
open And renaming intro->af
open Bool renaming and_eq_true->c_,false_eq_true->bK,not_false->pO,not_true->Ae
open Int renaming le_refl->FF,mul_nonneg->wb
open List renaming append_assoc->kK,append_nil->eu,cons_append->eR,foldr->e_,getD_eq_getElem?_getD->ic,getElem?_eq_getElem->bS,getElem?_eq_some_iff->aQ,getElem?_set_ne->gj,getElem?_set_self->jg,headD_cons->iC,length_append->eQ,length_pos_iff->uM,length_singleton->Cj,length_take->mH,map_congr_left->oS,map_cons->ib,map_id->v8,mem_append->fA,mem_cons->eK,mem_cons_of_mem->dW,mem_cons_self->dI,mem_singleton->oQ,nil_append->eI,not_mem_nil->ny,take_of_length_le->xZ
open Nat renaming le_refl->aY,lt_succ_iff_lt_or_eq->alE,not_lt_zero->dF,succ_ne_zero->Jr,zero_le->bD
open Option renaming bind_some->Cf,getD_some->e8,map_some->eH
open Go.Proofs.Tryz renaming f101->pK,f3->iW,prog->aa,underlying9->ia
open Go.Proofs.Tryz
namespace Go.Proofs.YtafmfhkplgapjaaGreatDoor
open Go.Ab
inductive tx (N:Nat->List Nat)(st:Nat->Bool):Nat->Nat->Prop where
 |refl (p:Nat):tx N st p p
 |step {p q r:Nat} (hq:q∈N p) (hs:st q=true) (h:tx N st q r):tx N st p r
theorem tx.mono {n:Nat}{N:Nat->List Nat}{st CN:Nat->Bool}(hN:∀p,p < n->∀q∈N p,q < n)(h:∀q,q < n->st q=true->CN q=true){p q:Nat}(hp:p < n)(n5:tx N st p q):tx N CN p q:=by
 induction n5 with
 |refl p=>exact .refl p
 |step hq hs _ ih=>exact .step hq (h _ (hN _ hp _ hq) hs) (ih (hN _ hp _ hq))
theorem M_ {n:Nat}{E:Nat->Bool}{N:Nat->List Nat}{st:Nat->Bool}{f p:Nat}(hN:∀p,p < n->∀q∈N p,q < n)
  (ih:∀q m,nx n m->q < n->q∉m->n + 1<=m.length + f->ju E N st f q m=none->∃r,tx N st q r/\E r=true):∀(l:List Nat) (m:List Nat),(∀q∈l,q∈N p)->p < n->nx n m->n + 1<=m.length + f->l.foldl (si (ju E N st f) st) (some m)=none->∃r,tx N st p r/\E r=true
 |[],m,_,_,_,_,h=>by cases h
 |q::l,m,hl,hp,hm,hf,h=>by
  have hq:=hl q (dI ..);have DW:=hN p hp q hq;simp only[List.foldl_cons,si,Cf]at h;by_cases hc:st q=true/\q∉m
  ·rw[if_pos hc]at h;cases h1:ju E N st f q m with
   |none=>
    obtain⟨r,h2,h3⟩:=ih q m hm DW hc.2 hf h1;exact⟨r, .step hq hc.1 h2,h3⟩
   |some m1=>
    rw[h1]at h;obtain⟨h2,h3⟩:=NA hN f q m m1 hm DW hc.2 h1;exact M_ hN ih l m1 (λx hx=>hl x (dW _ hx)) hp h2 ae h
  ·rw[if_neg hc]at h;exact M_ hN ih l m (λx hx=>hl x (dW _ hx)) hp hm hf h
theorem VV {n:Nat}{E:Nat->Bool}{N:Nat->List Nat}{st:Nat->Bool}(hN:∀p,p < n->∀q∈N p,q < n):∀(f p:Nat) (m:List Nat),nx n m->p < n->p∉m->n + 1<=m.length + f->ju E N st f p m=none->∃r,tx N st p r/\E r=true
 |0,p,m,hm,_,_,hf,_=>by have:=hm.len;omega
 |f + 1,p,m,hm,hp,rT,hf,h=>by
  simp only[ju]at h;split at h
  ·rename_i he;exact⟨p, .refl p,he⟩
  ·exact M_ hN (λq m h1 h2 h3 h4 h5=>VV hN f q m h1 h2 h3 h4 h5) (N p) _ (λq hq=>hq) hp (hm.add hp rT) (by rw[eQ];simp;omega) h
def xU (E:Nat->Bool)(N:Nat->List Nat)(st:Nat->Bool)(m m':List Nat):Prop:=(∀x∈m,x∈m')/\∀x∈m',x∉m->E x=false/\∀y∈N x,st y=true->y∈m'
theorem xU.trans {E:Nat->Bool}{N:Nat->List Nat}{st:Nat->Bool}{m m1 m2:List Nat}(h1:xU E N st m m1)(h2:xU E N st m1 m2):xU E N st m m2:=
 ⟨λx hx=>h2.1 x (h1.1 x hx),λx hx hn=>by
  by_cases Hs:x∈m1
  ·obtain⟨h3,h4⟩:=h1.2 x Hs hn;exact⟨h3,λy hy hs=>h2.1 y (h4 y hy hs)⟩
  ·exact h2.2 x hx Hs⟩
theorem M9 {E:Nat->Bool}{N:Nat->List Nat}{st:Nat->Bool}{g:Nat->List Nat->Option (List Nat)}(hg:∀q m m',g q m=some m'->xU E N st m m'/\q∈m'):∀(l:List Nat) (m m':List Nat),l.foldl (si g st) (some m)=some m'->xU E N st m m'/\∀y∈l,st y=true->y∈m'
 |[],m,m',h=>by cases h;exact⟨⟨λ_ h=>h,λx hx hn=>absurd hx hn⟩,λy hy=>by cases hy⟩
 |q::l,m,m',h=>by
  simp only[List.foldl_cons,si,Cf]at h;by_cases hc:st q=true/\q∉m
  ·rw[if_pos hc]at h;cases h1:g q m with
   |none=>rw[h1,Ii]at h;cases h
   |some m1=>
    rw[h1]at h;obtain⟨h2,h3⟩:=hg q m m1 h1;obtain⟨h4,h5⟩:=M9 hg l m1 m' h;exact⟨h2.trans h4,λy hy hs=>by
     rcases eK.1 hy with rfl|hy
     ·exact h4.1 _ h3
     ·exact h5 y hy hs⟩
  ·rw[if_neg hc]at h;obtain⟨h4,h5⟩:=M9 hg l m m' h;exact⟨h4,λy hy hs=>by
    rcases eK.1 hy with rfl|hy
    ·by_cases Te:y∈m
     ·exact h4.1 _ Te
     ·exact absurd ⟨hs,Te⟩ hc
    ·exact h5 y hy hs⟩
theorem VU {E:Nat->Bool}{N:Nat->List Nat}{st:Nat->Bool}:∀(f p:Nat) (m m':List Nat),ju E N st f p m=some m'->xU E N st m m'/\p∈m'
 |0,p,m,m',h=>by cases h
 |f + 1,p,m,m',h=>by
  simp only[ju]at h;split at h
  ·cases h
  ·rename_i he;obtain⟨h1,h2⟩:=M9 (λq m m' h=>VU f q m m' h) (N p) _ m' h;have hp:p∈m':=h1.1 p aO;refine⟨⟨λx hx=>h1.1 x (List.mem_append_left _ hx),λx hx hn=> ?_⟩,hp⟩;by_cases Tf:x=p
   ·subst Tf;exact⟨by simpa using he,h2⟩
   ·exact h1.2 x hx (by simp[hn,Tf])
theorem aa' {E:Nat->Bool}{N:Nat->List Nat}{st:Nat->Bool}{m:List Nat}(h:xU E N st [] m){p q:Nat}(n5:tx N st p q):p∈m->E q=false:=by
 induction n5 with
 |refl p=>exact λhp=>(h.2 p hp aO).1
 |step hq hs _ ih=>exact λhp=>ih ((h.2 _ hp aO).2 _ hq hs)
theorem aj5 {W R:Nat}{cor:Bool}{st:Nat->Bool}{p:Nat}(hp:p < W * R):lC W R cor st p=true↔st p=true/\∀q,tx (mf W R cor) st p q->ov W R q=false:=by
 have hN:∀p,p < W * R->∀q∈mf W R cor p,q < W * R:=λp _ q hq=>Lg q hq;simp only[lC,c_];refine and_congr_right λ_=> ?_;cases h:ju (ov W R) (mf W R cor) st (W * R + 1) p []with
 |none=>
  obtain⟨r,h1,h2⟩:=VV hN _ p [] (R8 _) hp aO aO h;exact⟨λhh=>(by cases hh),λhh=>(by rw[hh r h1]at h2;cases h2)⟩
 |some m=>
  obtain⟨h1,h2⟩:=VU _ _ _ _ h;exact⟨λ_ q hq=>aa' h1 hq h2,λ_=>rfl⟩
theorem BN {W R:Nat}{cor:Bool}{st CN:Nat->Bool}{p:Nat}(hp:p < W * R)(h:∀q,q < W * R->st q=true->CN q=true)(hs:st p=true)(hc:lC W R cor CN p=true):lC W R cor st p=true:=by
 rw[aj5 hp]at hc⊢;exact⟨hs,λq hq=>hc.2 q (hq.mono (λp _ q hq=>Lg q hq) h hp)⟩
theorem VO (W a b:Int):dR W a b=dR W b a:=by unfold dR;omega
theorem VP (W a:Int):dR W a a=0:=by unfold dR;omega
theorem aiS (W a b c:Int):dR W a c<=dR W a b + dR W b c:=by unfold dR;omega
theorem Km {sl W a b c:Int}(hs:0<=sl):sl * dR W a c<=sl * dR W a b + sl * dR W b c:=by
 have h:=Int.mul_le_mul_of_nonneg_left (aiS W a b c) hs
 rwa [Int.mul_add]at h
theorem Sn {W sl:Int}{S:List aS}{p:Int}:∀{j i:Nat},i < j->(nth S i).lo - sl * dR W p (nth S i).p<=eU W sl S p j
 |0,i,h=>by omega
 |j + 1,i,h=>by
  simp only[eU];by_cases vt:i=j
  ·subst vt;omega
  ·have:=Sn (W:=W) (sl:=sl) (S:=S) (p:=p) (j:=j) (i:=i) ae;omega
theorem Lp {W sl:Int}{S:List aS}{p x:Int}(h0:0<=x):∀{j:Nat},(∀i,i < j->(nth S i).lo - sl * dR W p (nth S i).p<=x)->eU W sl S p j<=x
 |0,_=>by simpa[eU]using h0
 |j + 1,h=>by
  have h1:=Lp (W:=W) (sl:=sl) (S:=S) (p:=p) h0 (j:=j) (λi hi=>h i ae);have h2:=h j ae;simp only[eU];omega
theorem Ul {W sl:Int}{S:List aS}{p:Int}:∀{j i:Nat},i < j->eW W sl S p j<=(nth S i).hi + sl * dR W p (nth S i).p
 |0,i,h=>by omega
 |j + 1,i,h=>by
  simp only[eW];by_cases vt:i=j
  ·subst vt;omega
  ·have:=Ul (W:=W) (sl:=sl) (S:=S) (p:=p) (j:=j) (i:=i) ae;omega
theorem Mk {W sl:Int}{S:List aS}{p x:Int}(h0:x<=99999):∀{j:Nat},(∀i,i < j->x<=(nth S i).hi + sl * dR W p (nth S i).p)->x<=eW W sl S p j
 |0,_=>by simpa[eW]using h0
 |j + 1,h=>by
  have h1:=Mk (W:=W) (sl:=sl) (S:=S) (p:=p) h0 (j:=j) (λi hi=>h i ae);have h2:=h j ae;simp only[eW];omega
structure xY (A B:List aS):Prop where
 len:A.length=B.length
 at_:∀i,i < A.length->(nth A i).p=(nth B i).p/\(nth A i).lo<=(nth B i).lo/\(nth B i).hi<=(nth A i).hi
theorem Sm {W sl:Int}{A B:List aS}(h:xY A B)(p:Int):∀j,j<=A.length->eU W sl A p j<=eU W sl B p j
 |0,_=>FF _
 |j + 1,hj=>by
  have h1:=Sm (W:=W) (sl:=sl) h p j ae;obtain⟨h2,h3,_⟩:=h.at_ j ae;simp only[eU,h2];omega
theorem Uk {W sl:Int}{A B:List aS}(h:xY A B)(p:Int):∀j,j<=A.length->eW W sl B p j<=eW W sl A p j
 |0,_=>FF _
 |j + 1,hj=>by
  have h1:=Uk (W:=W) (sl:=sl) h p j ae;obtain⟨h2,_,h3⟩:=h.at_ j ae;simp only[eW,h2];omega
section
variable {W R:Nat} {sl:Int} {S:List aS}
theorem adB (h:dB W R sl S)(hc:fp W sl S){i k:Nat}(hi:i < S.length)(hk:k < S.length):(nth S i).lo - sl * dR W (nth S i).p (nth S k).p<=(nth S k).hi:=by
 rcases Nat.lt_trichotomy i k with h1|h1|h1
 ·exact(hc i k h1 hk).1
 ·subst h1;rw[VP];have:=(h.a i hi).2;omega
 ·have:=(hc k i h1 hi).2;rw[VO];exact this
theorem aes (h:dB W R sl S)(hc:fp W sl S){p:Int}(hp:0<=p/\p<=29):eU W sl S p S.length<=eW W sl S p S.length:=by
 refine Mk (AM h hp _ (aY _)).2 λk hk=>Lp ?_ λi hi=> ?_
 ·have h1:=(yx h hp hk).1;have h2:=(h.a k hk).2;omega
 ·have h1:=adB h hc hi hk;have h2:=Km (W:=W) (a:=(nth S i).p) (b:=p) (c:=(nth S k).p) h.s.1;rw[VO W (nth S i).p p]at h2;omega
theorem aer (h:dB W R sl S){p q:Int}(hp:0<=p/\p<=29)(hq:0<=q/\q<=29):eU W sl S q S.length<=eU W sl S p S.length + sl * dR W p q:=by
 have h0:=(AM h hp _ (aY S.length)).1;have hd:=uA (W:=W) (by have:=h.w;omega) hp hq;have hm:=wb h.s.1 hd.1;refine Lp ae λi hi=> ?_;have h1:=Sn (W:=W) (sl:=sl) (S:=S) (p:=p) hi;have h2:=Km (W:=W) (a:=p) (b:=q) (c:=(nth S i).p) h.s.1;omega
theorem agx (h:dB W R sl S){p q:Int}(hp:0<=p/\p<=29)(hq:0<=q/\q<=29):eW W sl S p S.length - sl * dR W p q<=eW W sl S q S.length:=by
 have h0:=(Ef h hp _ (aY S.length)).2;have hd:=uA (W:=W) (by have:=h.w;omega) hp hq;have hm:=wb h.s.1 hd.1;refine Mk ae λi hi=> ?_;have h1:=Ul (W:=W) (sl:=sl) (S:=S) (p:=p) hi;have h2:=Km (W:=W) (a:=p) (b:=q) (c:=(nth S i).p) h.s.1;omega
theorem CT {V:List Int}{lv:Int}{q:Nat}:iN V lv false q=true↔nth V q < lv:=by
 unfold iN;by_cases h:lv<=nth V q<;>simp[h]<;>omega
theorem CU {V:List Int}{lv:Int}{q:Nat}:iN V lv true q=true↔lv<=nth V q:=by
 unfold iN;by_cases h:lv<=nth V q<;>simp[h]
theorem P_ {pt:Nat}{lv:Int}{hi:Bool}{n q:Nat}(h:q < n):nth (ma (W:Nat) sl S pt lv hi n) q=As W sl S pt lv hi q:=by simp[ma,nth,h]
theorem GA {pt:Nat}{lv:Int}{n q:Nat}(h:q < n):iN (ma (W:Nat) sl S pt lv false n) lv false q=true↔eW W sl S (q:Nat) S.length < lv\/sl * dR W (pt:Nat) (q:Nat) < 1:=by
 rw[CT,P_ h];simp only[As,bK,if_false];omega
theorem GB {pt:Nat}{lv:Int}{n q:Nat}(h:q < n):iN (ma (W:Nat) sl S pt lv true n) lv true q=true↔lv<=eU W sl S (q:Nat) S.length\/sl * dR W (pt:Nat) (q:Nat)<=0:=by
 rw[CU,P_ h];simp only[As,if_true];omega
end
def tL (W R:Nat)(sl:Int)(S:List aS)(pt:Nat)(lv:Int)(hi:Bool):Bool:=
 iN (if hi=true then pZ W sl S (W * R)else qk W sl S (W * R)) lv hi pt&&lC W R (!hi) (iN (if hi=true then qk W sl S (W * R)else pZ W sl S (W * R)) lv hi) pt
def Af (x y:Bool):Int:=if x=true then(if y=true then 3 else 2)else 1
theorem Pb (W R:Nat)(sl:Int)(S:List aS)(pt:Nat)(lv:Int)(hi:Bool):wq W R sl S pt lv hi=Af (pa W R sl S pt lv hi) (tL W R sl S pt lv hi):=by
 unfold wq Af tL;generalize iN _ lv hi pt=a;generalize lC W R (!hi) _ pt=b;cases a<;>cases b<;>rfl
theorem Pm {x y x' y':Bool}(h1:x'=true->x=true)(h2:x=true->y=true->x'=true/\y'=true):Af x y=2\/Af x y=Af x' y':=by
 cases x<;>cases y<;>cases x'<;>cases y'<;>simp_all[Af]
section
variable {W R:Nat} {sl:Int} {A B:List aS} {pt:Nat} {lv:Int}
structure Fb (W R:Nat)(sl:Int)(A B:List aS)(pt:Nat):Prop where
 AN:∀q:Nat,eU W sl A (q:Nat) A.length<=eU W sl B (q:Nat) B.length
 Ba:∀q:Nat,eW W sl B (q:Nat) B.length<=eW W sl A (q:Nat) A.length
 He:∀q:Nat,q < W * R->eU W sl B (q:Nat) B.length<=eW W sl B (q:Nat) B.length
 i_:sl * dR W (pt:Nat) (pt:Nat)=0
 fI:∀q:Nat,q < W * R->0<=sl * dR W (pt:Nat) (q:Nat)
 llp:∀q:Nat,q < W * R->eU W sl A (q:Nat) A.length<=eU W sl A (pt:Nat) A.length + sl * dR W (pt:Nat) (q:Nat)
 hlp:∀q:Nat,q < W * R->eW W sl A (pt:Nat) A.length - sl * dR W (pt:Nat) (q:Nat)<=eW W sl A (q:Nat) A.length
theorem Y0 (hA:dB W R sl A)(hB:dB W R sl B)(cB:fp W sl B)(h:xY A B)(hp:pt < W * R):Fb W R sl A B pt:=by
 have Ew:=tq hA.w hA.r;have xc:0<=(pt:Int)/\(pt:Int)<=29:=ae;have IP:∀q:Nat,q < W * R->0<=(q:Int)/\(q:Int)<=29:=λq hq=>by omega
 have hlen:=h.len;exact⟨λq=>by rw[<-hlen];exact Sm h _ _ (aY _),λq=>by rw[<-hlen];exact Uk h _ _ (aY _),λq hq=>aes hB cB (IP q hq),by rw[VP];simp,
  λq hq=>wb hA.s.1 (uA (W:=W) (by have:=hA.w;omega) xc (IP q hq)).1,λq hq=>aer hA xc (IP q hq),λq hq=>agx hA xc (IP q hq)⟩
theorem G5 {S:List aS}{q:Nat}(hq:q < W * R):nth (pZ W sl S (W * R)) q=eU W sl S (q:Nat) S.length:=G3 hq
theorem G6 {S:List aS}{q:Nat}(hq:q < W * R):nth (qk W sl S (W * R)) q=eW W sl S (q:Nat) S.length:=G3 hq
theorem P8 {S:List aS}:pa W R sl S pt lv false=true↔eU W sl S (pt:Nat) S.length < lv/\lC W R true (iN (ma W sl S pt lv false (W * R)) lv false) pt=true:=by
 simp only[pa,zE,c_,bK,if_false,decide_eq_true_eq,pO]
theorem P9 {S:List aS}:pa W R sl S pt lv true=true↔lv<=eW W sl S (pt:Nat) S.length/\lC W R false (iN (ma W sl S pt lv true (W * R)) lv true) pt=true:=by
 simp only[pa,zE,c_,if_true,decide_eq_true_eq,Ae]
theorem PQ {S:List aS}(hp:pt < W * R):tL W R sl S pt lv false=true↔eW W sl S (pt:Nat) S.length < lv/\lC W R true (iN (pZ W sl S (W * R)) lv false) pt=true:=by
 simp only[tL,c_,bK,if_false,pO,CT,G6 hp]
theorem PR {S:List aS}(hp:pt < W * R):tL W R sl S pt lv true=true↔lv<=eU W sl S (pt:Nat) S.length/\lC W R false (iN (qk W sl S (W * R)) lv true) pt=true:=by
 simp only[tL,c_,if_true,Ae,CU,G5 hp]
theorem ad9 (h:Fb W R sl A B pt)(hp:pt < W * R)(hs:pa W R sl B pt lv false=true):pa W R sl A pt lv false=true:=by
 rw[P8]at hs⊢;refine⟨by have:=h.AN pt;omega,BN hp (λq hq hh=> ?_) ?_ hs.2⟩
 ·rw[GA hq]at hh⊢;have:=h.Ba q;exact hh.imp (λh=>by omega) id
 ·rw[GA hp];exact .inr (by rw[h.i_];decide)
theorem Z6 (h:Fb W R sl A B pt)(hp:pt < W * R)(hs:tL W R sl A pt lv false=true):pa W R sl B pt lv false=true/\tL W R sl B pt lv false=true:=by
 rw[PQ hp]at hs;rw[P8,PQ hp];obtain⟨h1,h2⟩:=hs;have e5:=h.AN pt;have e6:=h.He pt hp;have e7:=h.Ba pt;refine⟨⟨ae,BN hp (λq hq hh=> ?_) ?_ h2⟩,ae,BN hp (λq hq hh=> ?_) ?_ h2⟩
 ·rw[GA hq]at hh;rw[CT,G5 hq];have e1:=h.AN q;have e2:=h.He q hq;have e3:=h.llp q hq;have e4:=h.fI q hq;rcases hh with hh|hh<;>omega
 ·rw[GA hp];exact .inr (by rw[h.i_];decide)
 ·rw[CT,G5 hq]at hh⊢;have:=h.AN q;omega
 ·rw[CT,G5 hp];omega
theorem ad_ (h:Fb W R sl A B pt)(hp:pt < W * R)(hs:pa W R sl B pt lv true=true):pa W R sl A pt lv true=true:=by
 rw[P9]at hs⊢;refine⟨by have:=h.Ba pt;omega,BN hp (λq hq hh=> ?_) ?_ hs.2⟩
 ·rw[GB hq]at hh⊢;have:=h.AN q;exact hh.imp (λh=>by omega) id
 ·rw[GB hp];exact .inr (by rw[h.i_];decide)
theorem Z8 (h:Fb W R sl A B pt)(hp:pt < W * R)(hs:tL W R sl A pt lv true=true):pa W R sl B pt lv true=true/\tL W R sl B pt lv true=true:=by
 rw[PR hp]at hs;rw[P9,PR hp];obtain⟨h1,h2⟩:=hs;have e5:=h.AN pt;have e6:=h.He pt hp;have e7:=h.Ba pt;refine⟨⟨ae,BN hp (λq hq hh=> ?_) ?_ h2⟩,ae,BN hp (λq hq hh=> ?_) ?_ h2⟩
 ·rw[GB hq]at hh;rw[CU,G6 hq];have e1:=h.Ba q;have e2:=h.He q hq;have e3:=h.hlp q hq;have e4:=h.fI q hq;rcases hh with hh|hh<;>omega
 ·rw[GB hp];exact .inr (by rw[h.i_];decide)
 ·rw[CU,G6 hq]at hh⊢;have:=h.Ba q;omega
 ·rw[CU,G6 hp];omega
end
theorem Yq {W R:Nat}{sl:Int}{A B:List aS}(hA:dB W R sl A)(hB:dB W R sl B)(cB:fp W sl B)(h:xY A B){pt:Nat}(hp:pt < W * R)(lv:Int)(hi:Bool):
  wq W R sl A pt lv hi=2\/wq W R sl A pt lv hi=wq W R sl B pt lv hi:=by
 have h2:=Y0 hA hB cB h hp;rw[Pb,Pb];cases hi with
 |false=>exact Pm (ad9 h2 hp) (λ_ hs=>Z6 h2 hp hs)
 |true=>exact Pm (ad_ h2 hp) (λ_ hs=>Z8 h2 hp hs)
theorem Qi {W R:Nat}{sl:Int}{A B:List aS}(hA:dB W R sl A)(hB:dB W R sl B)(cB:fp W sl B)(h:xY A B)(pt lv:Int)(hi:Bool):
  (iE W R sl A pt lv hi).2=(iE W R sl B pt lv hi).2/\((iE W R sl A pt lv hi).1=2\/(iE W R sl A pt lv hi).1=(iE W R sl B pt lv hi).1):=by
 unfold iE;cases hf:uz W R pt lv with
 |true=>
  simp only[if_true];exact⟨trivial,Yq hA hB cB h (Nf hf).1.1 lv hi⟩
 |false=>simp only[if_false,bK];exact⟨trivial, .inr trivial⟩
theorem Ln {W R:Nat}{sl:Int}{S:List aS}{x:aS}(h:dB W R sl S)(hn:S.length < 12)(hx:(0<=x.p/\x.p<=(W:Int) * R - 1)/\0<=x.lo/\x.lo<=x.hi/\x.hi<=99999):dB W R sl (S++[x]):=
 ⟨h.w,h.r,h.s,by rw[eQ,Cj];omega,λi hi=>by
  rcases RD hi with⟨h1,e⟩|⟨rfl,e⟩
  ·rw[e];exact h.a i h1
  ·rw[e];exact hx⟩
theorem Gs {l:List (List Int)}:∀j,0 < j->j<=l.length->(∀i,i < j->(bW l j).1<=nth (nth l i) 0/\nth (nth l i) 0<=(bW l j).2)/\(∃i,i < j/\(bW l j).1=nth (nth l i) 0)/\∃i,i < j/\(bW l j).2=nth (nth l i) 0
 |j + 1,_,hj=>by
  by_cases h0:j=0
  ·subst h0;simp only[bW,if_true];refine⟨λi hi=> ?_,⟨0,ae,ae⟩,⟨0,ae,ae⟩⟩;obtain rfl:i=0:=ae;omega
  ·obtain⟨h1,⟨a,h2,h3⟩,b,h4,h5⟩:=Gs (l:=l) j ae ae;simp only[bW,h0,if_false];refine⟨λi hi=> ?_, ?_, ?_⟩
   ·rcases Nat.lt_or_ge i j with h6|h6
    ·have:=h1 i h6;omega
    ·obtain rfl:i=j:=ae;omega
   ·rcases Int.le_total (bW l j).1 (nth (nth l j) 0)with h6|h6
    ·exact⟨a,ae,ae⟩
    ·exact⟨j,ae,ae⟩
   ·rcases Int.le_total (bW l j).2 (nth (nth l j) 0)with h6|h6
    ·exact⟨j,ae,ae⟩
    ·exact⟨b,ae,ae⟩
theorem G4 {α:Type}[Inhabited α]{l:List α}{i:Nat}(h:i < l.length):nth l i∈l:=by
 unfold nth;rw[ic,bS h];exact List.getElem_mem h
theorem Sb {α:Type}[Inhabited α]{l:List α}{x:α}(h:x∈l):∃i,i < l.length/\nth l i=x:=by
 obtain⟨i,hi,e⟩:=List.mem_iff_getElem.1 h;exact⟨i,hi,by unfold nth;rw[ic,bS hi];exact e⟩
theorem aa0 {l l':List (List Int)}(h:∀x∈l,x∈l')(hl:l≠[]):(bW l' l'.length).1<=(bW l l.length).1/\(bW l l.length).2<=(bW l' l'.length).2:=by
 have h1:0 < l.length:=uM.2 hl;obtain⟨_,⟨a,h2,h3⟩,b,h4,h5⟩:=Gs (l:=l) l.length h1 (aY _);obtain⟨a',h6,h7⟩:=Sb (h _ (G4 h2));obtain⟨b',h8,h9⟩:=Sb (h _ (G4 h4));obtain⟨nk,_⟩:=Gs (l:=l') l'.length ae (aY _);have H_:=nk a' h6;have h12:=nk b' h8;rw[h7]at H_;rw[h9]at h12;omega
theorem Rp {s:aJ}{C:List (List ByteArray)}:∀l∈dM s C,l∈dM s (C.take 1):=λl h=>by
 rw[Rn]at h⊢;cases C with
 |nil=>exact h
 |cons c C=>exact ad8 _ _ _ c C l h
theorem Nk {s:aJ}{C:List (List ByteArray)}(h:ja s C=0):(C.any λg=> !gU s.fl.length g)=false/\dM s C≠[]:=by
 unfold ja at h;split at h
 ·cases h
 ·split at h
  ·cases h
  ·exact⟨by simpa using‹¬(C.any λg=> !gU s.fl.length g)=true›,by assumption⟩
theorem ahQ {s:aJ}{C:List (List ByteArray)}(h:ja s C=0):ja s (C.take 1)=0:=by
 obtain⟨h1,h2⟩:=Nk h;have h3:((C.take 1).any λg=> !gU s.fl.length g)=false:=by
  rw[List.any_eq_false]at h1⊢;exact λx hx=>h1 x (List.mem_of_mem_take hx)
 have h4:dM s (C.take 1)≠[]:=λh0=>by
  obtain⟨x,hx⟩:=List.exists_mem_of_ne_nil _ h2;have:=Rp x hx;rw[h0]at this;cases this
 unfold ja;rw[if_neg (by rw[h3];simp),if_neg h4]
theorem aaY {s:aJ}{C:List (List ByteArray)}(h:ja s C=0):(bW (dM s (C.take 1)) (dM s (C.take 1)).length).1<=(bW (dM s C) (dM s C).length).1/\(bW (dM s C) (dM s C).length).2<=(bW (dM s (C.take 1)) (dM s (C.take 1)).length).2:=aa0 Rp (Nk h).2
theorem aaZ {s:aJ}(aW:kJ s){C:List (List ByteArray)}(h:ja s C=0):0<=(bW (dM s C) (dM s C).length).1/\(bW (dM s C) (dM s C).length).1<=(bW (dM s C) (dM s C).length).2/\(bW (dM s C) (dM s C).length).2<=99999:=by
 have hc:k8 s.fl s.tu s.mo:=aW.2.2.2.2.1;have h1:0 < (dM s C).length:=uM.2 (Nk h).2;obtain⟨h2,⟨a,h3,h4⟩,b,h5,h6⟩:=Gs (l:=dM s C) (dM s C).length h1 (aY _);have h7:=(KY hc (G4 h3)).2;have h8:=(KY hc (G4 h5)).2;have h9:=h2 a h3;omega
theorem ad4 {S:List aS}{p lo hi Du fj:Int}(h1:Du<=lo)(h2:hi<=fj):xY (S++[⟨p,Du,fj⟩]) (S++[⟨p,lo,hi⟩]):=
 ⟨by simp,λi HO=>by
  rcases RD HO with⟨h3,e⟩|⟨rfl,e⟩
  ·rw[e,RA h3];exact⟨rfl,FF _,FF _⟩
  ·rw[e,RC];exact⟨rfl,h1,h2⟩⟩
theorem adU {W sl:Int}{A B:List aS}(h:xY A B)(hB:fp W sl B):fp W sl A:=λi k xk hk=>by
 obtain⟨e1,l1,u1⟩:=h.at_ i ae;obtain⟨e2,l2,u2⟩:=h.at_ k hk;have h1:=hB i k xk (by rw[<-h.len];exact hk);rw[e1,e2];omega
noncomputable instance{W sl:Int} {S:List aS}:Decidable (fp W sl S):=Classical.propDecidable _
noncomputable def dO (s:aJ)(dy:Int)(L:List aS):Nat->List aS×List Int
 |0=>([],[])
 |i + 1=>if tN s dy (nth L i).p (nth L i).lo (nth L i).hi=true/\fp s.wd.toNat s.sl ((dO s dy L i).1++[nth L i])then((dO s dy L i).1++[nth L i],(dO s dy L i).2++[(i:Int)])else dO s dy L i
noncomputable def u3 (s:aJ)(dy:Int)(L:List aS)(i:Nat):Int:=if tN s dy (nth L i).p (nth L i).lo (nth L i).hi=true then(if fp s.wd.toNat s.sl ((dO s dy L i).1++[nth L i])then 0 else 7)else 2
theorem Gz (s:aJ)(dy:Int)(L:List aS):∀i,(dO s dy L i).1.length<=i/\(dO s dy L i).2.length=(dO s dy L i).1.length/\∀a∈(dO s dy L i).2,a < (i:Int)
 |0=>⟨aY _,rfl,λa ha=>by cases ha⟩
 |i + 1=>by
  obtain⟨h1,h2,h3⟩:=Gz s dy L i;unfold dO;split
  ·refine⟨by simp only[eQ,Cj];omega,by simp only[eQ,Cj];omega,λa ha=> ?_⟩;rcases fA.1 ha with ha|ha
   ·have:=h3 a ha;omega
   ·rw[oQ.1 ha];omega
  ·exact⟨ae,h2,λa ha=>by have:=h3 a ha;omega⟩
theorem CS {s:aJ}(h:oN s):((s.wd.toNat:Nat):Int)=s.wd/\((s.rw.toNat:Nat):Int)=s.rw:=by
 obtain⟨h1,h2,_⟩:=h;omega
theorem aem {s:aJ}(h:oN s):dB s.wd.toNat s.rw.toNat s.sl []:=by
 obtain⟨h1,h2,h3⟩:=h;exact⟨ae,ae,h3,bD _,λi hi=>absurd hi (dF _)⟩
theorem P7 {s:aJ}(h:oN s){dy:Int}{x:aS}(hb:tN s dy x.p x.lo x.hi=true):(0<=dy/\dy<=s.dy - 1)/\(0<=x.p/\x.p<=((s.wd.toNat:Nat):Int) * (s.rw.toNat:Nat) - 1)/\0<=x.lo/\x.lo<=x.hi/\x.hi<=99999:=by
 unfold tN at hb;simp only[c_,decide_eq_true_iff]at hb;obtain⟨h1,h2,h3,h4,h5⟩:=hb;rw[(CS h).1,(CS h).2];exact⟨h1,h2,h3,h4,h5⟩
theorem Kq {s:aJ}(h:oN s)(dy:Int)(L:List aS):∀i,i<=11->dB s.wd.toNat s.rw.toNat s.sl (dO s dy L i).1
 |0,_=>aem h
 |i + 1,hi=>by
  have h1:=Kq h dy L i ae;have h2:=(Gz s dy L i).1;unfold dO;split
  ·rename_i hc;exact Ln h1 ae (P7 h hc.1).2
  ·exact h1
theorem ajQ {a b d:Int}(h:vR a b d){n k:Int}(hn:0<=n/\n<=100)(hk:1<=k/\k<=3):ox a b d n 1<=ox a b d n k:=by
 obtain⟨h1,h2,h3⟩:=h;unfold ox;obtain⟨m,hm⟩:∃m,m=max 0 (n - b):=⟨_,rfl⟩;have h_:0<=m/\m<=100:=ae;rw[<-hm];have h4:0<=d * m:=wb h2.1 h_.1;obtain⟨o,ho⟩:∃o,o=a + d * m:=⟨_,rfl⟩;rw[<-ho];obtain rfl|rfl|rfl:k=1\/k=2\/k=3:=ae;all_goals omega
end Go.Proofs.YtafmfhkplgapjaaGreatDoor
namespace Go.Proofs.YtafmfhkplgapjaaGreatDoor
set_option maxRecDepth 100000
set_option maxHeartbeats 4000000
open Go.Ab
attribute[local irreducible] av dL dY ak aH cY IA ez aP fM
section
open Go.RowKit Go
theorem aP.aeh {c:Ctx}{s:St}{K:St->Prop}{d:Nat}{t ty:TypeId}{pos:String}{aft:Array Edge}{gd:Option (Nat×Bool)}{m:eP}(hm:m.uB=[])(hd:d < s.n)(hk:K (St.put s (some d) (.bM m))):Go.Ab.aP c ⟨some d, .makeMap t none,ty,pos,aft,gd⟩ s K:=by
 unfold Go.Ab.aP;rintro a w N' Q' ⟨g,hg⟩ hN;exact gK (by intro cl h;cases h) (Oper.wp_mono (λa' w' ⟨s',cW,fW⟩=>hN s' a' w' cW fW) (Ql hg rfl hd ⟨m,hm,hk⟩))
end
theorem abk (t:Int)(n:Nat):mc t n++[.bM (gu t n)]=mc t (n + 1):=by simp[mc,List.range_succ]
theorem Ko (t:Int)(n:Nat):(mc t n).length=n:=by simp[mc]
abbrev pT (t:Int)(n:Nat):Row:=dC (mc t n)
theorem adF {ops:Array Oper}(bP:ops=dA Tryz.f8 7)(w0:World)(S0:Addr->Prop)(M0:MM)(own:Nat->Prop)(β:List Nat)(hβ:β.length=0)(s:aJ)(t:Int)(j:Nat)(Z:List D)(hZ:Z.length<=100)(c7:ak aa 31 [ji s] (.agg (jt s)))
  {Q:Exit->St->Prop}(hQ:∀I:List D×Nat,(λ(L:Nat->Bool)=>L 9=true->sv s (1) I.2 I.1) (λ_=>true)->Q .normal ⟨43,((([(9,29,λL=> .aN 3 0 1 I.2),(0,20,λL=> .box 2 0),(1,21,λL=> .box 2 0),(2,22,λL=> .box 2 0),(3,23,λL=> .box 2 0),(4,24,λL=> .box 2 25),(5,25,λL=> .val (.slice none 0 0)),(6,26,λL=>ji s),(7,27,λL=> .agg (jt s)),(8,28,λL=> .list [.agg (jt s)]),(10,30,λL=> .box 2 0),(11,31,λL=> .box 2 0),(12,32,λL=> .box 2 26),(13,33,λL=>bif L 16 then .undef else .own 0),(14,34,λL=> .bM (gu t j)),(15,35,λL=> .list [.bM (gu t j)]),(16,36,λL=> .own 0),(17,37,λL=> .box 2 0),(18,38,λL=> .box 2 25),(20,39,λL=> .box 2 0),(21,40,λL=> .box 2 26)]:fm).foldr (λe f=>put f e.2.1 (e.2.2 λ_=>true)) (cS [(1, .box 0 0),(5, .box 2 0),(17,i64 s.dy),(18,i64 j)]))),(λ(L:Nat->Bool)=>[.mu (eb s), .mp [], .mu (eb s++[bif L 19 then .aN 3 0 1 I.2 else .val (.slice none 0 0),bif L 22 then .own 0 else bif L 16 then .undef else .own 0, .bu 1,i64 0, .own 1, .bool true])]++bif L 9 then[.mu I.1]else[]) (λ_=>true),(λ(L:Nat->Bool)=>[⟨true,95,1,bif L 16 then Z++[.bM (gu t j)]else Z⟩,⟨true,161,1,[]⟩]) (λ_=>true)⟩):
  av ⟨aa,w0,S0,M0,none,own,β⟩ (.region 7 ops true) Q ⟨43,cS [(1, .box 0 0),(5, .box 2 0),(17,i64 s.dy),(18,i64 j)],(λ(I:List D×Nat) (L:Nat->Bool)=>[.mu (eb s), .mp [], .mu (eb s++[bif L 19 then .aN 3 0 1 I.2 else .val (.slice none 0 0),bif L 22 then .own 0 else bif L 16 then .undef else .own 0, .bu 1,i64 0, .own 1, .bool true])]++bif L 9 then[.mu I.1]else[]) (([],0)) (λ_=>false),(λ(I:List D×Nat) (L:Nat->Bool)=>[⟨true,95,1,bif L 16 then Z++[.bM (gu t j)]else Z⟩,⟨true,161,1,[]⟩]) (([],0)) (λ_=>false)⟩:=by
 simp only[dA,eH,e8,Tryz.f8,fw,Nat.reduceBEq,bK,if_false,if_true,eI,eu,eR,iC,reduceIte,eq_self]at bP;subst bP;refine Vf (N:=23) (T:=λI:List D×Nat=>[(9,29,λL=> .aN 3 0 1 I.2),(0,20,λL=> .box 2 0),(1,21,λL=> .box 2 0),(2,22,λL=> .box 2 0),(3,23,λL=> .box 2 0),(4,24,λL=> .box 2 25),(5,25,λL=> .val (.slice none 0 0)),(6,26,λL=>ji s),(7,27,λL=> .agg (jt s)),(8,28,λL=> .list [.agg (jt s)]),(10,30,λL=> .box 2 0),(11,31,λL=> .box 2 0),(12,32,λL=> .box 2 26),(13,33,λL=>bif L 16 then .undef else .own 0),(14,34,λL=> .bM (gu t j)),(15,35,λL=> .list [.bM (gu t j)]),(16,36,λL=> .own 0),(17,37,λL=> .box 2 0),(18,38,λL=> .box 2 25),(20,39,λL=> .box 2 0),(21,40,λL=> .box 2 26)]) (bl:=[(1, .box 0 0),(5, .box 2 0),(17,i64 s.dy),(18,i64 j)]) (B:=(λI L=>[.mu (eb s), .mp [], .mu (eb s++[bif L 19 then .aN 3 0 1 I.2 else .val (.slice none 0 0),bif L 22 then .own 0 else bif L 16 then .undef else .own 0, .bu 1,i64 0, .own 1, .bool true])]++bif L 9 then[.mu I.1]else[])) (W:=(λI L=>[⟨true,95,1,bif L 16 then Z++[.bM (gu t j)]else Z⟩,⟨true,161,1,[]⟩])) (okI:=λI=>sv s (1) I.2 I.1) (i0:=(([],0))) 9 [11,17,32,38,44] ?_ ?_ [(0,[18,32,38,44]),(0,[19,32,38,44]),(0,[19,33,38,44]),(1,[18,32,38,44]),(1,[19,32,38,44]),(1,[19,33,38,44]),(1,[19,33,39,44]),(2,[18,32,38,44]),(3,[5,18,32,38,44]),(4,[7,18,32,38,44]),(5,[9,18,32,38,44]),(6,[18,32,38,44]),(7,[13,18,32,38,44]),(8,[15,18,32,38,44]),(10,[18,32,38,44]),(10,[19,32,38,44]),(11,[18,21,32,38,44]),(11,[19,21,32,38,44]),(12,[18,23,32,38,44]),(12,[19,23,32,38,44]),(13,[18,25,32,38,44]),(13,[19,25,32,38,44]),(15,[18,29,32,38,44]),(15,[19,29,32,38,44]),(17,[1,19,33,38,44]),(18,[19,33,35,38,44]),(19,[19,33,37,44]),(20,[3,19,33,39,44]),(21,[19,33,39,41,44]),(22,[19,33,39,43])] [(14,[18,32,38,44]),(14,[19,32,38,44]),(16,[19,27,31,38,44])] ?_ ?_ ?_ ?_ ?_ ?_ ?_ ?_ ?_
 ·exact Tryz.ty.mixed
 ·rfl
 ·exact ax
 ·rfl
 ·exact aE
 ·exact λI=>rfl
 ·exact λI=>iv
 ·exact Vn
 rotate_left
 ·exact λI=>iw
 ·exact λI h=>hQ I λ_=>h
 intro TF I T b MH hT hb pk pj L o hX ho;have hR:∀L m,bq L L T b m=pS L L _ b m:=λL m=>yy (F:=L) (V:=L) (b:=b) hT m;cases ho;obtain⟨hL,hX⟩:=hX
 replace hX:=af hL hX
 simp only[FA,Nat.reduceDiv,Nat.reduceMod,Nat.reduceBEq,and_true]at hX;have f25:bq L L T b 25= .val (.slice none 0 0):=by simp only[hX,hR,congrFun hb,l_,lZ,fN,gk,kO,put,Nat.reduceEqDiff,Nat.reduceBEq,cond_true,cond_false,if_true,if_false,reduceIte]
 have f28:bq L L T b 28= .list [.agg (jt s)]:=by simp only[hX,hR,congrFun hb,l_,lZ,fN,gk,kO,put,Nat.reduceEqDiff,Nat.reduceBEq,cond_true,cond_false,if_true,if_false,reduceIte]
 refine fS.qO rfl ?_;have t1:Go.Ab.elemOf aa 89=some 67:=ax;have t2:aC aa 67=4:=ax;have t3:(bL aa 67).isSome=true:=ax;have t4:bytesOf aa 67=48:=ax;try simp only[hX,jS,kr,ne_eq,Nat.reduceEqDiff,not_false_eq_true,cond_true,cond_false,eu,eR,eI]
 refine aP.adW f25 (aP.aiQ ⟨by show(29:Nat) < 43;decide, ?_⟩);rw[t1];show aC aa 67≠0/\(bL aa 67).isSome=true/\oY _ (bq L L T b 28) _;rw[f28,t2];refine⟨by decide,t3,λy hy=>by rw[oQ.1 hy];rfl,by simp,by simp,by rw[t4];simp,λdD U cap h1 h2 hU=> ?_⟩;refine⟨(flat [.agg (jt s)]++U,cap),⟨by simp only[eQ,ahu];exact h2,h1,⟨U,rfl⟩,λd hd=>(fA.1 hd).elim (dD d) (hU d)⟩, ?_⟩;have e1:bq (more L 9) (more L 9) (TF (flat [.agg (jt s)]++U,cap)) b=put (bq L L T b) 29 (.aN 3 0 1 cap):=by
  rw[MH,hT];exact aa8 hL aO (by simp[more])
 rw[e1];try simp only[hX,jS,kr,ne_eq,Nat.reduceEqDiff,not_false_eq_true,cond_true,cond_false,eu,eR,eI]
 exact bX.of_eq rfl
theorem adG {ops:Array Oper}(bP:ops=dA Tryz.f8 7)(w0:World)(S0:Addr->Prop)(M0:MM)(own:Nat->Prop)(β:List Nat)(hβ:β.length=0)(s:aJ)(t:Int)(j:Nat)(Z:List D)(hZ:Z.length<=100)(c7:ak aa 31 [ji s] (.agg (jt s)))(hj:j<=100)(iy:List D)(xI:Nat)(hM:sv s j xI iy)
  {Q:Exit->St->Prop}(hQ:∀I:List D×Nat,(λ(L:Nat->Bool)=>L 9=true->sv s (j + 1) I.2 I.1) (λ_=>true)->Q .normal ⟨43,((([(9,29,λL=> .aN 3 0 (j + 1) I.2),(0,20,λL=> .box 2 0),(1,21,λL=> .box 2 0),(2,22,λL=> .box 2 0),(3,23,λL=> .box 2 0),(4,24,λL=> .box 2 25),(5,25,λL=>bif L 9 then .undef else .aN 3 0 j xI),(6,26,λL=>ji s),(7,27,λL=> .agg (jt s)),(8,28,λL=> .list [.agg (jt s)]),(10,30,λL=> .box 2 0),(11,31,λL=> .box 2 0),(12,32,λL=> .box 2 26),(13,33,λL=>bif L 16 then .undef else .own 0),(14,34,λL=> .bM (gu t j)),(15,35,λL=> .list [.bM (gu t j)]),(16,36,λL=> .own 0),(17,37,λL=> .box 2 0),(18,38,λL=> .box 2 25),(20,39,λL=> .box 2 0),(21,40,λL=> .box 2 26)]:fm).foldr (λe f=>put f e.2.1 (e.2.2 λ_=>true)) (cS [(1, .box 0 0),(5, .box 2 0),(17,i64 s.dy),(18,i64 j)]))),(λ(L:Nat->Bool)=>[.mu (eb s), .mp [], .mu (eb s++[bif L 19 then .aN 3 0 (j + 1) I.2 else bif L 9 then .undef else .aN 3 0 j xI,bif L 22 then .own 0 else bif L 16 then .undef else .own 0, .bu 1,i64 0, .own 1, .bool true]), .mu (bif L 9 then I.1 else iy)]) (λ_=>true),(λ(L:Nat->Bool)=>[⟨true,95,1,bif L 16 then Z++[.bM (gu t j)]else Z⟩,⟨true,161,1,[]⟩]) (λ_=>true)⟩):
  av ⟨aa,w0,S0,M0,none,own,β⟩ (.region 7 ops true) Q ⟨43,cS [(1, .box 0 0),(5, .box 2 0),(17,i64 s.dy),(18,i64 j)],(λ(I:List D×Nat) (L:Nat->Bool)=>[.mu (eb s), .mp [], .mu (eb s++[bif L 19 then .aN 3 0 (j + 1) I.2 else bif L 9 then .undef else .aN 3 0 j xI,bif L 22 then .own 0 else bif L 16 then .undef else .own 0, .bu 1,i64 0, .own 1, .bool true]), .mu (bif L 9 then I.1 else iy)]) (([],0)) (λ_=>false),(λ(I:List D×Nat) (L:Nat->Bool)=>[⟨true,95,1,bif L 16 then Z++[.bM (gu t j)]else Z⟩,⟨true,161,1,[]⟩]) (([],0)) (λ_=>false)⟩:=by
 simp only[dA,eH,e8,Tryz.f8,fw,Nat.reduceBEq,bK,if_false,if_true,eI,eu,eR,iC,reduceIte,eq_self]at bP;subst bP;refine Vf (N:=23) (T:=λI:List D×Nat=>[(9,29,λL=> .aN 3 0 (j + 1) I.2),(0,20,λL=> .box 2 0),(1,21,λL=> .box 2 0),(2,22,λL=> .box 2 0),(3,23,λL=> .box 2 0),(4,24,λL=> .box 2 25),(5,25,λL=>bif L 9 then .undef else .aN 3 0 j xI),(6,26,λL=>ji s),(7,27,λL=> .agg (jt s)),(8,28,λL=> .list [.agg (jt s)]),(10,30,λL=> .box 2 0),(11,31,λL=> .box 2 0),(12,32,λL=> .box 2 26),(13,33,λL=>bif L 16 then .undef else .own 0),(14,34,λL=> .bM (gu t j)),(15,35,λL=> .list [.bM (gu t j)]),(16,36,λL=> .own 0),(17,37,λL=> .box 2 0),(18,38,λL=> .box 2 25),(20,39,λL=> .box 2 0),(21,40,λL=> .box 2 26)]) (bl:=[(1, .box 0 0),(5, .box 2 0),(17,i64 s.dy),(18,i64 j)]) (B:=(λI L=>[.mu (eb s), .mp [], .mu (eb s++[bif L 19 then .aN 3 0 (j + 1) I.2 else bif L 9 then .undef else .aN 3 0 j xI,bif L 22 then .own 0 else bif L 16 then .undef else .own 0, .bu 1,i64 0, .own 1, .bool true]), .mu (bif L 9 then I.1 else iy)])) (W:=(λI L=>[⟨true,95,1,bif L 16 then Z++[.bM (gu t j)]else Z⟩,⟨true,161,1,[]⟩])) (okI:=λI=>sv s (j + 1) I.2 I.1) (i0:=(([],0))) 9 [11,17,32,38,44] ?_ ?_ [(0,[18,32,38,44]),(0,[19,32,38,44]),(0,[19,33,38,44]),(1,[18,32,38,44]),(1,[19,32,38,44]),(1,[19,33,38,44]),(1,[19,33,39,44]),(2,[18,32,38,44]),(3,[5,18,32,38,44]),(4,[7,18,32,38,44]),(5,[9,18,32,38,44]),(6,[18,32,38,44]),(7,[13,18,32,38,44]),(8,[15,18,32,38,44]),(10,[18,32,38,44]),(10,[19,32,38,44]),(11,[18,21,32,38,44]),(11,[19,21,32,38,44]),(12,[18,23,32,38,44]),(12,[19,23,32,38,44]),(13,[18,25,32,38,44]),(13,[19,25,32,38,44]),(15,[18,29,32,38,44]),(15,[19,29,32,38,44]),(17,[1,19,33,38,44]),(18,[19,33,35,38,44]),(19,[19,33,37,44]),(20,[3,19,33,39,44]),(21,[19,33,39,41,44]),(22,[19,33,39,43])] [(14,[18,32,38,44]),(14,[19,32,38,44]),(16,[19,27,31,38,44])] ?_ ?_ ?_ ?_ ?_ ?_ ?_ ?_ ?_
 ·exact Tryz.ty.mixed
 ·rfl
 ·exact ax
 ·rfl
 ·exact aE
 ·exact λI=>rfl
 ·exact λI=>iv
 ·exact Vn
 rotate_left
 ·exact λI=>iw
 ·exact λI h=>hQ I λ_=>h
 intro TF I T b MH hT hb pk pj L o hX ho;have hR:∀L m,bq L L T b m=pS L L _ b m:=λL m=>yy (F:=L) (V:=L) (b:=b) hT m;cases ho;obtain⟨hL,hX⟩:=hX
 replace hX:=af hL hX
 simp only[FA,Nat.reduceDiv,Nat.reduceMod,Nat.reduceBEq,and_true]at hX;have f25:bq L L T b 25=bif L 9 then .undef else .aN 3 0 j xI:=by simp only[hX,hR,congrFun hb,l_,lZ,fN,gk,kO,put,Nat.reduceEqDiff,Nat.reduceBEq,cond_true,cond_false,if_true,if_false,reduceIte]
 simp only[hX,cond_true,cond_false]at f25;have f28:bq L L T b 28= .list [.agg (jt s)]:=by simp only[hX,hR,congrFun hb,l_,lZ,fN,gk,kO,put,Nat.reduceEqDiff,Nat.reduceBEq,cond_true,cond_false,if_true,if_false,reduceIte]
 refine fS.qO rfl ?_;have t1:Go.Ab.elemOf aa 89=some 67:=ax;have t2:aC aa 67=4:=ax;have t3:(bL aa 67).isSome=true:=ax;have t4:bytesOf aa 67=48:=ax;try simp only[hX,jS,kr,ne_eq,Nat.reduceEqDiff,not_false_eq_true,cond_true,cond_false,eu,eR,eI]
 obtain⟨a1,a2,⟨U0,a3⟩,a4⟩:=hM;refine aP.grow ⟨by show(29:Nat) < 43;decide, ?_⟩;rw[t1];show aC aa 67≠0/\(bL aa 67).isSome=true/\oY _ (bq L L T b 28) _;rw[f28,t2];refine⟨by decide,t3,λy hy=>by rw[oQ.1 hy];rfl,by simp,3,j,xI,iy,f25,rfl,by show β.length<=3;omega,a1,a2,by simp;omega,by rw[t4];simp;omega,a4,λU cap h1 h2 hU=> ?_⟩;have fv:flat [(.agg (jt s):D)]=jt s:=by simp[flat,D.cells]
 have aw:iy.take (j * 4)++flat [.agg (jt s)]++U=lN s (j + 1)++U:=by rw[a3,List.take_left' (Hb s j),Sg,fv]
 refine⟨(lN s (j + 1)++U,cap),⟨by rw[eQ,Hb];simpa using h2,by simpa using h1,⟨U,rfl⟩,λd hd=>(fA.1 hd).elim (aej s _ d) (hU d)⟩, ?_⟩;have e1:bq (more L 9) (more L 9) (TF (lN s (j + 1)++U,cap)) b=put (sj (λq=>q == 3||decide (4<=q)) (bq L L T b)) 29 (.aN 3 0 (j + 1) cap):=by
  rw[MH,hT];exact aa7 hL aO (by rw[hb];exact V0 rfl) (by simp only[List.forall_mem_cons,ny,false_implies,implies_true,and_true,hX,jS,kr,ne_eq,Nat.reduceEqDiff,not_false_eq_true,cond_true,cond_false];(repeat' apply af)<;>exact λ_=>rfl)
 rw[e1];try simp only[hX,jS,kr,ne_eq,Nat.reduceEqDiff,not_false_eq_true,cond_true,cond_false,eu,eR,eI]
 rw[aw];exact bX.of_eq rfl
theorem Rq (t:Int)(s:aJ)(h:kJ s)(hs:qB s):aH aa 8 [ji s] [] [] (λd aB aD=>∃cs cap,sv s s.dy.toNat cap cs/\d= .aF [.box 0 0,i64 0]/\aB=[.mu (ay s s.dy.toNat cap 0), .mp [], .mu cs]/\aD=[pT t s.dy.toNat,az 0]):=by
 have c1:=aj' s h;have c2:=aeN s h hs;have c7:=VR s;have dS:=h.2.1;refine cU func8 ntmps8 results8 call8 λW0 S0 M0 own β hβ=> ?_;have wX:β.length=0:=by rw[hβ];rfl
 repeat'(first|(exact rfl)|refine aq ?_|refine au λK hK=> ?_|refine cA (c1) ?_|refine cA (c2) ?_|(intro hg;try exact ai)|exact fin|apply af)
 refine B3 2 26 95 1 _ rfl rfl ?_;refine B3 2 29 161 1 _ rfl rfl ?_;refine dn (ι:=Nat×List D×Nat) (λi=>[(1, .box 0 0),(5, .box 2 0),(17,i64 s.dy),(18,i64 (i.1:Nat))]) (λi=>AG s i.1 i.2.1 i.2.2) (λi=>[pT t i.1,az 0])
  (λi=>(i.1:Int)<=s.dy/\(i.1≠0->sv s i.1 i.2.2 i.2.1)) (λi=>s.dy.toNat - i.1) (λi hi=>⟨by cases i.1<;>rfl,KZ s _ _ _ hi.2⟩) (0,[],0) ⟨by simp only;omega,λhh=>absurd rfl hh⟩ bY (λi hi=> ?_) (λ_ _=>by rw[hβ];simp)
 obtain⟨j,cs,cap⟩:=i;obtain⟨hj,hM⟩:=hi;simp only at hj hM⊢;by_cases aG:(j:Int) < s.dy
 ·have r1:=abk t;cases j with
  |zero=>
   simp only[AG];refine aj ?_;repeat'(first|(show av _ (.region 7 _ true) _ _;refine bJ ?_)|refine aq ?_|refine au λK hK=> ?_|(intro hg;try exact ai)|exact fin|apply af)
   refine b_ ?_;refine nv (cR 43 [(1, .box 0 0),(5, .box 2 0),(17,i64 s.dy),(18,i64 (0:Nat))] [.mu (eb s), .mp [], .mu (eb s++[.val (.slice none 0 0), .own 0, .bu 1,i64 0, .own 1, .bool true])] [pT t 0,az 0]) (br rfl (by simp[put]) ⟨[],rfl⟩ ⟨[],rfl⟩) (ik rfl rfl) (by rw[hβ];exact bD _) ?_;refine adF (by rfl) _ _ _ _ _ wX s t 0 (mc t 0) (by rw[Ko];omega) c7 ?_;rintro⟨IE,NR⟩ hI;have hI:=hI rfl;simp only[e_,cond_true,cj,bH,eR,eI];simp only[r1];repeat'(first|refine aq ?_|refine au λK hK=> ?_|(intro hg;try exact ai)|exact fin|apply af)
   all_goals first
   |(exact⟨(1,IE,NR),⟨by simp only;omega,λ_=>hI⟩,by simp only;omega,bY⟩)
  |succ j=>
   have te:=hM (Jr _);have bE:bN 4 2 cs=true:=ec λd hd=>eG (te.2.2.2 d hd);simp only[AG];refine aj ?_;repeat'(first|(show av _ (.region 7 _ true) _ _;refine bJ ?_)|refine aq ?_|refine au λK hK=> ?_|(intro hg;try exact ai)|exact fin|apply af)
   refine b_ ?_;refine nv (cR 43 [(1, .box 0 0),(5, .box 2 0),(17,i64 s.dy),(18,i64 ((j + 1:Nat):Nat))] [.mu (eb s), .mp [], .mu (eb s++[.aN 3 0 (j + 1) cap, .own 0, .bu 1,i64 0, .own 1, .bool true]), .mu cs] [pT t (j + 1),az 0]) (br rfl (by simp[put]) ⟨[],rfl⟩ ⟨[],rfl⟩) (ik rfl (KZ s (j + 1) cs cap hM)) (by rw[hβ];exact bD _) ?_;refine adG (by rfl) _ _ _ _ _ wX s t (j + 1) (mc t (j + 1)) (by rw[Ko];omega) c7 ae cs cap te ?_;rintro⟨IE,NR⟩ hI;have hI:=hI rfl;simp only[e_,cond_true,cj,bH];simp only[r1];repeat'(first|refine aq ?_|refine au λK hK=> ?_|(intro hg;try exact ai)|exact fin|apply af)
   all_goals first
   |(exact⟨(j + 2,IE,NR),⟨by simp only;omega,λ_=>hI⟩,by simp only;omega,br rfl (by try refine aj ?_;try simp;try omega) ⟨[],rfl⟩ ⟨[],rfl⟩⟩)
 ·obtain⟨n,hn⟩:∃n:Nat,s.dy=n:=⟨s.dy.toNat,ae⟩;obtain rfl:j=n:=ae;cases j with
  |zero=>exfalso;omega
  |succ j=>
   have te:=hM (Jr _);simp only[AG];refine aj ?_;repeat'(first|(show av _ .ret _ _;refine bJ ?_)|refine aq ?_|refine au λK hK=> ?_|(intro hg;try exact ai)|exact fin|apply af)
   refine b_ ?_;refine nv (cR 43 [(2, .box 2 0),(3,i64 0)] [.mu (eb s), .mp [], .mu (eb s++[.aN 3 0 (j + 1) cap, .own 0, .bu 1,i64 0, .own 1, .bool true]), .mu cs] [pT t (j + 1),az 0]) (br rfl (by simp[put]) ⟨[],rfl⟩ ⟨[],rfl⟩) (ik rfl (KZ s (j + 1) cs cap hM)) (by rw[hβ];exact bD _) ?_;refine ep (C4 [2,1,3] (l':=[(2, .box 0 0),(3,i64 0)]) (aB:=[.mu (ay s (j + 1) cap 0), .mp [], .mu cs]) aE (λi hi=>by rw[hβ]at hi;cases hi) rfl ?_) ?_
   ·have e:ko (pos [2,1,3] 0) cs=cs:=AD te.2.2.2;simp only[qL,ib,List.map_nil,List.getElem?_cons_zero,List.getElem?_cons_succ,nL,e];rfl
   refine tp ?_;have ej:s.dy.toNat=j + 1:=ae;rw[ej];show cC _ _ _ _ _;refine aj ?_;exact⟨cs,cap,te,rfl⟩
end Go.Proofs.YtafmfhkplgapjaaGreatDoor
namespace Go.Proofs.YtafmfhkplgapjaaGreatDoor
set_option maxRecDepth 100000
set_option maxHeartbeats 4000000
open Go.Ab
attribute[local irreducible] av dL dY ak aH cY IA ez aP fM
theorem aek {cs U:List D}{W R:Nat}{sl:Int}{S:List aS}{j:Nat}(hd:cs.drop (j * 4)=cx W R sl S++U):((cs.drop (0 + j * 4)).take 4)=cx W R sl S:=by
 rw[Nat.zero_add,hd];rfl
theorem K6 (s:aJ)(n cap:Nat)(cost day:Int)(cs U:List D)(W R:Nat)(sl:Int)(S:List aS)(R0:Row)(na:Nat)(aw:∀d∈cs,Names 0 0 d)(dS:0<=s.dy/\s.dy<=100)(hr:0<=day/\day<=s.dy - 1)(hd:cs.drop (day.toNat * 4)=cx W R sl S++U)(bf:cs.length=cap * 4)(hn:n<=cap)(dH:n<=100)(fI:day < n):
  aH aa 49 [.box 0 0,i64 day] [.mu (ay s n cap cost), .mp [], .mu cs] [R0,az na] (aT (.aF [.agg (cx W R sl S),i64 0]) [.mu (ay s n cap cost), .mp [], .mu cs] [R0,az na]):=by
 have bE:∀nb nr,bN nb nr cs=true:=λnb nr=>ec λd hd=>eG (aw d hd);have h4:=aek hd;have hlen:day.toNat * 4 + 4<=cs.length:=ae;have c1:=Di s (.aN 2 0 n cap) (.own 0) (.bu 1) cost (.own 1) [.mp [], .mu cs, .mu [i64 0,i64 0,i64 0, .val (.slice none 0 0)]] [R0,az na];have c2:=AR s (.aN 2 0 n cap) (.own 0) (.bu 1) cost (.own 1) dS day [.mp [], .mu cs, .mu [i64 0,i64 0,i64 0, .val (.slice none 0 0)]] [R0,az na];rw[decide_eq_true hr]at c2;refine lD ?_ rfl (by simp only[a7,bE];rfl) (aY _);refine cU func49 ntmps49 results49 call49 λW0 S0 M0 own β hβ=> ?_;repeat'(first|(show av _ (.region 1 _ _) _ _;refine et 1 rfl (λK1 aA=> ?_);refine aj ?_)|(refine aA _ (eZ c1 ?_);simp only[aU,Nat.reduceAdd];refine aj ?_)|(show av _ (.region 3 _ _) _ _;refine et 2 rfl (λK2 pC=> ?_);refine aj ?_)|(refine pC _ (eZ c2 ?_);simp only[aU,Nat.reduceAdd];refine aj ?_)|(show cC _ _ _ _ _;refine aj ?_)|refine aq ?_|refine au λK hK=> ?_|(intro hg;try exact ai)|exact fin|apply af)
 all_goals first
  |(rw[List.length_drop];omega)
  |(simp only[h4];rfl)
  |(simp only[h4];exact aY _)
  |exact⟨[],rfl⟩
  |exact⟨_,rfl⟩
theorem aiX (s:aJ)(n cap:Nat)(cost day:Int)(cs U:List D)(W R:Nat)(sl:Int)(S:List aS)(R0:Row)(na:Nat)(aw:∀d∈cs,Names 0 0 d)(dS:0<=s.dy/\s.dy<=100)(hr:0<=day/\day<=s.dy - 1)(hd:cs.drop (day.toNat * 4)=cx W R sl S++U)(bf:cs.length=cap * 4)(hn:n<=cap)(dH:n<=100)(fI:day < n)(hM:dB W R sl S)(hC:fp W sl S):
  aH aa 243 [.box 0 0,i64 day] [.mu (ay s n cap cost), .mp [], .mu cs] [R0,az na] (aT (.aF [.agg [i64 (W:Nat),ints (se W sl S (W * R))],i64 0]) [.mu (ay s n cap cost), .mp [], .mu cs] [R0,az na]):=by
 have bE:∀nb nr,bN nb nr cs=true:=λnb nr=>ec λd hd=>eG (aw d hd);have c1:=gC (nr:=2) [.mu [i64 0, .val (.slice none 0 0)]] (K6 s n cap cost day cs U W R sl S R0 na aw dS hr hd bf hn dH fI);have c2:=VS W R sl S hM hC;refine lD ?_ rfl (by simp only[a7,bE];rfl) (aY _);refine cU func243 ntmps243 results243 call243 λW0 S0 M0 own β hβ=> ?_;repeat'(first|(show av _ (.region 1 _ _) _ _;refine et 2 rfl (λK1 aA=> ?_);refine aj ?_)|(refine aA _ (eZ c1 ?_);simp only[aU,Nat.reduceAdd];refine aj ?_)|(show cC _ _ _ _ _;refine aj ?_)|refine aq ?_|refine au λK hK=> ?_|refine cA (c2) ?_|(intro hg;try exact ai)|exact fin|apply af)
 all_goals first
  |exact⟨[],rfl⟩
  |exact⟨_,rfl⟩
theorem Si (s:aJ)(n cap:Nat)(cost day:Int)(cs U:List D)(W R:Nat)(sl:Int)(S:List aS)(R0:Row)(na:Nat)(pt lv:Int)(aw:∀d∈cs,Names 0 0 d)(dS:0<=s.dy/\s.dy<=100)(hr:0<=day/\day<=s.dy - 1)(hd:cs.drop (day.toNat * 4)=cx W R sl S++U)(bf:cs.length=cap * 4)(hn:n<=cap)(dH:n<=100)(fI:day < n)(hM:dB W R sl S)(hC:fp W sl S):
  aH aa 11 [.box 0 0,i64 day,i64 pt,i64 lv] [.mu (ay s n cap cost), .mp [], .mu cs] [R0,az na] (aT (.aF [i64 (iE W R sl S pt lv false).1,i64 (iE W R sl S pt lv false).2]) [.mu (ay s n cap cost), .mp [], .mu cs] [R0,az na]):=by
 have bE:∀nb nr,bN nb nr cs=true:=λnb nr=>ec λd hd=>eG (aw d hd);have c1:=K6 s n cap cost day cs U W R sl S R0 na aw dS hr hd bf hn dH fI;have c2:=aeo W R sl S hM hC pt lv;generalize(iE W R sl S pt lv false).1=x at *;generalize(iE W R sl S pt lv false).2=y at *;refine lD ?_ rfl (by simp only[a7,bE];rfl) (aY _);refine cU func11 ntmps11 results11 call11 λW0 S0 M0 own β hβ=> ?_;repeat'(first|(show av _ (.region 1 _ _) _ _;refine et 2 rfl (λK1 aA=> ?_);refine aj ?_)|(refine aA _ (eZ c1 ?_);simp only[aU,Nat.reduceAdd];refine aj ?_)|(show cC _ _ _ _ _;refine aj ?_)|refine aq ?_|refine au λK hK=> ?_|refine cA (c2) ?_|(intro hg;try exact ai)|exact fin|apply af)
 all_goals first
  |exact⟨[],rfl⟩
  |exact⟨_,rfl⟩
theorem Uh (s:aJ)(n cap:Nat)(cost day:Int)(cs U:List D)(W R:Nat)(sl:Int)(S:List aS)(R0:Row)(na:Nat)(pt lv:Int)(aw:∀d∈cs,Names 0 0 d)(dS:0<=s.dy/\s.dy<=100)(hr:0<=day/\day<=s.dy - 1)(hd:cs.drop (day.toNat * 4)=cx W R sl S++U)(bf:cs.length=cap * 4)(hn:n<=cap)(dH:n<=100)(fI:day < n)(hM:dB W R sl S)(hC:fp W sl S):
  aH aa 12 [.box 0 0,i64 day,i64 pt,i64 lv] [.mu (ay s n cap cost), .mp [], .mu cs] [R0,az na] (aT (.aF [i64 (iE W R sl S pt lv true).1,i64 (iE W R sl S pt lv true).2]) [.mu (ay s n cap cost), .mp [], .mu cs] [R0,az na]):=by
 have bE:∀nb nr,bN nb nr cs=true:=λnb nr=>ec λd hd=>eG (aw d hd);have c1:=K6 s n cap cost day cs U W R sl S R0 na aw dS hr hd bf hn dH fI;have c2:=agw W R sl S hM hC pt lv;generalize(iE W R sl S pt lv true).1=x at *;generalize(iE W R sl S pt lv true).2=y at *;refine lD ?_ rfl (by simp only[a7,bE];rfl) (aY _);refine cU func12 ntmps12 results12 call12 λW0 S0 M0 own β hβ=> ?_;repeat'(first|(show av _ (.region 1 _ _) _ _;refine et 2 rfl (λK1 aA=> ?_);refine aj ?_)|(refine aA _ (eZ c1 ?_);simp only[aU,Nat.reduceAdd];refine aj ?_)|(show cC _ _ _ _ _;refine aj ?_)|refine aq ?_|refine au λK hK=> ?_|refine cA (c2) ?_|(intro hg;try exact ai)|exact fin|apply af)
 all_goals first
  |exact⟨[],rfl⟩
  |exact⟨_,rfl⟩
theorem Kx {d:D}{σ τ:Nat->Option Nat}(h:Names 0 0 d):d.rn σ τ=d:=by
 have key:∀cs:List D,(∀d∈cs,d.rn σ τ=d)->nK σ τ cs=cs:=λcs=>by
  induction cs with
  |nil=>intro _;rfl
  |cons d cs ih=>intro h;simp only[nK];rw[h d (dI ..),ih λx hx=>h x (dW _ hx)]
 induction h with
 |agg cs h ih=>simp only[D.rn];rw[key cs ih]
 |aF cs h ih=>simp only[D.rn];rw[key cs ih]
 |ag f cs h ih=>simp only[D.rn];rw[key cs ih]
 |cL f cs h ih=>simp only[D.rn];rw[key cs ih]
 |own r h=>exact absurd h (dF _)
 |box i off h=>exact absurd h (dF _)
 |aN i off n c h=>exact absurd h (dF _)
 |bu i h=>exact absurd h (dF _)
 |_=>simp only[D.rn]
theorem Lm {cs:List D}{σ τ:Nat->Option Nat}(h:∀d∈cs,Names 0 0 d):cs.map (D.rn σ τ)=cs:=
 (oS (g:=id) λd hd=>Kx (h d hd)).trans (v8 _)
theorem Az {cs:List D}{σ τ:Nat->Option Nat}(h:∀d∈cs,Names 0 0 d):nK σ τ cs=cs:=by
 rw[AA];exact Lm h
theorem aiV {d:D}{nb:Nat}{jx:List Nat}(h:Names 0 0 d):xG nb jx d=d:=by
 have h1:cq nb 0 d=true:=eG h;unfold xG;split
 ·cases h;rename_i h;exact absurd h (dF _)
 ·unfold iJ;rw[h1];rfl
theorem Nw {cs:List D}{nb:Nat}{jx:List Nat}(h:∀d∈cs,Names 0 0 d):cs.map (xG nb jx)=cs:=
 (oS (g:=id) λd hd=>aiV (h d hd)).trans (v8 _)
theorem GK {σ τ:Nat->Option Nat}(A:List Int):((db A).map λe=>(e.1.rn σ τ,e.2.rn σ τ))=db A:=by
 unfold db;rw[List.map_map];exact oS λz _=>rfl
abbrev np (s:aJ)(n cap:Nat)(cost:Int)(i r:Nat):List D:=eb s++[.aN (i + 2) 0 n cap, .own r, .bu (i + 1),i64 cost, .own (r + 1), .bool true]
abbrev qK (s:aJ)(n ca cb:Nat)(coA coB:Int)(csA csB:List D)(mA mB:List Int):List Bx:=[.mu (np s n ca coA 0 0), .mp [], .mu csA, .mu (np s n cb coB 3 2), .mp [], .mu csB, .mp (db mA), .mp (db mB)]
abbrev Am (xA xB:List D)(kA kB:Nat):List Row:=[dC xA,az kA,dC xB,az kB]
theorem xD {f:FuncId}{ds:List D}{s:aJ}{n cap na RQ:Nat}{co Wf:Int}{cs cm xs:List D}{d:D}(m:Nat)(A:List Int)
  (h:aH aa f ds [.mu (ay s n cap co), .mp [], .mu cs] [dC xs,az na] (aT d [.mu (ay s n cap Wf), .mp [], .mu cm] [dC xs,az RQ]))
  (aw:∀d∈cs,Names 0 0 d)(UK:∀d∈cm,Names 0 0 d)(kW:∀x∈ds,cq 3 2 x=true)(hd:Names 0 0 d):
  cY aa 3 m f ds [.mu (ay s n cap co), .mp [], .mu cs, .mp (db A)] [dC xs,az na] (aT d [.mu (ay s n cap Wf), .mp [], .mu cm, .mp (db A)] [dC xs,az RQ]):=by
 have bE:∀nb nr,bN nb nr cs=true:=λnb nr=>ec λd hd=>eG (aw d hd);have agm:∀nb nr,bN nb nr cm=true:=λnb nr=>ec λd hd=>eG (UK d hd);exact aH.tie 3 m (gC (nr:=2) [.mp (db A)] h rfl (by simp only[a7,bE];rfl) (by simp only[a7,agm];rfl) (eG hd) (List.all_eq_true.2 kW) rfl)
theorem EI {f:FuncId}{ds:List D}{s:aJ}{n ca cb nA RU nB m:Nat}{coA NN coB:Int}{csA ID csB xA xB:List D}{A A' B:List Int}{d:D}
  (h:cY aa 3 m f (.box 0 0::ds) [.mu (ay s n ca coA), .mp [], .mu csA, .mp (db A)] [dC xA,az nA] (aT d [.mu (ay s n ca NN), .mp [], .mu ID, .mp (db A')] [dC xA,az RU]))
  (hA:∀d∈csA,Names 0 0 d)(hA':∀d∈ID,Names 0 0 d)(hB:∀d∈csB,Names 0 0 d)(kW:∀x∈ds,Names 0 0 x)(hd:Names 0 0 d):
  cY aa 6 m f (.box 0 0::ds) (qK s n ca cb coA coB csA csB A B) (Am xA xB nA nB) (aT d (qK s n ca cb NN coB ID csB A' B) (Am xA xB RU nB)):=by
 refine(h.uw [0,1,2,6] [0,1] rfl aE aE aO aO ?_ rfl ?_ ?_).mono ?_
 ·show[dZ _ _ (.mu (np s n ca coA 0 0)),dZ _ _ (.mp []),dZ _ _ (.mu csA),dZ _ _ (.mp (db A))]=_;simp only[dZ,Az hA,GK];rfl
 ·rw[ib,Lm kW];rfl
 ·rintro d aB aD ⟨rfl,rfl,rfl⟩;exact aY 2
 ·rintro d0 jc k_ ⟨d1,cH,fF,⟨rfl,rfl,rfl⟩,_,rfl,rfl,rfl⟩;refine⟨Kx hd, ?_,rfl⟩;show[dZ _ _ (.mu (ay s n ca NN)),dZ _ _ (.mp []),dZ _ _ (.mu ID),iU _ _ (.mu (np s n cb coB 3 2)), .mp [],iU _ _ (.mu csB),dZ _ _ (.mp (db A')), .mp (db B)]=_;simp only[dZ,iU,Az hA',Nw hB,GK];rfl
theorem BB {f:FuncId}{ds:List D}{s:aJ}{n ca cb nA RT nB m:Nat}{coA NM coB:Int}{csA IB csB xA xB:List D}{A B' B:List Int}{d:D}
  (h:cY aa 3 m f (.box 0 0::ds) [.mu (ay s n cb coB), .mp [], .mu csB, .mp (db B)] [dC xB,az nB] (aT d [.mu (ay s n cb NM), .mp [], .mu IB, .mp (db B')] [dC xB,az RT]))
  (hA:∀d∈csA,Names 0 0 d)(rb:∀d∈IB,Names 0 0 d)(hB:∀d∈csB,Names 0 0 d)(kW:∀x∈ds,Names 0 0 x)(hd:Names 0 0 d):
  cY aa 7 m f (.box 3 0::ds) (qK s n ca cb coA coB csA csB A B) (Am xA xB nA nB) (aT d (qK s n ca cb coA NM csA IB A B') (Am xA xB nA RT)):=by
 refine(h.uw [3,4,5,7] [2,3] rfl aE aE aO aO ?_ rfl ?_ ?_).mono ?_
 ·show[dZ _ _ (.mu (np s n cb coB 3 2)),dZ _ _ (.mp []),dZ _ _ (.mu csB),dZ _ _ (.mp (db B))]=_;simp only[dZ,Az hB,GK];rfl
 ·rw[ib,Lm kW];rfl
 ·rintro d aB aD ⟨rfl,rfl,rfl⟩;exact aY 2
 ·rintro d0 jc k_ ⟨d1,cH,fF,⟨rfl,rfl,rfl⟩,_,rfl,rfl,rfl⟩;refine⟨Kx hd, ?_,rfl⟩;show[iU _ _ (.mu (np s n ca coA 0 0)), .mp [],iU _ _ (.mu csA),dZ _ _ (.mu (ay s n cb NM)),dZ _ _ (.mp []),dZ _ _ (.mu IB), .mp (db A),dZ _ _ (.mp (db B'))]=_;simp only[dZ,iU,Az rb,Nw hA,GK];rfl
abbrev dK (s:aJ)(P U:List D)(S:List aS):List D:=P++cx s.wd.toNat s.rw.toNat s.sl S++U
theorem ow {s:aJ}{P U:List D}{S:List aS}(hP:∀d∈P,Names 0 0 d)(hU:∀d∈U,Names 0 0 d):∀d∈dK s P U S,Names 0 0 d:=λd h=>by
 rcases fA.1 h with h|h
 ·rcases fA.1 h with h|h
  ·exact hP d h
  ·simp only[cx,eK,ny,or_false]at h;rcases h with rfl|rfl|rfl|rfl<;>constructor
 ·exact hU d h
theorem ET {s:aJ}{P U:List D}{S:List aS}{n:Nat}(h:P.length=n):(dK s P U S).drop n=cx s.wd.toNat s.rw.toNat s.sl S++U:=by
 rw[dK,kK,List.drop_left' h]
theorem V2 {s:aJ}{P U:List D}{S S':List aS}{n:Nat}(h:P.length=n):(dK s P U S).take n++cx s.wd.toNat s.rw.toNat s.sl S'++U=dK s P U S':=by
 rw[show dK s P U S=P++(cx s.wd.toNat s.rw.toNat s.sl S++U)from kK _ _ _,List.take_left' h]
theorem BI {s:aJ}{P U:List D}{S:List aS}{n cap:Nat}(h:P.length=n * 4)(hn:n < cap)(hU:U.length=(cap - n - 1) * 4):(dK s P U S).length=cap * 4:=by
 simp only[dK,eQ,cx,List.length_cons,List.length_nil];omega
theorem P' (s:aJ)(aW:kJ s)(n cap m0:Nat)(dy:Int)(L:List aS)(xs P U:List D)(i na dz:Nat)(hi:i<=6)(hP:∀d∈P,Names 0 0 d)(hU:∀d∈U,Names 0 0 d)(lz:P.length=dz * 4)(Ex:U.length=(cap - dz - 1) * 4)(hz:(0<=dy/\dy<=s.dy - 1)->dz=dy.toNat)(qm:dz < n)(iR:(n:Int)=s.dy)(hn:n<=cap)(mX:xs.length=n)(hx:xs[dz]? =some (.val (.map (some m0)))):
  cY aa 3 m0 9 [.box 0 0,i64 (i:Nat),i64 dy,i64 (nth L i).p, .agg [i64 (nth L i).lo,i64 (nth L i).hi]] [.mu (ay s n cap 0), .mp [], .mu (dK s P U (dO s dy L i).1), .mp (db (dO s dy L i).2)] [dC xs,az (dO s dy L i).1.length]
   (aT (i64 (u3 s dy L i)) [.mu (ay s n cap 0), .mp [], .mu (dK s P U (dO s dy L (i + 1)).1), .mp (db (dO s dy L (i + 1)).2)] [dC xs,az (dO s dy L (i + 1)).1.length]):=by
 obtain⟨h1,h2,h3⟩:=Gz s dy L i;have dS:=aW.2.1;have Mc:=Kq aW.2.2.1 dy L i ae;have hA:(i:Int)∉(dO s dy L i).2:=λh=>by have:=h3 _ h;omega
 have aw:∀d∈dK s P U (dO s dy L i).1,Names 0 0 d:=ow hP hU;by_cases hb:tN s dy (nth L i).p (nth L i).lo (nth L i).hi=true
 ·obtain⟨h4,h5⟩:=P7 aW.2.2.1 hb;have qV:=hz h4;have zg:(dK s P U (dO s dy L i).1).drop (dy.toNat * 4)=cx s.wd.toNat s.rw.toNat s.sl (dO s dy L i).1++U:=ET (by rw[lz,qV]);have hlen:(dK s P U (dO s dy L i).1).length=cap * 4:=BI lz ae Ex;have iq:=Ln Mc ae h5;have wY:xs[dy.toNat]? =some (.val (.map (some m0))):=by rw[<-qV];exact hx
  by_cases hc:fp s.wd.toNat s.sl ((dO s dy L i).1++[nth L i])
  ·have h6:=abe s aW n cap (dO s dy L i).1.length m0 (i:Nat) 0 dy (nth L i).p (nth L i).lo (nth L i).hi _ xs (dO s dy L i).2 aw ae ae U (dO s dy L i).1 h4 zg hlen hn ae ae ae iq ae ae wY hA hb hc;rw[V2 (by rw[lz,qV])]at h6;have e1:dO s dy L (i + 1)=((dO s dy L i).1++[nth L i],(dO s dy L i).2++[(i:Int)]):=by
    show(if _ then _ else _)=_;rw[if_pos ⟨hb,hc⟩]
   have e2:u3 s dy L i=0:=by unfold u3;rw[if_pos hb,if_pos hc]
   rw[e1,e2];simp only[eQ,Cj];exact h6
  ·have h6:=abg s aW n cap (dO s dy L i).1.length m0 (i:Nat) 0 dy (nth L i).p (nth L i).lo (nth L i).hi _ xs (dO s dy L i).2 aw ae ae U (dO s dy L i).1 h4 zg hlen hn ae ae ae iq ae ae wY hA hb hc;have e1:dO s dy L (i + 1)=dO s dy L i:=by
    show(if _ then _ else _)=_;rw[if_neg (λh=>hc h.2)]
   have e2:u3 s dy L i=7:=by unfold u3;rw[if_pos hb,if_neg hc]
   rw[e1,e2];exact h6
 ·have iH:tN s dy (nth L i).p (nth L i).lo (nth L i).hi=false:=by simpa using hb
  have h6:=abh s aW n cap (dO s dy L i).1.length m0 (i:Nat) 0 dy (nth L i).p (nth L i).lo (nth L i).hi _ xs (dO s dy L i).2 aw ae ae iH;have e1:dO s dy L (i + 1)=dO s dy L i:=by
   show(if _ then _ else _)=_;rw[if_neg (λh=>hb h.1)]
  have e2:u3 s dy L i=2:=by unfold u3;rw[if_neg hb]
  rw[e1,e2];exact h6
def JA (C:List (List ByteArray)):Prop:=C.length<=9223372036854775807/\∀i,i < C.length->(nth C i).length<=9223372036854775807/\∀k,k < (nth C i).length->(nth (nth C i) k).size<=9223372036854775807
def XP (g:List ByteArray):Prop:=g.length<=5/\∀k,k < g.length->(nth g k).size<=8
def tD (C:List (List ByteArray)):Prop:=C.length<=3/\∀i,i < C.length->XP (nth C i)
noncomputable instance(C:List (List ByteArray)):Decidable (tD C):=Classical.propDecidable _
theorem akL (C:List (List ByteArray))(h:JA C):ak aa 6 [.list (C.map aX)] (.bool (decide (tD C))):=by
 obtain⟨h1,h2⟩:=h;refine cT func6 ntmps6 results6 call6 λw0 S0 M0=> ?_;repeat'(first|refine bh ?_|((first|refine bj λK hK=> ?_|refine bg ?_|show bb _ _ _ _ _);(refine sX (@ia) ?_))|(intro hg;try exact ai)|exact fin|apply af)
 refine dn (ι:=Nat) (λj=>[(0, .list (C.map aX)),(3,i64 (j:Nat))]) (λ_=>[]) (λ_=>[]) (λj=>j<=C.length/\j<=4/\∀i,i < j->XP (nth C i)) (λj=>C.length - j) (λ_ _=>⟨rfl,rfl⟩) 0 ⟨bD _,ae,λi hi=>absurd hi (dF _)⟩ (br rfl (by try refine sX (@ia) ?_;try simp) ⟨_,rfl⟩ ⟨_,rfl⟩) (λj ⟨hj,Ue,cP⟩=> ?_);by_cases aG:j < C.length/\j < 4
 ·obtain⟨aG,amO⟩:=aG;obtain⟨h3,h4⟩:=h2 j aG;by_cases h5:(nth C j).length<=5
  ·refine sX (@ia) ?_;repeat'(first|refine bh ?_|((first|refine bj λK hK=> ?_|refine bg ?_|show bb _ _ _ _ _);(refine sX (@ia) ?_))|(intro hg;try exact ai)|exact fin|apply af)
   refine dn (ι:=Nat) (λk=>[(0, .list (C.map aX)),(3,i64 (j:Nat)),(4,i64 (k:Nat))]) (λ_=>[]) (λ_=>[]) (λk=>k<=(nth C j).length/\∀q,q < k->(nth (nth C j) q).size<=8) (λk=>(nth C j).length - k) (λ_ _=>⟨rfl,rfl⟩) 0 ⟨bD _,λi hi=>absurd hi (dF _)⟩ (br rfl (by try refine sX (@ia) ?_;try simp) ⟨_,rfl⟩ ⟨_,rfl⟩) (λk ⟨hk,hq⟩=> ?_);by_cases zd:k < (nth C j).length
   ·have h6:=h4 k zd;by_cases h7:(nth (nth C j) k).size<=8
    ·refine sX (@ia) ?_;repeat'(first|refine bh ?_|((first|refine bj λK hK=> ?_|refine bg ?_|show bb _ _ _ _ _);(refine sX (@ia) ?_))|(intro hg;try exact ai)|exact fin|apply af)
     all_goals first|omega|exact⟨k + 1,⟨ae,λq jE=>(alE.1 jE).elim (hq q) (λe=>e▸h7)⟩,ae,br rfl (by try refine sX (@ia) ?_;try simp) ⟨_,rfl⟩ ⟨_,rfl⟩⟩
    ·refine sX (@ia) ?_;repeat'(first|refine bh ?_|((first|refine bj λK hK=> ?_|refine bg ?_|show bb _ _ _ _ _);(refine sX (@ia) ?_))|(intro hg;try exact ai)|exact fin|apply af)
     all_goals first|omega|(rw[decide_eq_false (λhc=>h7 ((hc.2 j aG).2 k zd))])
   ·obtain rfl:k=(nth C j).length:=ae;refine sX (@ia) ?_;repeat'(first|refine bh ?_|((first|refine bj λK hK=> ?_|refine bg ?_|show bb _ _ _ _ _);(refine sX (@ia) ?_))|(intro hg;try exact ai)|exact fin|apply af)
    all_goals first|omega|exact⟨j + 1,⟨ae,ae,λi hi=>(alE.1 hi).elim (cP i) (λe=>e▸⟨h5,hq⟩)⟩,ae,br rfl (by try refine sX (@ia) ?_;try simp) ⟨_,rfl⟩ ⟨_,rfl⟩⟩
  ·refine sX (@ia) ?_;repeat'(first|refine bh ?_|((first|refine bj λK hK=> ?_|refine bg ?_|show bb _ _ _ _ _);(refine sX (@ia) ?_))|(intro hg;try exact ai)|exact fin|apply af)
   all_goals first|omega|(rw[decide_eq_false (λhc=>h5 (hc.2 j aG).1)])
 ·have h8:(C.length<=3)↔tD C:=⟨λh=>⟨h,λi hi=>cP i ae⟩,λh=>h.1⟩;by_cases hl:j < C.length
  ·obtain rfl:j=4:=ae;refine sX (@ia) ?_;repeat'(first|refine bh ?_|((first|refine bj λK hK=> ?_|refine bg ?_|show bb _ _ _ _ _);(refine sX (@ia) ?_))|(intro hg;try exact ai)|exact fin|apply af)
   all_goals first|omega|(rw[decide_eq_false (p:=tD C) (λhc=>absurd (h8.2 hc) ae),decide_eq_false ae])
  ·obtain rfl:j=C.length:=ae;by_cases h9:C.length<=3
   ·refine sX (@ia) ?_;repeat'(first|refine bh ?_|((first|refine bj λK hK=> ?_|refine bg ?_|show bb _ _ _ _ _);(refine sX (@ia) ?_))|(intro hg;try exact ai)|exact fin|apply af)
    all_goals first|omega|(rw[decide_eq_true (p:=tD C) (h8.1 h9),decide_eq_true ae])
   ·refine sX (@ia) ?_;repeat'(first|refine bh ?_|((first|refine bj λK hK=> ?_|refine bg ?_|show bb _ _ _ _ _);(refine sX (@ia) ?_))|(intro hg;try exact ai)|exact fin|apply af)
    all_goals first|omega|(rw[decide_eq_false (p:=tD C) (λhc=>h9 hc.1),decide_eq_false ae])
theorem Ks {C:List (List ByteArray)}(h:tD C)(h0:1<=C.length):sq C:=⟨⟨h0,h.1⟩,λi hi=>⟨by have:=(h.2 i hi).1;omega,λq hq=>by have:=(h.2 i hi).2 q hq;omega⟩⟩
theorem akK {C:List (List ByteArray)}(h:tD C)(h0:1<=C.length):tD (C.take 1)/\(C.take 1).length=1:=by
 have h1:(C.take 1).length=1:=by rw[mH];omega
 refine⟨⟨ae,λi hi=> ?_⟩,h1⟩;obtain rfl:i=0:=ae;have e:nth (C.take 1) 0=nth C 0:=by
  cases C with
  |nil=>exact absurd h0 aE
  |cons c C=>rfl
 rw[e];exact h.2 0 ae
theorem acf {ops:Array Oper}(bP:ops=dA iW 10)(w0:World)(S0:Addr->Prop)(e9:MM)(own:Nat->Prop)(β:List Nat)(m:Nat)(hβ:β[6]? =some m)(SH:List aS)(i:Nat)(hi:i < SH.length)(H7:SH.length<=6)(st dy pt lv co cg:Int)(C:List (List ByteArray))(B0 B1:List Bx)(W0 W1:List Row)(MS:B0.length=8)(hc:cY aa 6 m 9 [.box 0 0,i64 (i:Nat),i64 dy,i64 (nth SH i).p, .agg [i64 (nth SH i).lo,i64 (nth SH i).hi]] B0 W0 (aT (i64 co) B1 W1)):
  jN ⟨aa,w0,S0,e9,none,own,β⟩ 10 ops 215 [(0,88,λL=> .box 0 0),(1,89,λL=>i64 (i:Nat)),(2,90,λL=>i64 dy),(3,91,λL=> .list (SH.map dU)),(4,92,λL=>i64 (i:Nat)),(5,93,λL=> .ro [i64 (nth SH i).p,i64 (nth SH i).lo,i64 (nth SH i).hi]),(6,94,λL=> .ro [i64 (nth SH i).p,i64 (nth SH i).lo,i64 (nth SH i).hi]),(7,95,λL=>i64 (nth SH i).p),(8,96,λL=> .list (SH.map dU)),(9,97,λL=>i64 (i:Nat)),(10,98,λL=> .ro [i64 (nth SH i).p,i64 (nth SH i).lo,i64 (nth SH i).hi]),(11,99,λL=> .ro [i64 (nth SH i).lo,i64 (nth SH i).hi]),(12,100,λL=> .agg [i64 (nth SH i).lo,i64 (nth SH i).hi]),(13,101,λL=>i64 co),(14,20,λL=>i64 co)] [(1, .list (SH.map dU)),(2,i64 st),(3,i64 dy),(4, .list (C.map aX)),(5,i64 pt),(6,i64 lv),(15, .box 0 0),(17, .box 3 0),(19,i64 (i:Nat))] (λL=>(bif L 13 then B1 else B0)) (λL=>(bif L 13 then W1 else W0)):=by
 have hE:= @MS;simp only[dA,eH,e8,iW,fw,Nat.reduceBEq,bK,if_false,if_true,eI,eu,eR,iC,reduceIte,eq_self]at bP;subst bP;exact jY Tryz.ty.mixed rfl [(0,[26]),(1,[26]),(2,[26]),(3,[26]),(4,[26]),(5,[7,9,26]),(6,[11,26]),(7,[13,26]),(8,[26]),(9,[26]),(10,[17,19,26]),(11,[21,26]),(12,[23,26]),(13,[1,3,5,15,25]),(14,[27])] [] ax rfl rfl iv js iw
theorem ace {ops:Array Oper}(bP:ops=dA iW 11)(w0:World)(S0:Addr->Prop)(e9:MM)(own:Nat->Prop)(β:List Nat)(m:Nat)(hβ:β[7]? =some m)(SH:List aS)(i:Nat)(hi:i < SH.length)(H7:SH.length<=6)(st dy pt lv co cg:Int)(C:List (List ByteArray))(B0 B1:List Bx)(W0 W1:List Row)(MS:B0.length=8)(hc:cY aa 7 m 9 [.box 3 0,i64 (i:Nat),i64 dy,i64 (nth SH i).p, .agg [i64 (nth SH i).lo,i64 (nth SH i).hi]] B0 W0 (aT (i64 co) B1 W1)):
  jN ⟨aa,w0,S0,e9,none,own,β⟩ 11 ops 215 [(0,102,λL=> .box 3 0),(1,103,λL=>i64 (i:Nat)),(2,104,λL=>i64 dy),(3,105,λL=> .list (SH.map dU)),(4,106,λL=>i64 (i:Nat)),(5,107,λL=> .ro [i64 (nth SH i).p,i64 (nth SH i).lo,i64 (nth SH i).hi]),(6,108,λL=> .ro [i64 (nth SH i).p,i64 (nth SH i).lo,i64 (nth SH i).hi]),(7,109,λL=>i64 (nth SH i).p),(8,110,λL=> .list (SH.map dU)),(9,111,λL=>i64 (i:Nat)),(10,112,λL=> .ro [i64 (nth SH i).p,i64 (nth SH i).lo,i64 (nth SH i).hi]),(11,113,λL=> .ro [i64 (nth SH i).lo,i64 (nth SH i).hi]),(12,114,λL=> .agg [i64 (nth SH i).lo,i64 (nth SH i).hi]),(13,115,λL=>i64 co),(14,21,λL=>i64 co)] [(1, .list (SH.map dU)),(2,i64 st),(3,i64 dy),(4, .list (C.map aX)),(5,i64 pt),(6,i64 lv),(15, .box 0 0),(17, .box 3 0),(19,i64 (i:Nat)),(20,i64 cg)] (λL=>(bif L 13 then B1 else B0)) (λL=>(bif L 13 then W1 else W0)):=by
 have hE:= @MS;simp only[dA,eH,e8,iW,fw,Nat.reduceBEq,bK,if_false,if_true,eI,eu,eR,iC,reduceIte,eq_self]at bP;subst bP;exact jY Tryz.ty.mixed rfl [(0,[26]),(1,[26]),(2,[26]),(3,[26]),(4,[26]),(5,[7,9,26]),(6,[11,26]),(7,[13,26]),(8,[26]),(9,[26]),(10,[17,19,26]),(11,[21,26]),(12,[23,26]),(13,[1,3,5,15,25]),(14,[27])] [] ax rfl rfl iv js iw
theorem ai4 {ops:Array Oper}(bP:ops=dA Tryz.f181 1)(w0:World)(S0:Addr->Prop)(e9:MM)(own:Nat->Prop)(β:List Nat)(s:aJ)(n cap ns na:Nat)(cost oy:Int)(cs eF:List D)(ar:List Int)(g:List ByteArray)(Bp:ar.length=11)(hc:aH aa 239 [.box 0 0,i64 (nth ar 0), .agg [i64 (nth ar 1),i64 (nth ar 2),i64 (nth ar 3),i64 (nth ar 4),i64 (nth ar 5),i64 (nth ar 6),i64 (nth ar 7),i64 (nth ar 8),i64 (nth ar 9),i64 (nth ar 10)]] [.mu (ay s n cap cost), .mp [], .mu cs] [bG ns,az na] (aT (i64 0) [.mu (ay s n cap oy), .mp [], .mu eF] [bG ns,az (na + 1)])):
  jN ⟨aa,w0,S0,e9,none,own,β⟩ 1 ops 47 [(0,8,λL=> .box 0 0),(1,9,λL=>ints ar),(2,10,λL=> .ro [i64 (nth ar 0)]),(3,11,λL=>i64 (nth ar 0)),(4,12,λL=>ints ar),(5,13,λL=> .ro [i64 (nth ar 1)]),(6,14,λL=>i64 (nth ar 1)),(7,15,λL=>ints ar),(8,16,λL=> .ro [i64 (nth ar 2)]),(9,17,λL=>i64 (nth ar 2)),(10,18,λL=>ints ar),(11,19,λL=> .ro [i64 (nth ar 3)]),(12,20,λL=>i64 (nth ar 3)),(13,21,λL=>ints ar),(14,22,λL=> .ro [i64 (nth ar 4)]),(15,23,λL=>i64 (nth ar 4)),(16,24,λL=>ints ar),(17,25,λL=> .ro [i64 (nth ar 5)]),(18,26,λL=>i64 (nth ar 5)),(19,27,λL=>ints ar),(20,28,λL=> .ro [i64 (nth ar 6)]),(21,29,λL=>i64 (nth ar 6)),(22,30,λL=> .agg [i64 (nth ar 5),i64 (nth ar 6)]),(23,31,λL=>ints ar),(24,32,λL=> .ro [i64 (nth ar 7)]),(25,33,λL=>i64 (nth ar 7)),(26,34,λL=>ints ar),(27,35,λL=> .ro [i64 (nth ar 8)]),(28,36,λL=>i64 (nth ar 8)),(29,37,λL=> .agg [i64 (nth ar 7),i64 (nth ar 8)]),(30,38,λL=>ints ar),(31,39,λL=> .ro [i64 (nth ar 9)]),(32,40,λL=>i64 (nth ar 9)),(33,41,λL=>ints ar),(34,42,λL=> .ro [i64 (nth ar 10)]),(35,43,λL=>i64 (nth ar 10)),(36,44,λL=> .agg [i64 (nth ar 9),i64 (nth ar 10)]),(37,45,λL=> .agg [i64 (nth ar 1),i64 (nth ar 2),i64 (nth ar 3),i64 (nth ar 4),i64 (nth ar 5),i64 (nth ar 6),i64 (nth ar 7),i64 (nth ar 8),i64 (nth ar 9),i64 (nth ar 10)]),(38,46,λL=>i64 0),(39,6,λL=> .val (.slice none 0 0)),(40,7,λL=>i64 0)] [(0, .box 0 0),(1,ints ar),(2, .list []),(6, .val (.slice none 0 0)),(7,i64 0)] (λL=>[.mu (ay s n cap (bif L 38 then oy else cost)), .mp [], .mu (bif L 38 then eF else cs)]) (λL=>[bG ns,bif L 38 then az (na + 1)else az na]):=by
 simp only[dA,eH,e8,Tryz.f181,fw,Nat.reduceBEq,bK,if_false,if_true,eI,eu,eR,iC,reduceIte,eq_self]at bP;subst bP;exact jY Tryz.ty.mixed rfl [(0,[76]),(1,[76]),(2,[3,76]),(3,[5,76]),(4,[76]),(5,[9,76]),(6,[11,76]),(7,[76]),(8,[15,76]),(9,[17,76]),(10,[76]),(11,[21,76]),(12,[23,76]),(13,[76]),(14,[27,76]),(15,[29,76]),(16,[76]),(17,[33,76]),(18,[35,76]),(19,[76]),(20,[39,76]),(21,[41,76]),(22,[37,43,76]),(23,[76]),(24,[47,76]),(25,[49,76]),(26,[76]),(27,[53,76]),(28,[55,76]),(29,[51,57,76]),(30,[76]),(31,[61,76]),(32,[63,76]),(33,[76]),(34,[67,76]),(35,[69,76]),(36,[65,71,76]),(37,[13,19,25,31,45,59,73,76]),(38,[1,7,75]),(39,[77]),(40,[77])] [] ax rfl rfl iv js iw
theorem ai5 (s:aJ)(n cap ns na:Nat)(cost oy:Int)(cs eF:List D)(aw:∀d∈cs,Names 0 0 d)(mv:∀d∈eF,Names 0 0 d)(ar:List Int)(g:List ByteArray)(Bp:ar.length=11)(hc:aH aa 239 [.box 0 0,i64 (nth ar 0), .agg [i64 (nth ar 1),i64 (nth ar 2),i64 (nth ar 3),i64 (nth ar 4),i64 (nth ar 5),i64 (nth ar 6),i64 (nth ar 7),i64 (nth ar 8),i64 (nth ar 9),i64 (nth ar 10)]] [.mu (ay s n cap cost), .mp [], .mu cs] [bG ns,az na] (aT (i64 0) [.mu (ay s n cap oy), .mp [], .mu eF] [bG ns,az (na + 1)])):
  aH aa 181 [.box 0 0,ints ar, .list []] [.mu (ay s n cap cost), .mp [], .mu cs] [bG ns,az na] (aT (.aF [.val (.slice none 0 0),i64 0]) [.mu (ay s n cap oy), .mp [], .mu eF] [bG ns,az (na + 1)]):=by
 have bE:∀nb nr,bN nb nr cs=true:=λnb nr=>ec λd hd=>eG (aw d hd);have qX:∀nb nr,bN nb nr eF=true:=λnb nr=>ec λd hd=>eG (mv d hd);refine cU func181 ntmps181 results181 call181 λW0 S0 M0 own β hβ=> ?_;repeat'(first|(show av _ (.region 1 _ true) _ _;refine bJ ?_)|refine aq ?_|refine au λK hK=> ?_|(intro hg;try exact ai)|exact fin|apply af)
 refine b_ ?_;refine ep (jQ [(0, .box 0 0),(1,ints ar),(2, .list []),(6, .val (.slice none 0 0)),(7,i64 0)] (by simp[put])) ?_;refine ai4 (by rfl) W0 S0 M0 own β s n cap ns na cost oy cs eF ar g Bp hc _ ?_;simp only[e_,cond_true,cj,bH];repeat'(first|(show cC _ _ _ _ _;refine aj ?_)|refine aq ?_|refine au λK hK=> ?_|(intro hg;try exact ai)|exact fin|apply af)
 all_goals first|exact⟨[],rfl⟩|exact⟨_,rfl⟩
theorem ai2 {ops:Array Oper}(bP:ops=dA Tryz.f182 1)(w0:World)(S0:Addr->Prop)(e9:MM)(own:Nat->Prop)(β:List Nat)(s:aJ)(n cap ns na:Nat)(cost oy:Int)(cs eF:List D)(ar:List Int)(g:List ByteArray)(Bp:ar.length=2)(hc:aH aa 10 [.box 0 0,i64 (nth ar 0),i64 (nth ar 1), .list [aX g]] [.mu (ay s n cap cost), .mp [], .mu cs] [bG ns,az na] (aT (i64 0) [.mu (ay s n cap oy), .mp [], .mu eF] [bG ns,az (na + 1)])):
  jN ⟨aa,w0,S0,e9,none,own,β⟩ 1 ops 17 [(0,8,λL=> .box 0 0),(1,9,λL=>ints ar),(2,10,λL=> .ro [i64 (nth ar 0)]),(3,11,λL=>i64 (nth ar 0)),(4,12,λL=>ints ar),(5,13,λL=> .ro [i64 (nth ar 1)]),(6,14,λL=>i64 (nth ar 1)),(7,15,λL=> .list [aX g]),(8,16,λL=>i64 0),(9,6,λL=> .val (.slice none 0 0)),(10,7,λL=>i64 0)] [(0, .box 0 0),(1,ints ar),(2, .list [aX g]),(6, .val (.slice none 0 0)),(7,i64 0)] (λL=>[.mu (ay s n cap (bif L 8 then oy else cost)), .mp [], .mu (bif L 8 then eF else cs)]) (λL=>[bG ns,bif L 8 then az (na + 1)else az na]):=by
 simp only[dA,eH,e8,Tryz.f182,fw,Nat.reduceBEq,bK,if_false,if_true,eI,eu,eR,iC,reduceIte,eq_self]at bP;subst bP;exact jY Tryz.ty.mixed rfl [(0,[16]),(1,[16]),(2,[3,16]),(3,[5,16]),(4,[16]),(5,[9,16]),(6,[11,16]),(7,[16]),(8,[1,7,13,15]),(9,[17]),(10,[17])] [] ax rfl rfl iv js iw
theorem ai3 (s:aJ)(n cap ns na:Nat)(cost oy:Int)(cs eF:List D)(aw:∀d∈cs,Names 0 0 d)(mv:∀d∈eF,Names 0 0 d)(ar:List Int)(g:List ByteArray)(Bp:ar.length=2)(hc:aH aa 10 [.box 0 0,i64 (nth ar 0),i64 (nth ar 1), .list [aX g]] [.mu (ay s n cap cost), .mp [], .mu cs] [bG ns,az na] (aT (i64 0) [.mu (ay s n cap oy), .mp [], .mu eF] [bG ns,az (na + 1)])):
  aH aa 182 [.box 0 0,ints ar, .list [aX g]] [.mu (ay s n cap cost), .mp [], .mu cs] [bG ns,az na] (aT (.aF [.val (.slice none 0 0),i64 0]) [.mu (ay s n cap oy), .mp [], .mu eF] [bG ns,az (na + 1)]):=by
 have bE:∀nb nr,bN nb nr cs=true:=λnb nr=>ec λd hd=>eG (aw d hd);have qX:∀nb nr,bN nb nr eF=true:=λnb nr=>ec λd hd=>eG (mv d hd);refine cU func182 ntmps182 results182 call182 λW0 S0 M0 own β hβ=> ?_;repeat'(first|(show av _ (.region 1 _ true) _ _;refine bJ ?_)|refine aq ?_|refine au λK hK=> ?_|(intro hg;try exact ai)|exact fin|apply af)
 refine b_ ?_;refine ep (jQ [(0, .box 0 0),(1,ints ar),(2, .list [aX g]),(6, .val (.slice none 0 0)),(7,i64 0)] (by simp[put])) ?_;refine ai2 (by rfl) W0 S0 M0 own β s n cap ns na cost oy cs eF ar g Bp hc _ ?_;simp only[e_,cond_true,cj,bH];repeat'(first|(show cC _ _ _ _ _;refine aj ?_)|refine aq ?_|refine au λK hK=> ?_|(intro hg;try exact ai)|exact fin|apply af)
 all_goals first|exact⟨[],rfl⟩|exact⟨_,rfl⟩
theorem ai6 (s:aJ)(n cap:Nat)(cost:Int)(ar:List Int)(cs U:List D)(W R:Nat)(sl:Int)(S:List aS)(ns na:Nat)(Bp:ar.length=1)(aw:∀d∈cs,Names 0 0 d)(dS:0<=s.dy/\s.dy<=100)(hr:0<=nth ar 0/\nth ar 0<=s.dy - 1)(hd:cs.drop ((nth ar 0).toNat * 4)=cx W R sl S++U)(bf:cs.length=cap * 4)(hn:n<=cap)(dH:n<=100)(fI:nth ar 0 < n)(hM:dB W R sl S)(hC:fp W sl S):
  aH aa 187 [.box 0 0,ints ar, .list []] [.mu (ay s n cap cost), .mp [], .mu cs] [bG ns,az na] (aT (.aF [ints (se W sl S (W * R)),i64 0]) [.mu (ay s n cap cost), .mp [], .mu cs] [bG ns,az na]):=by
 have bE:∀nb nr,bN nb nr cs=true:=λnb nr=>ec λd hd=>eG (aw d hd);have c1:=aiX s n cap cost (nth ar 0) cs U W R sl S (bG ns) na aw dS hr hd bf hn dH fI hM hC;refine lD ?_ rfl (by simp only[a7,bE];rfl) (aY _);refine cU func187 ntmps187 results187 call187 λW0 S0 M0 own β hβ=> ?_;repeat'(first|(show av _ (.region 1 _ _) _ _;refine et 4 rfl (λK1 aA=> ?_);refine aj ?_)|(refine aA _ (eZ c1 ?_);simp only[aU,Nat.reduceAdd];refine aj ?_)|(show cC _ _ _ _ _;refine aj ?_)|refine aq ?_|refine au λK hK=> ?_|(intro hg;try exact ai)|exact fin|apply af)
 all_goals first
  |exact⟨[],rfl⟩
  |exact⟨_,rfl⟩
theorem Iv (s:aJ)(n cap:Nat)(cost:Int)(cs:List D)(ns na:Nat)(aw:∀d∈cs,Names 0 0 d)(oy:Int)(eF:List D)(RP:Nat)(mv:∀d∈eF,Names 0 0 d)(t out:ByteArray)(ht:t.size<=200)(f:FuncId)(m:Int)(cf a:Bool)(ar:List Int)(cp res:D)(r8:cp= .list []\/∃l,cp= .list l)
  (hp:ak aa 101 [.str t] (.aF [.agg [.ag f [],i64 m, .bool false, .bool cf, .bool a,ints ar,cp], .bool true]))
  (hc:aH aa f [.box 0 0,ints ar,cp] [.mu (ay s n cap cost), .mp [], .mu cs] [bG ns,az na] (aT (.aF [res,i64 0]) [.mu (ay s n cap oy), .mp [], .mu eF] [bG ns,az RP]))
  (iY:res= .val (.slice none 0 0)/\ak aa 102 [.list []] (.str out)\/∃l,res= .list l/\ak aa 102 [.list l] (.str out)):
  aH aa 67 [.box 0 0, .str t] [.mu (ay s n cap cost), .mp [], .mu cs] [bG ns,az na] (aT (.aF [.str out,i64 0]) [.mu (ay s n cap oy), .mp [], .mu eF] [bG ns,az RP]):=by
 have bE:∀nb nr,bN nb nr cs=true:=λnb nr=>ec λd hd=>eG (aw d hd);have qX:∀nb nr,bN nb nr eF=true:=λnb nr=>ec λd hd=>eG (mv d hd);obtain⟨cl,rfl⟩:∃l,cp= .list l:=by rcases r8 with rfl|⟨l,rfl⟩<;>exact⟨_,rfl⟩
 have c0:=Di s (.aN 2 0 n cap) (.own 0) (.bu 1) cost (.own 1) [.mp [], .mu cs] [bG ns,az na];have c1:=gC (nr:=2) [.mu [.ag f [],i64 m, .bool false, .bool cf, .bool a,ints ar, .list cl]] hc rfl (by simp only[a7,bE];rfl) (by simp only[a7,qX];rfl) (by rcases iY with⟨rfl,_⟩|⟨l,rfl,_⟩<;>rfl) rfl rfl;refine lD ?_ rfl (by simp only[a7,qX];rfl) (aY _);refine cU func67 ntmps67 results67 call67 λW0 S0 M0 own β hβ=> ?_;rcases iY with⟨rfl,c2⟩|⟨l,rfl,c2⟩;all_goals
  skip
  repeat'(first|(show av _ (.region 1 _ _) _ _;refine et 1 rfl (λK1 aA=> ?_);refine aj ?_)|(refine aA _ (eZ c0 ?_);simp only[aU,Nat.reduceAdd];refine aj ?_)|(show av _ (.region 8 _ _) _ _;refine et 8 rfl (λK2 pC=> ?_);refine aj ?_)|(refine pC _ (eZ c1 ?_);simp only[aU,Nat.reduceAdd];refine aj ?_)|(show cC _ _ _ _ _;refine aj ?_)|refine aq ?_|refine au λK hK=> ?_|refine cA (hp) ?_|refine cA (c2) ?_|(intro hg;try exact ai)|exact fin|apply af)
  all_goals first
   |rfl
   |exact⟨[],rfl⟩
   |exact⟨_,rfl⟩
end Go.Proofs.YtafmfhkplgapjaaGreatDoor
namespace Go.Ab
open Go.RowKit Go
theorem bX.IK {c:Ctx}{n:Nat}{sl:Nat->D}{bx:List Bx}{aD:List Row}(j q:Nat){cs:List D}{d d':D}(hj:bx[j]? =some (.mu cs))(hq:cs[q]? =some d)(hw:∀(w:World) (g:Gh) (v:Value),Rel w g v d->Rel w g v d'):
  bX c ⟨n,sl,bx,aD⟩ ⟨n,sl,bx.set j (.mu (cs.set q d')),aD⟩:=by
 rintro a w ⟨g,hg⟩;have dE:j < bx.length:=(aQ.1 hj).1;have hold:∀(k:Nat) (x:Bx),(bx.set j (.mu (cs.set q d')))[k]? =some x->(k=j/\x= .mu (cs.set q d'))\/(k≠j/\bx[k]? =some x):=λk x hk=>by
  by_cases jH:k=j
  ·subst jH;rw[jg dE]at hk;exact .inl ⟨rfl,(Option.some.inj hk).symm⟩
  ·rw[gj (Ne.symm jH)]at hk;exact .inr ⟨jH,hk⟩
 obtain⟨κ,k1,k2⟩:=hg.ap;obtain⟨b0,sH,t0,e1,e2,e3,e4,e5,_⟩:=(hg.bx j cs hj).ex;have e3:fZ w g sH cs:=e3;have jE:q < cs.length:=(aQ.1 hq).1;refine⟨g,hg.df,hg.sz,hg.below,hg.cu,hg.ba,hg.en,hg.S0,hg.fJ,by simpa using hg.lβ,hg.lρ,hg.sl,λk cm hk=> ?_,λk cm hk=> ?_,hg.rw,⟨κ,λk x b hk hx hb=> ?_,k2⟩,λk es hk=> ?_⟩
 ·rcases hold k _ hk with⟨rfl,e⟩|⟨_,hk⟩
  ·cases e;refine⟨b0,sH,t0,e1,e2,⟨by rw[List.length_set];exact e3.1,λp x hd=> ?_⟩,e4,e5,λhh=>by cases hh⟩;by_cases n5:q=p
   ·subst n5;rw[jg jE]at hd;cases hd;have hx:=e3.2 q _ hq;exact⟨hw _ _ _ hx.1,hx.2⟩
   ·rw[gj n5]at hd;exact e3.2 p x hd
  ·exact hg.bx k cm hk
 ·rcases hold k _ hk with⟨_,e⟩|⟨_,hk⟩
  ·cases e
  ·exact hg.fz k cm hk
 ·rcases hold k _ hk with⟨rfl,_⟩|⟨_,hk⟩
  ·exact k1 k _ b hj rfl hb
  ·exact k1 k x b hk hx hb
 ·rcases hold k _ hk with⟨_,e⟩|⟨_,hk⟩
  ·cases e
  ·exact hg.mp k es hk
theorem G7 (w:World)(g:Gh)(v:Value)(h:Rel w g v (.val (.slice none 0 0))):Rel w g v (.list []):=by
 cases h;exact .nil _ _
end Go.Ab
namespace Go.Proofs.YtafmfhkplgapjaaGreatDoor
set_option maxRecDepth 100000
set_option maxHeartbeats 4000000
open Go.Ab
attribute[local irreducible] av dL dY ak aH IA ez aP fM
def cz:aJ:=⟨[(⟨0,0,0,0,0,5,0,0,[⟨0,0,0⟩]⟩,0),(⟨0,0,0,0,0,0,0,0,[⟨0,0,0⟩]⟩,3)],[(73000,78000),(0,35999)],[0,128,0,256,0,0,0,2,8,0],1,100,2,31,2,2,100,⟨2,[],[],[⟨15,45,8000,3000⟩],300,360,600,360,1080⟩,3,[1,2],500,30,400,2⟩
theorem JR (a b:Int):ak aa 71 [i64 a,i64 b] (sI a b):=by
 refine cT func71 ntmps71 results71 call71 λw0 S0 M0=> ?_;repeat'(first|refine aq ?_|refine au λK hK=> ?_|(intro hg;try exact ai)|exact fin|apply af)
theorem Yf:ak aa 26 [] (ji cz):=by
 have c1:=JR 73000 78000;have c2:=JR 0 35999;have c3:=JR 15 45;refine cT func26 ntmps26 results26 call26 λw0 S0 M0=> ?_;repeat'(first|(show av _ .ret _ _;refine bJ ?_)|(exact rfl)|refine aq ?_|refine au λK hK=> ?_|refine cA (c1) ?_|refine cA (c2) ?_|refine cA (c3) ?_|((show 0 + 25<=25;decide))|(intro hg;try exact ai)|exact fin|apply af)
 refine b_ ?_;refine ep (bX.IK 0 11 rfl rfl G7) ?_;refine ep (bX.IK 0 12 rfl rfl G7) ?_;refine tp ?_;refine aj ?_;all_goals rfl
theorem aab:qB cz:=aE
theorem PT:kJ cz:=by
 refine⟨aE,aE,aE, ?_,aE,aE,aE, ?_,aE⟩
 ·intro i hi;have hi:i < 2:=hi;have:i=0\/i=1:=ae;rcases this with rfl|rfl
  ·exact⟨aE,aE,λa b h1 h2=>by have h2:b < 1:=h2;omega⟩
  ·exact⟨aE,aE,λa b h1 h2=>by have h2:b < 1:=h2;omega⟩
 ·decide
end Go.Proofs.YtafmfhkplgapjaaGreatDoor
namespace Go.Proofs.YtafmfhkplgapjaaGreatDoor
open Go.Ab
def kF:List (Int×Int):=[(73000,78000),(0,35999)]
def kT:List Int:=[0,128,0,256,0,0,0,2,8,0]
def kG:List ByteArray:=[⟨#[55,53,51,49,48]⟩,⟨#[50,55,48,51,48]⟩,⟨#[57,50,56,52,48]⟩]
theorem kTu:zL kT:=⟨rfl,λi hi=>by
 match i,hi with
 |0,_|1,_|2,_|3,_|4,_|5,_|6,_|7,_|8,_|9,_=>exact⟨aE,aE⟩⟩
theorem jB:sq [kG]:=⟨⟨aE,aE⟩,λi hi=>by
 have:i=0:=by simp at hi;exact hi
 subst this;refine⟨aE,λq hq=> ?_⟩;have hq:q<=2:=Nat.le_of_lt_succ hq
 match q,hq with
 |0,_|1,_|2,_=>exact aE⟩
theorem SI:fE kF kT 1 [kG] (nn kF.length) 0 0 0 [0,0,0] (nD kF.length)=[[75310,27030],[75810,27030]]:=ax
theorem afa:k8 kF kT 1:=aE
theorem kCp:wj kF.length [kG]:=⟨aE,λi hi=>by
 have:i=0:=by simp at hi;exact hi
 subst this;refine⟨rfl,λq hq=> ?_⟩;have hq:q<=2:=hq;have L6:∀p,p < 5->p=0\/p=1\/p=2\/p=3\/p=4:=λp hp=>by omega
 match q,hq with
 |0,_=>exact⟨rfl,λp hp=>by rcases L6 p hp with rfl|rfl|rfl|rfl|rfl<;>exact .inl ⟨aE,aE⟩⟩
 |1,_=>exact⟨rfl,λp hp=>by rcases L6 p hp with rfl|rfl|rfl|rfl|rfl<;>exact .inl ⟨aE,aE⟩⟩
 |2,_=>exact⟨rfl,λp hp=>by rcases L6 p hp with rfl|rfl|rfl|rfl|rfl<;>exact .inl ⟨aE,aE⟩⟩⟩
abbrev kL:List (List Int):=[[75310,27030],[75810,27030]]
theorem Lx:kf (mT kF kT 1 [kG])=kL:=by
 have h:mT kF kT 1 [kG]=kL:=SI;rw[h];exact List.mergeSort_of_pairwise (by decide)
theorem ae3:ak aa 106 [.agg (nM kF kT 1 [kG])] (.list (kL.map ints)):=by
 have h:=R' kF kT 1 [kG] kTu kCp ⟨aE,aE⟩ ⟨aE,aE⟩ (by show(fE kF kT 1 [kG] (nn kF.length) 0 0 0 [0,0,0] (nD kF.length)).length<=_;rw[SI];decide);rw[Lx]at h;exact h
def AP:ew:=⟨0,480,1,76000,0,0,0,0,0,0⟩
theorem kE:pF (nth cz.aL 0).1 (j8 AP)=0:=VF aE (λa b h1 h2=>absurd (show b < 1 from h2) ae)
theorem ae4:ak aa 276 [jO (nth cz.aL 0).1,sK AP] (.aF [.agg [i64 75995,i64 76005,i64 75995,i64 76005,i64 100,i64 100],i64 0]):=by
 have h:=ahl (nth cz.aL 0).1 aE AP;have e:SC (nth cz.aL 0).1 AP= .agg [i64 75995,i64 76005,i64 75995,i64 76005,i64 100,i64 100]:=ax;rw[if_pos kE,kE,e]at h;exact h
def nR:List aS:=[⟨0,75995,76005⟩]
def iP:List aS:=[⟨0,75995,76005⟩,⟨3,75310,75810⟩]
theorem SJ:dB 2 2 100 nR:=⟨aE,aE,aE,aE,aE⟩
theorem kM2:dB 2 2 100 iP:=⟨aE,aE,aE,aE,aE⟩
theorem kC1:fp 2 100 nR:=λi k h1 h2=>absurd (show k < 1 from h2) ae
theorem SL:fp 2 100 iP:=λi k h1 h2=>by
 have h2:k < 2:=h2;obtain rfl:k=1:=ae;obtain rfl:i=0:=ae;decide
theorem ae6:se 2 100 iP 4=[76000,75902,75902,75802]:=ax
end Go.Proofs.YtafmfhkplgapjaaGreatDoor
namespace Go.Proofs.YtafmfhkplgapjaaGreatDoor
set_option maxRecDepth 100000
set_option maxHeartbeats 4000000
open Go.Ab Go.oO Go.RowKit Go
attribute[local irreducible] av dL dY ak aH IA ez aP fM fB
theorem adv {ops:Array Oper}(bP:ops=dA pK 11)(l1 l2:List Deferred)(o8:World)(S0:Addr->Prop)(M0:MM)(own:Nat->Prop)(β:List Nat)(t w:ByteArray)(f:FuncId)(m v j wl mm:Int)(sO cp act:Bool)(xs:List D)(X Y:List D)(hX:X.length<=100)(c1:ak aa 130 [.str w] (i64 v)):
  FP l1 l2 ⟨aa,o8,S0,M0,none,own,β⟩ 11 ops 106 [(0,85,λL=> .box 0 5),(1,86,λL=>bif L 5 then .undef else .own 0),(2,87,λL=> .str w),(3,88,λL=>i64 v),(4,89,λL=> .list [i64 v]),(5,90,λL=> .own 0),(6,91,λL=> .box 0 5)] [(0, .str t),(2, .box 0 0),(3, .box 1 0),(5,i64 mm),(6,i64 j),(7, .str w),(67, .list xs),(68,i64 wl),(69,i64 j)] (λL=>[.mu [.ag f [],i64 m, .bool sO, .bool cp, .bool act,bif L 7 then .own 0 else bif L 5 then .undef else .own 0, .own 1], .mu [.bool true]]) (λL=>[⟨true,3,1,bif L 5 then X++[i64 v]else X⟩,⟨true,79,1,Y⟩]):=by
 simp only[dA,eH,e8,pK,fw,Nat.reduceBEq,bK,if_false,if_true,eI,eu,eR,iC,reduceIte,eq_self]at bP;subst bP;exact Ij Tryz.ty.mixed rfl [(0,[10,14]),(1,[1,10,14]),(2,[10,14]),(3,[5,10,14]),(4,[7,10,14]),(5,[3,9,14]),(6,[11,14]),(7,[11,13])] [] ax rfl rfl iv js iw
theorem adu {ops:Array Oper}(bP:ops=dA pK 14)(l1 l2:List Deferred)(o8:World)(S0:Addr->Prop)(M0:MM)(own:Nat->Prop)(β:List Nat)(t w:ByteArray)(f:FuncId)(m j wl mm:Int)(sO cp act:Bool)(xs ps:List D)(X Y:List D)(hY:Y.length<=100)(c1:ak aa 128 [.str w, .str ⟨#[46]⟩] (.list ps)):
  FP l1 l2 ⟨aa,o8,S0,M0,none,own,β⟩ 14 ops 106 [(0,97,λL=> .box 0 6),(1,98,λL=>bif L 5 then .undef else .own 1),(2,99,λL=> .str w),(3,100,λL=> .list ps),(4,101,λL=> .list [.list ps]),(5,102,λL=> .own 1),(6,103,λL=> .box 0 6)] [(0, .str t),(2, .box 0 0),(3, .box 1 0),(5,i64 mm),(6,i64 j),(7, .str w),(67, .list xs),(68,i64 wl),(69,i64 j)] (λL=>[.mu [.ag f [],i64 m, .bool sO, .bool cp, .bool act, .own 0,bif L 7 then .own 1 else bif L 5 then .undef else .own 1], .mu [.bool true]]) (λL=>[⟨true,3,1,X⟩,⟨true,79,1,bif L 5 then Y++[.list ps]else Y⟩]):=by
 simp only[dA,eH,e8,pK,fw,Nat.reduceBEq,bK,if_false,if_true,eI,eu,eR,iC,reduceIte,eq_self]at bP;subst bP;exact Ij Tryz.ty.mixed rfl [(0,[10,14]),(1,[1,10,14]),(2,[10,14]),(3,[5,10,14]),(4,[7,10,14]),(5,[3,9,14]),(6,[11,14]),(7,[11,13])] [] ax rfl rfl iv js iw
theorem adx (t w0:ByteArray)(ws:List ByteArray)(ns:List Int)(l:List ByteArray)(f:FuncId)(m:Nat)(act:Bool)(hs:ak aa 128 [.str t, .str ⟨#[32]⟩] (.list ((w0::ws).map D.str)))(hf:kR (.str w0) yI=some (kP f (m:Int) false true act))(hw:ws.length=m + 1)(hn:ns.length=m)(hm:m<=20)
  (hc:∀j,j < m->ak aa 130 [.str (nth ws j)] (i64 (nth ns j)))(hl:ak aa 128 [.str (nth ws m), .str ⟨#[46]⟩] (.list (l.map D.str)))(bz:((nth ws m).toList == (ByteArray.mk #[]).toList)=false):ak aa 101 [.str t] (.aF [.agg [.ag f [],i64 (m:Nat), .bool false, .bool true, .bool act,ints ns, .list [.list (l.map D.str)]], .bool true]):=by
 refine Rk t _ _ λl1 l2 o8 S0 M0 own β hβ=> ?_;simp only[KX,pK,rS,cR,e_];repeat'(first
  |(show fB _ _ _ (.region 3 _ true) _ _;refine bJ ?_)
  |refine oE ?_
  |refine oJ ?_
  |refine oD ?_
  |refine oI ?_
  |refine oF ?_
  |((first|refine oG ax λK hK=> ?_|refine oH ?_|refine bo (hs) ?_);(refine aj ?_;try exact trivial))
  |((first|(refine hK _ ?_;clear hK K)|show bH _ _ _ _|show cj _ _ _ _);simp only[bH,cj,if_true,Nat.reduceEqDiff,reduceIte])
  |(intro hg;first|(exfalso;omega)|(exfalso;contradiction)|skip)
  |apply af
  |(with_reducible rfl)
  |(clear hK;omega)
  |omega)
 refine b_ ?_;refine E9 (cR 106 [(0, .str t),(2, .box 0 0),(3, .box 1 0),(4, .list ((w0::ws).map D.str))] [.mu Z7, .mu [.bool false]] []) (br rfl (by simp[put]) ⟨[],rfl⟩ ⟨[],rfl⟩) (ik rfl rfl) (by rw[hβ];exact aY _) ?_;refine Rj (by rfl) l1 l2 o8 S0 M0 own β t w0 ws f m false true act hf _ ?_;simp only[e_,cond_true,cj,bH];repeat'(first
  |(show fB _ _ _ (.loop _) _ _;refine bJ ?_)
  |(exact Gn hg)
  |refine oE ?_
  |refine oJ ?_
  |refine oD ?_
  |refine oI ?_
  |refine oF ?_
  |((first|refine oG ax λK hK=> ?_|refine oH ?_);(refine aj ?_;try exact trivial))
  |((first|(refine hK _ ?_;clear hK K)|show bH _ _ _ _|show cj _ _ _ _);simp only[bH,cj,if_true,Nat.reduceEqDiff,reduceIte])
  |(intro hg;first|(exfalso;omega)|(exfalso;contradiction)|skip)
  |apply af
  |(with_reducible rfl)
  |(clear hK;omega)
  |omega)
 refine b_ ?_;refine I1 (GH 0 5 3 1 [.ag f [],i64 (m:Nat), .bool false, .bool true, .bool act,AJ,AJ] rfl rfl) ?_;refine I1 (GH 0 6 79 1 [.ag f [],i64 (m:Nat), .bool false, .bool true, .bool act, .own 0,AJ] rfl rfl) ?_;refine W6 (ι:=Nat) (λj=>[(0, .str t),(2, .box 0 0),(3, .box 1 0),(5,i64 ((m:Nat) + 1)),(67, .list (ws.map D.str)),(68,i64 ((m:Nat) + 1)),(69,i64 (j:Nat))]) (λ_=>[.mu [.ag f [],i64 (m:Nat), .bool false, .bool true, .bool act, .own 0, .own 1], .mu [.bool true]]) (λj=>[⟨true,3,1,(ns.take j).map λ(x:Int)=>i64 x⟩,⟨true,79,1,bif decide (j<=m)then[]else[.list (l.map D.str)]⟩])
  (λj=>j<=m + 1) (λj=>m + 1 - j) (λ_ _=>⟨rfl,rfl⟩) 0 (bD _) (br rfl (by try(refine aj ?_;try exact trivial);simp[hw,xZ]) ⟨_,rfl⟩ ⟨[],by simp⟩) (λj hj=> ?_) (λ_ _=>by rw[hβ];exact aY _)
 by_cases aG:j < m
 ·have c1:=hc j aG;have qc:(ns.take j).length=j:=by rw[mH];omega
  have qd:(ns.take (j + 1)).map (λ(x:Int)=>i64 x)=(ns.take j).map (λ(x:Int)=>i64 x)++[i64 (nth ns j)]:=by
   rw[List.take_succ_eq_append_getElem ae,show ns[j]=nth ns j by simp[nth,show j < ns.length by omega]];simp
  have e1:(bif decide (j<=m)then([]:List D)else[.list (l.map D.str)])=[]:=by rw[decide_eq_true ae];rfl
  have e2:(bif decide (j + 1<=m)then([]:List D)else[.list (l.map D.str)])=[]:=by rw[decide_eq_true ae];rfl
  rw[e1];refine aj ?_;repeat'(first
   |(show fB _ _ _ (.region 11 _ true) _ _;refine bJ ?_)
   |refine oE ?_
   |refine oJ ?_
   |refine oD ?_
   |refine oI ?_
   |refine oF ?_
   |((first|refine oG ax λK hK=> ?_|refine oH ?_);(refine aj ?_;try exact trivial))
   |((first|(refine hK _ ?_;clear hK K)|show bH _ _ _ _|show cj _ _ _ _);simp only[bH,cj,if_true,Nat.reduceEqDiff,reduceIte])
   |(intro hg;first|(exfalso;omega)|(exfalso;contradiction)|skip)
   |apply af
   |(with_reducible rfl)
   |(clear hK;omega)
   |omega)
  refine b_ ?_;refine E9 (cR 106 [(0, .str t),(2, .box 0 0),(3, .box 1 0),(5,i64 ((m:Nat) + 1)),(6,i64 (j:Nat)),(7, .str (nth ws j)),(67, .list (ws.map D.str)),(68,i64 ((m:Nat) + 1)),(69,i64 (j:Nat))] [.mu [.ag f [],i64 (m:Nat), .bool false, .bool true, .bool act, .own 0, .own 1], .mu [.bool true]] [⟨true,3,1,(ns.take j).map λ(x:Int)=>i64 x⟩,⟨true,79,1,[]⟩]) (br rfl (by simp[put]) ⟨[],rfl⟩ ⟨[],rfl⟩) (ik rfl rfl) (by rw[hβ];exact aY _) ?_;refine adv (by rfl) l1 l2 o8 S0 M0 own β t (nth ws j) f m (nth ns j) j (m + 1) (m + 1) false true act (ws.map D.str) ((ns.take j).map λ(x:Int)=>i64 x) [] (by simp;omega) c1 _ ?_;simp only[e_,cond_true,cj,bH,<-qd];repeat'(first
   |(fail)
   |refine oE ?_
   |refine oJ ?_
   |refine oD ?_
   |refine oI ?_
   |refine oF ?_
   |((first|refine oG ax λK hK=> ?_|refine oH ?_);(refine aj ?_;try exact trivial))
   |((first|(refine hK _ ?_;clear hK K)|show bH _ _ _ _|show cj _ _ _ _);simp only[bH,cj,if_true,Nat.reduceEqDiff,reduceIte])
   |(intro hg;first|(exfalso;omega)|(exfalso;contradiction)|skip)
   |apply af
   |(with_reducible rfl)
   |(clear hK;omega)
   |omega)
  all_goals first|(refine⟨j + 1,ae,ae, ?_⟩;rw[e2];exact br rfl (by try refine aj ?_;try simp) ⟨[],rfl⟩ ⟨[],rfl⟩)
 by_cases hjm:j=m
 ·subst hjm;have qc:ns.take j=ns:=xZ ae;have afR:ns.take (j + 1)=ns:=xZ ae;have e1:(bif decide (j<=j)then([]:List D)else[.list (l.map D.str)])=[]:=by rw[decide_eq_true ae];rfl
  have e2:(bif decide (j + 1<=j)then([]:List D)else[.list (l.map D.str)])=[.list (l.map D.str)]:=by rw[decide_eq_false ae];rfl
  rw[e1,qc];refine aj ?_;repeat'(first
   |(show fB _ _ _ (.region 14 _ true) _ _;refine bJ ?_)
   |refine oE ?_
   |refine oJ ?_
   |refine oD ?_
   |refine oI ?_
   |refine oF ?_
   |((first|refine oG ax λK hK=> ?_|refine oH ?_);(refine sX @bz ?_;try exact trivial))
   |((first|(refine hK _ ?_;clear hK K)|show bH _ _ _ _|show cj _ _ _ _);simp only[bH,cj,if_true,Nat.reduceEqDiff,reduceIte])
   |(intro hg;first|(exfalso;omega)|(exfalso;contradiction)|skip)
   |apply af
   |(with_reducible rfl)
   |(clear hK;omega)
   |omega)
  refine b_ ?_;refine E9 (cR 106 [(0, .str t),(2, .box 0 0),(3, .box 1 0),(5,i64 ((j:Nat) + 1)),(6,i64 (j:Nat)),(7, .str (nth ws j)),(67, .list (ws.map D.str)),(68,i64 ((j:Nat) + 1)),(69,i64 (j:Nat))] [.mu [.ag f [],i64 (j:Nat), .bool false, .bool true, .bool act, .own 0, .own 1], .mu [.bool true]] [⟨true,3,1,ns.map λ(x:Int)=>i64 x⟩,⟨true,79,1,[]⟩]) (br rfl (by simp[put]) ⟨[],rfl⟩ ⟨[],rfl⟩) (ik rfl rfl) (by rw[hβ];exact aY _) ?_;refine adu (by rfl) l1 l2 o8 S0 M0 own β t (nth ws j) f j j (j + 1) (j + 1) false true act (ws.map D.str) (l.map D.str) (ns.map λ(x:Int)=>i64 x) [] aO hl _ ?_;simp only[e_,cond_true,cj,bH,eI];repeat'(first
   |(fail)
   |refine oE ?_
   |refine oJ ?_
   |refine oD ?_
   |refine oI ?_
   |refine oF ?_
   |((first|refine oG ax λK hK=> ?_|refine oH ?_);(refine aj ?_;try exact trivial))
   |((first|(refine hK _ ?_;clear hK K)|show bH _ _ _ _|show cj _ _ _ _);simp only[bH,cj,if_true,Nat.reduceEqDiff,reduceIte])
   |(intro hg;first|(exfalso;omega)|(exfalso;contradiction)|skip)
   |apply af
   |(with_reducible rfl)
   |(clear hK;omega)
   |omega)
  all_goals first|(refine⟨j + 1,ae,ae, ?_⟩;rw[e2,afR];exact br rfl (by try refine aj ?_;try simp) ⟨[],rfl⟩ ⟨[],rfl⟩)
 ·obtain rfl:j=m + 1:=ae;have qc:ns.take (m + 1)=ns:=xZ ae;have e1:(bif decide (m + 1<=m)then([]:List D)else[.list (l.map D.str)])=[.list (l.map D.str)]:=by rw[decide_eq_false ae];rfl
  rw[qc,e1];refine aj ?_;repeat'(first
   |(exact Gn hg)
   |refine oE ?_
   |refine oJ ?_
   |refine oD ?_
   |refine oI ?_
   |refine oF ?_
   |((first|refine oG ax λK hK=> ?_|refine oH ?_);(refine aj ?_;try exact trivial))
   |((first|(refine hK _ ?_;clear hK K)|show bH _ _ _ _|show cj _ _ _ _);simp only[bH,cj,if_true,Nat.reduceEqDiff,reduceIte])
   |(intro hg;first|(exfalso;omega)|(exfalso;contradiction)|skip)
   |apply af
   |(with_reducible rfl)
   |(clear hK;omega)
   |omega)
  all_goals first
  |(rw[show aC aa 187=7 from by kernel_rfl];exact aY _)
  |(show a_ _ _;(refine aj ?_;try exact trivial))
  |skip
end Go.Proofs.YtafmfhkplgapjaaGreatDoor
namespace Go.Proofs.YtafmfhkplgapjaaGreatDoor
open Go.Ab
theorem qa (w:ByteArray)(n:Int)(h:itoa n=w)(h1:n.natAbs<=99999)(h2:0<=n):ak aa 130 [.str w] (i64 n):=h▸akO n h1 h2
def yQ:ByteArray:=(⟨#[114,101,97,100,32,48,32,48,32,52,56,48,32,49,32,55,54,48,48,48,32,48,32,48,32,48,32,48,32,48,32,48]⟩:ByteArray)
theorem kP0:Go.oO.vb 32 yQ=[(⟨#[114,101,97,100]⟩:ByteArray),(⟨#[48]⟩:ByteArray),(⟨#[48]⟩:ByteArray),(⟨#[52,56,48]⟩:ByteArray),(⟨#[49]⟩:ByteArray),(⟨#[55,54,48,48,48]⟩:ByteArray),(⟨#[48]⟩:ByteArray),(⟨#[48]⟩:ByteArray),(⟨#[48]⟩:ByteArray),(⟨#[48]⟩:ByteArray),(⟨#[48]⟩:ByteArray),(⟨#[48]⟩:ByteArray)]:=ax
theorem aeU:ak aa 128 [.str yQ, .str ⟨#[32]⟩] (.list (((⟨#[114,101,97,100]⟩:ByteArray)::[(⟨#[48]⟩:ByteArray),(⟨#[48]⟩:ByteArray),(⟨#[52,56,48]⟩:ByteArray),(⟨#[49]⟩:ByteArray),(⟨#[55,54,48,48,48]⟩:ByteArray),(⟨#[48]⟩:ByteArray),(⟨#[48]⟩:ByteArray),(⟨#[48]⟩:ByteArray),(⟨#[48]⟩:ByteArray),(⟨#[48]⟩:ByteArray),(⟨#[48]⟩:ByteArray)]).map D.str)):=by
 have h:=CO yQ 32 aE;rw[kP0]at h;exact h
theorem ae2:ak aa 101 [.str yQ] (.aF [.agg [.ag 181 [],i64 ((11:Nat):Int), .bool false, .bool false, .bool true,ints [0,0,480,1,76000,0,0,0,0,0,0], .list []], .bool true]):=
 KW yQ (⟨#[114,101,97,100]⟩:ByteArray) [(⟨#[48]⟩:ByteArray),(⟨#[48]⟩:ByteArray),(⟨#[52,56,48]⟩:ByteArray),(⟨#[49]⟩:ByteArray),(⟨#[55,54,48,48,48]⟩:ByteArray),(⟨#[48]⟩:ByteArray),(⟨#[48]⟩:ByteArray),(⟨#[48]⟩:ByteArray),(⟨#[48]⟩:ByteArray),(⟨#[48]⟩:ByteArray),(⟨#[48]⟩:ByteArray)] [0,0,480,1,76000,0,0,0,0,0,0] 181 11 true aeU ax rfl rfl aE (λj hj=>by
  match j,hj with
  |0,_=>exact qa _ 0 ax aE aE
  |1,_=>exact qa _ 0 ax aE aE
  |2,_=>exact qa _ 480 ax aE aE
  |3,_=>exact qa _ 1 ax aE aE
  |4,_=>exact qa _ 76000 ax aE aE
  |5,_=>exact qa _ 0 ax aE aE
  |6,_=>exact qa _ 0 ax aE aE
  |7,_=>exact qa _ 0 ax aE aE
  |8,_=>exact qa _ 0 ax aE aE
  |9,_=>exact qa _ 0 ax aE aE
  |10,_=>exact qa _ 0 ax aE aE)
def yP:ByteArray:=(⟨#[119,105,114,101,32,49,32,48,32,55,53,51,49,48,46,50,55,48,51,48,46,57,50,56,52,48]⟩:ByteArray)
theorem kP1:Go.oO.vb 32 yP=[(⟨#[119,105,114,101]⟩:ByteArray),(⟨#[49]⟩:ByteArray),(⟨#[48]⟩:ByteArray),(⟨#[55,53,51,49,48,46,50,55,48,51,48,46,57,50,56,52,48]⟩:ByteArray)]:=ax
theorem aeT:ak aa 128 [.str yP, .str ⟨#[32]⟩] (.list (((⟨#[119,105,114,101]⟩:ByteArray)::[(⟨#[49]⟩:ByteArray),(⟨#[48]⟩:ByteArray),(⟨#[55,53,51,49,48,46,50,55,48,51,48,46,57,50,56,52,48]⟩:ByteArray)]).map D.str)):=by
 have h:=CO yP 32 aE;rw[kP1]at h;exact h
theorem ae':Go.oO.vb 46 (⟨#[55,53,51,49,48,46,50,55,48,51,48,46,57,50,56,52,48]⟩:ByteArray)=kG:=ax
theorem ae1:ak aa 101 [.str yP] (.aF [.agg [.ag 182 [],i64 ((2:Nat):Int), .bool false, .bool true, .bool true,ints [1,0], .list [aX kG]], .bool true]):=
 adx yP (⟨#[119,105,114,101]⟩:ByteArray) [(⟨#[49]⟩:ByteArray),(⟨#[48]⟩:ByteArray),(⟨#[55,53,51,49,48,46,50,55,48,51,48,46,57,50,56,52,48]⟩:ByteArray)] [1,0] kG 182 2 true aeT ax rfl rfl aE (λj hj=>by
  match j,hj with
  |0,_=>exact qa _ 1 ax aE aE
  |1,_=>exact qa _ 0 ax aE aE) (by
  have h:=CO (⟨#[55,53,51,49,48,46,50,55,48,51,48,46,57,50,56,52,48]⟩:ByteArray) 46 aE;rw[ae']at h;exact h) ax
def yO:ByteArray:=(⟨#[100,114,97,119,32,48]⟩:ByteArray)
theorem kP2:Go.oO.vb 32 yO=[(⟨#[100,114,97,119]⟩:ByteArray),(⟨#[48]⟩:ByteArray)]:=ax
theorem aeS:ak aa 128 [.str yO, .str ⟨#[32]⟩] (.list (((⟨#[100,114,97,119]⟩:ByteArray)::[(⟨#[48]⟩:ByteArray)]).map D.str)):=by
 have h:=CO yO 32 aE;rw[kP2]at h;exact h
theorem ae0:ak aa 101 [.str yO] (.aF [.agg [.ag 187 [],i64 ((1:Nat):Int), .bool false, .bool false, .bool false,ints [0], .list []], .bool true]):=
 KW yO (⟨#[100,114,97,119]⟩:ByteArray) [(⟨#[48]⟩:ByteArray)] [0] 187 1 false aeS ax rfl rfl aE (λj hj=>by
  match j,hj with
  |0,_=>exact qa _ 0 ax aE aE)
def yN:ByteArray:=(⟨#[99,111,115,116]⟩:ByteArray)
theorem kP3:Go.oO.vb 32 yN=[(⟨#[99,111,115,116]⟩:ByteArray)]:=ax
theorem aeR:ak aa 128 [.str yN, .str ⟨#[32]⟩] (.list (((⟨#[99,111,115,116]⟩:ByteArray)::[]).map D.str)):=by
 have h:=CO yN 32 aE;rw[kP3]at h;exact h
theorem aeZ:ak aa 101 [.str yN] (.aF [.agg [.ag 195 [],i64 ((0:Nat):Int), .bool false, .bool false, .bool false,ints [], .list []], .bool true]):=
 KW yN (⟨#[99,111,115,116]⟩:ByteArray) [] [] 195 0 false aeR ax rfl rfl aE (λj hj=>absurd hj (dF j))
end Go.Proofs.YtafmfhkplgapjaaGreatDoor
namespace Go.Proofs.YtafmfhkplgapjaaGreatDoor
set_option maxRecDepth 100000
set_option maxHeartbeats 4000000
open Go.Ab
attribute[local irreducible] av dL dY ak aH cY IA ez aP fM
abbrev dG (S:List aS)(U:List D):List D:=cx 2 2 100 S++(cx 2 2 100 []++U)
theorem mV (S:List aS){U:List D}(hU:∀d∈U,Names 0 0 d):∀d∈dG S U,Names 0 0 d:=λd h=>by
 simp only[dG,cx,fA,eK,ny,or_false]at h;rcases h with(rfl|rfl|rfl|rfl)|(rfl|rfl|rfl|rfl)|h;any_goals constructor
 exact hU d h
section
variable (cap ns:Nat) (U:List D) (hU:∀d∈U,Names 0 0 d) (hl:8 + U.length=cap * 4)
include hU hl
theorem aeY:aH aa 239 [.box 0 0,i64 (0:Nat),sK AP] [.mu (ay cz 2 cap 0), .mp [], .mu (dG [] U)] [bG ns,az 0] (aT (i64 0) [.mu (ay cz 2 cap 0), .mp [], .mu (dG nR U)] [bG ns,az 1]):=
 acv cz 2 cap ns 0 0 0 (dG [] U) (cx 2 2 100 []++U) 2 2 100 [] AP 75995 76005 75995 76005 76005 100 100 aE aE aE aE (mV _ hU) aE aE aE ae4 rfl (by simp[dG,cx];omega) ae aE aE aE aE SJ kC1
theorem aeP:aH aa 10 [.box 0 0,i64 (1:Nat),i64 0, .list [aX kG]] [.mu (ay cz 2 cap 0), .mp [], .mu (dG nR U)] [bG ns,az 1] (aT (i64 0) [.mu (ay cz 2 cap 131), .mp [], .mu (dG iP U)] [bG ns,az 2]):=by
 have he:ja cz [kG]=0:=by
  unfold ja;rw[if_neg (by decide +kernel),if_neg (by show kf (mT kF kT 1 [kG])≠[];rw[Lx];decide)]
 have h:=Pc cz PT (bG ns) 2 cap 1 1 0 0 (dG nR U) [kG] (mV _ hU) jB aE (cx 2 2 100 []++U) nR ⟨aE,aE⟩ ⟨aE,aE⟩ rfl (by simp[dG,cx];omega) ae aE aE aE SJ ⟨aE,aE⟩ he kL Lx.symm SL;have e:(0:Int) + ox cz.to cz.tf cz.tm (cz.fl.length + 1) [kG].length=131:=aE;rw[e]at h;exact h
theorem ae_:aH aa 67 [.box 0 0, .str yQ] [.mu (ay cz 2 cap 0), .mp [], .mu (dG [] U)] [bG ns,az 0] (aT (.aF [.str ⟨#[]⟩,i64 0]) [.mu (ay cz 2 cap 0), .mp [], .mu (dG nR U)] [bG ns,az 1]):=
 Iv cz 2 cap 0 (dG [] U) ns 0 (mV _ hU) 0 (dG nR U) 1 (mV _ hU) yQ ⟨#[]⟩ aE 181 ((11:Nat):Int) false true [0,0,480,1,76000,0,0,0,0,0,0] (.list []) (.val (.slice none 0 0)) (.inl rfl) ae2
  (ai5 cz 2 cap ns 0 0 0 (dG [] U) (dG nR U) (mV _ hU) (mV _ hU) [0,0,480,1,76000,0,0,0,0,0,0] [] rfl (aeY cap ns U hU hl)) (.inl ⟨rfl,SS⟩)
theorem ae9:aH aa 67 [.box 0 0, .str yP] [.mu (ay cz 2 cap 0), .mp [], .mu (dG nR U)] [bG ns,az 1] (aT (.aF [.str ⟨#[]⟩,i64 0]) [.mu (ay cz 2 cap 131), .mp [], .mu (dG iP U)] [bG ns,az 2]):=
 Iv cz 2 cap 0 (dG nR U) ns 1 (mV _ hU) 131 (dG iP U) 2 (mV _ hU) yP ⟨#[]⟩ aE 182 ((2:Nat):Int) true true [1,0] (.list [aX kG]) (.val (.slice none 0 0)) (.inr ⟨_,rfl⟩) ae1
  (ai3 cz 2 cap ns 1 0 131 (dG nR U) (dG iP U) (mV _ hU) (mV _ hU) [1,0] kG rfl (aeP cap ns U hU hl)) (.inl ⟨rfl,SS⟩)
theorem ae8:aH aa 67 [.box 0 0, .str yO] [.mu (ay cz 2 cap 131), .mp [], .mu (dG iP U)] [bG ns,az 2] (aT (.aF [.str (⟨#[55,54,48,48,48,32,55,53,57,48,50,32,55,53,57,48,50,32,55,53,56,48,50]⟩:ByteArray),i64 0]) [.mu (ay cz 2 cap 131), .mp [], .mu (dG iP U)] [bG ns,az 2]):=by
 have h:=ai6 cz 2 cap 131 [0] (dG iP U) (cx 2 2 100 []++U) 2 2 100 iP ns 2 rfl (mV _ hU) aE aE rfl (by simp[dG,cx];omega) ae aE aE kM2 SL;have e:se ((2:Nat):Int) 100 iP (2 * 2)=[76000,75902,75902,75802]:=ae6;rw[e]at h;have j:=SR [76000,75902,75902,75802] aE aE (λi hi=>by
  match i,hi with
  |0,_|1,_|2,_|3,_=>exact⟨aE,aE⟩) (of_decide_eq_true ax)
 have e2:Ho (([76000,75902,75902,75802]:List Int).map itoa) Aq=(⟨#[55,54,48,48,48,32,55,53,57,48,50,32,55,53,57,48,50,32,55,53,56,48,50]⟩:ByteArray):=ax;rw[e2]at j;exact Iv cz 2 cap 131 (dG iP U) ns 2 (mV _ hU) 131 (dG iP U) 2 (mV _ hU) yO _ aE 187 ((1:Nat):Int) false false [0] (.list []) (ints [76000,75902,75902,75802]) (.inl rfl) ae0 h (.inr ⟨_,rfl,j⟩)
theorem ae7:aH aa 67 [.box 0 0, .str yN] [.mu (ay cz 2 cap 131), .mp [], .mu (dG iP U)] [bG ns,az 2] (aT (.aF [.str (⟨#[49,51,49]⟩:ByteArray),i64 0]) [.mu (ay cz 2 cap 131), .mp [], .mu (dG iP U)] [bG ns,az 2]):=by
 have h:=ai1 cz (.aN 2 0 2 cap) (.own 0) (.bu 1) 131 (.own 1) (ints []) (.list []) [.mp [], .mu (dG iP U)] [bG ns,az 2];have j:=SR [131] aE aE (λi hi=>by
  match i,hi with
  |0,_=>exact⟨aE,aE⟩) (of_decide_eq_true ax)
 have e2:Ho (([131]:List Int).map itoa) Aq=(⟨#[49,51,49]⟩:ByteArray):=ax;rw[e2]at j;exact Iv cz 2 cap 131 (dG iP U) ns 2 (mV _ hU) 131 (dG iP U) 2 (mV _ hU) yN _ aE 195 ((0:Nat):Int) false false [] (.list []) (ints [131]) (.inl rfl) aeZ h (.inr ⟨_,rfl,j⟩)
end
abbrev ahA (n:Int):List Int:=[((((n.tdiv 10).tdiv 10).tdiv 10).tdiv 10).tmod 10,(((n.tdiv 10).tdiv 10).tdiv 10).tmod 10,((n.tdiv 10).tdiv 10).tmod 10,(n.tdiv 10).tmod 10,n.tmod 10]
theorem CI {n:Int}(h:0<=n/\n<=99999):0<=n.tdiv 10/\n.tdiv 10<=99999:=⟨Int.tdiv_nonneg h.1 aE,by rw[Int.tdiv_eq_ediv_of_nonneg h.1];omega⟩
theorem MX (n:Int)(h:0<=n/\n<=99999):ak aa 73 [i64 n] (.agg ((ahA n).map λ(x:Int)=>i64 x)):=by
 have h1:=CI h;have h2:=CI h1;have h3:=CI h2;have h4:=CI h3;have h5:=CI h4;refine cT func73 ntmps73 results73 call73 λw0 S0 M0=> ?_;repeat'(first|(show av _ (.loop _) _ _;refine sn 6 ?_)|(refine sJ ?_)|refine aq ?_|refine au λK hK=> ?_|(intro hg;try exact ai)|exact fin|apply af)
 all_goals first|omega|rfl
abbrev ahB (l:List Int):ByteArray:=⟨(l.map λn=>UInt8.ofNat (48 + n).toNat).toArray⟩
theorem U' (a b c d e:Int)(h1:0<=a/\a<=9)(h2:0<=b/\b<=9)(h3:0<=c/\c<=9)(h4:0<=d/\d<=9)(h5:0<=e/\e<=9):ak aa 74 [.agg [i64 a,i64 b,i64 c,i64 d,i64 e]] (.str (ahB [a,b,c,d,e])):=by
 refine cT func74 ntmps74 results74 call74 λw0 S0 M0=> ?_;repeat'(first|(show av _ (.loop _) _ _;refine I3 3 5 1 rfl ?_;refine sn 6 ?_)|(refine sJ ?_)|(show av _ (.region 7 _ _) _ _;refine bJ ?_)|refine aq ?_|refine au λK hK=> ?_|(intro hg;try exact ai)|exact fin|apply af)
 all_goals first|omega|refine b_ ?_
 refine ep (bX.read 3 rfl) ?_;repeat'(first|refine aq ?_|refine au λK hK=> ?_|(intro hg;try exact ai)|exact fin|apply af)
 all_goals first|omega|rfl
end Go.Proofs.YtafmfhkplgapjaaGreatDoor
