import Derived.Test.YtopobgihpdaggaaGreatDoorZ06
import Derived.RecoverIn
set_option linter.unusedVariables false
set_option linter.unusedSimpArgs false
open Array renaming any_eq_true'->xZ,getElem?_eq_none->Fc,getElem?_eq_some_iff->bJ,mem_of_getElem?->zV
open Bool renaming and_eq_true->dZ,or_eq_true->oC
open Go.Call renaming operands->sA
open List renaming all_eq_true->ic,eq_nil_of_length_eq_zero->zN,mem_append->gY,mem_cons->eX,mem_range->ld,range->dB
open Nat renaming le_trans->gj,lt_or_ge->fL,not_le_of_lt->tW
open Go.Op renaming operands->fi
open Option renaming isNone_iff_eq_none->ES
open Go.Region renaming binds->eF,lexB->Cg,lexFrom->vq,ready->kO
open Go.Sem renaming run_bind->kN,run_pure->q_
namespace Go.Ab
open Go.RowKit
section
variable {P:Program}
def isApp:Op->Bool
 | .call ⟨.builtin .append,⟨[_,_]⟩,⟨[_,_]⟩⟩=>true
 |_=>false
def o_:Op->Option Tmp
 | .fieldAddr _ (.tmp p) _=>some p
 |_=>none
theorem Dp {o:Op}(h:isApp o=true):∃x y t t',o= .call ⟨.builtin .append,⟨[x,y]⟩,⟨[t,t']⟩⟩:=by
 unfold isApp at h;split at h
 ·exact⟨_,_,_,_,rfl⟩
 ·cases h
theorem Q2 {o:Op}{p:Tmp}(h:o_ o=some p):∃t f,o= .fieldAddr t (.tmp p) f:=by
 unfold o_ at h;split at h
 ·cases h;exact⟨_,_,rfl⟩
 ·cases h
theorem Ry (rw:List Row)(d:D):CP (lM rw d):=by
 cases d<;>first|exact .no|exact .ret _|skip
 rename_i r;show CP (λk=>match rw[r]? with|some row=>k row.xs|none=>False);cases rw[r]? with
 |none=>exact .no
 |some row=>exact .ret _
theorem Eg (s:St)(dst:Option Tmp)(t:TypeId)(dx dy:D):CP (qk P s dst t dx dy):=by
 refine(gg (elemOf P t)).bind λe=> .and _ (.and _ ((Ry s.rw dy).bind λys=> .and _ ?_));cases dx<;>first|exact .no|skip
 ·rename_i r;exact(gg s.rw[r]?).bind λrow=> .and _ (.and _ (.and _ (.and _ (.gW _ _))))
 ·rename_i v;cases v<;>first|exact .no|skip
  rename_i a l c;cases a with
  |some _=>exact .no
  |none=>
   cases l with
   |succ _=>exact .no
   |zero=>
    cases c with
    |succ _=>exact .no
    |zero=>exact .and _ (.gW _ _)
def x9 (s s1:St)(dst:Option Tmp):Prop:=(∃r R,s1=(s.appended r R).put dst (.own r))\/∃R,s1=St.put {s with rw:=s.rw++[R]} dst (.own s.rw.length)
theorem Im {s s':St}{dst:Option Tmp}{t:TypeId}{dx dy:D}{K K':St->Prop}(pI:s'.rw=s.rw)(h1:∀r R,K ((s.appended r R).put dst (.own r))->K' ((s'.appended r R).put dst (.own r)))
  (h2:∀R,K (St.put {s with rw:=s.rw++[R]} dst (.own s.rw.length))->K' (St.put {s' with rw:=s'.rw++[R]} dst (.own s'.rw.length)))(h:qk P s dst t dx dy K):qk P s' dst t dx dy K':=by
 obtain⟨e,he,c1,c2,h⟩:=cE h;unfold qk;rw[he];refine⟨c1,c2, ?_⟩;rw[pI];refine(Ry s.rw dy).mono (λys ⟨c3,h⟩=>⟨c3, ?_⟩) h;split at h
 ·obtain⟨row,hr,c4,c5,c6,c7,c8,h⟩:=cE h;rw[hr];exact⟨c4,c5,c6,c7,c8,h1 _ _ h⟩
 ·have:=h2 _ h.2.2;rw[pI]at this;exact⟨h.1,h.2.1,this⟩
 ·exact h.elim
theorem Si {s s1:St}{dst:Option Tmp}{t:TypeId}{dx dy:D}(h:qk P s dst t dx dy (λx=>x=s1)):x9 s s1 dst:=by
 have:=Im (P:=P) (s:=s) (s':=s) (K':=λ_=>x9 s s1 dst) rfl (λr R h=> .inl ⟨r,R,h.symm⟩) (λR h=> .inr ⟨R,h.symm⟩) h;obtain⟨_,_,h⟩:=(Eg (P:=P) s dst t dx dy).ex this;exact h
theorem zb {ops:List Oper}{o:Oper}{s:St}{K:St->Prop}{x y:Operand}{t t':TypeId}(ho:o.op= .call ⟨.builtin .append,⟨[x,y]⟩,⟨[t,t']⟩⟩)(hg:o.guard=none):
  de P ops o s K↔bp s o.dst/\t'=t/\qk P s o.dst t (s.ev x) (s.ev y) K:=by
 unfold de;rw[hg];obtain⟨dst,op,ty,pos,aft,gd⟩:=o;simp only at ho;subst ho;exact Iff.rfl
theorem D1 {ops:List Oper}{o:Oper}{s:St}{K:St->Prop}{p:Tmp}{t:TypeId}{f:Nat}(ho:o.op= .fieldAddr t (.tmp p) f)(hg:o.guard=none):
  de P ops o s K↔bp s o.dst/\bn (bq P t f) λot=>py (s.sl p) ot.1 λd=>K (s.put o.dst d):=by
 unfold de;rw[hg];obtain⟨dst,op,ty,pos,aft,gd⟩:=o;simp only at ho;subst ho;exact Iff.rfl
theorem N_ {r:Nat}{d:D}{i off:Nat}(h:gI r d= .box i off):d= .box i off:=by
 unfold gI at h;split at h
 ·cases h
 ·exact h
theorem Sh {s:St}{r:Nat}{R:Row}{a:Option Tmp}{i off:Nat}:(St.put s a (.box i off)).appended r R=St.put (s.appended r R) a (.box i off):=by
 cases a with
 |none=>rfl
 |some n=>
  simp only[St.appended,St.put]
  congr 1
  funext m
  simp only[Ab.put];split<;>rfl
theorem NF {s:St}{R:Row}{a:Option Tmp}{d:D}:({St.put s a d with rw:=(St.put s a d).rw++[R]}:St)=St.put {s with rw:=s.rw++[R]} a d:=by cases a<;>rfl
theorem CZ {s:St}{a:Option Tmp}{d:D}:(St.put s a d).rw=s.rw:=by cases a<;>rfl
theorem Av {s:St}{x:Option Tmp}{v:D}{m:Tmp}(h:x≠some m):(St.put s x v).sl m=s.sl m:=by
 cases x with
 |none=>rfl
 |some t=>simp only[St.put,Ab.put];rw[if_neg (λe=>h (by rw[e]))]
theorem x9.box {s s1:St}{dst:Option Tmp}(h:x9 s s1 dst){p:Tmp}(hp:dst≠some p){i off:Nat}:s1.sl p= .box i off↔s.sl p= .box i off:=by
 rcases h with⟨r,R,rfl⟩|⟨R,rfl⟩
 ·rw[Av hp];exact⟨N_,λh=>by show gI r (s.sl p)=_;rw[h];rfl⟩
 ·rw[Av hp]
theorem x9.dst {s s1:St}{dst:Option Tmp}(h:x9 s s1 dst){a:Option Tmp}:bp s1 a↔bp s a:=by
 rcases h with⟨r,R,rfl⟩|⟨R,rfl⟩<;>cases dst<;>exact Iff.rfl
theorem VU {ops:Array Oper}{oi oj:Oper}{s:St}{K:St->Prop}{p:Tmp}(iX:oi.apart ops oj=true)(hi:isApp oi.op=true)(hj:o_ oj.op=some p)(nc:oi.guard=none)(qT:oj.guard=none):
  de P ops.toList oi s (λs1=>de P ops.toList oj s1 K/\∃i off,s1.sl p= .box i off)->de P ops.toList oj s (λs1=>de P ops.toList oi s1 K):=by
 obtain⟨h1,h2,h3⟩:=Oper.apart_spec iX;obtain⟨x,y,t,t',oV⟩:=Dp hi;obtain⟨tf,f,dF⟩:=Q2 hj;have hp:oi.dst≠some p:=λe=>h1 p e (by
  simp only[Oper.looksAt,gY,List.mem_filterMap];left;rw[dF];exact⟨.tmp p,by simp[fi],rfl⟩)
 intro h;obtain⟨hd,ht,h⟩:=(zb oV nc).1 h;obtain⟨s1,ha,hA,i,off,hb⟩:=(Eg _ _ _ _ _).ex h;have A5:=Si ha;have mi:=(A5.box hp).1 hb;obtain⟨DS,hA⟩:=(D1 dF qT).1 hA;obtain⟨ot,G2,hA⟩:=cE hA;rw[hb]at hA;have hA:K (St.put s1 oj.dst (.box i (off + ot.1))):=hA;refine(D1 dF qT).2 ⟨A5.dst.1 DS, ?_⟩;rw[G2,mi];show de P ops.toList oi (St.put s oj.dst (.box i (off + ot.1))) K;have ev:∀z∈oi.op.operands,(St.put s oj.dst (.box i (off + ot.1))).ev z=s.ev z:=λz hz=>by
  rw[zi,zi];exact tG h3 z hz
 refine(zb oV nc).2 ⟨by cases oj.dst<;>exact hd,ht, ?_⟩;rw[ev x (by rw[oV];simp[fi,sA]),ev y (by rw[oV];simp[fi,sA])];refine Im (s:=s) (K:=λz=>z=s1) CZ (λr R e=> ?_) (λR e=> ?_) ha
 ·rw[Sh,<-yn h2,e];exact hA
 ·rw[NF,CZ,<-yn h2,e];exact hA
theorem VV {ops:Array Oper}{oi oj:Oper}{s:St}{K:St->Prop}{p:Tmp}(iX:oi.apart ops oj=true)(hi:o_ oi.op=some p)(hj:isApp oj.op=true)(nc:oi.guard=none)(qT:oj.guard=none)(uR:oi.dst≠some p):
  de P ops.toList oi s (λs1=>de P ops.toList oj s1 K/\∃i off,s1.sl p= .box i off)->de P ops.toList oj s (λs1=>de P ops.toList oi s1 K):=by
 obtain⟨h1,h2,h3⟩:=Oper.apart_spec iX;obtain⟨x,y,t,t',oV⟩:=Dp hj;obtain⟨tf,f,dF⟩:=Q2 hi;have hp:oj.dst≠some p:=λe=>h3 p e (by
  simp only[Oper.looksAt,gY,List.mem_filterMap];left;rw[dF];exact⟨.tmp p,by simp[fi],rfl⟩)
 intro h;obtain⟨hd,h⟩:=(D1 dF nc).1 h;obtain⟨ot,G2,h⟩:=cE h;have mi:∃i off,s.sl p= .box i off:=by
  cases hs:s.sl p<;>rw[hs]at h<;>first|exact h.elim|skip
  ·exact⟨_,_,rfl⟩
  ·obtain⟨_,i,off,e⟩:=h;rw[Av uR,hs]at e;cases e
 obtain⟨i,off,mi⟩:=mi;rw[mi]at h;have h:de P ops.toList oj (St.put s oi.dst (.box i (off + ot.1))) K/\_:=h;obtain⟨DS,ht,hx⟩:=(zb oV qT).1 h.1;have ev:∀z∈oj.op.operands,(St.put s oi.dst (.box i (off + ot.1))).ev z=s.ev z:=λz hz=>by
  rw[zi,zi];exact tG h1 z hz
 rw[ev x (by rw[oV];simp[fi,sA]),ev y (by rw[oV];simp[fi,sA])]at hx;refine(zb oV qT).2 ⟨by cases hh:oi.dst<;>rw[hh]at DS<;>exact DS,ht, ?_⟩;have fin:∀s1,x9 s s1 oj.dst->K (St.put s1 oi.dst (.box i (off + ot.1)))->de P ops.toList oi s1 K:=λs1 A5 hK=>by
  refine(D1 dF nc).2 ⟨A5.dst.2 hd, ?_⟩;rw[G2,(A5.box hp).2 mi];exact hK
 refine Im (s:=St.put s oi.dst (.box i (off + ot.1))) (s':=s) CZ.symm (λr R e=> ?_) (λR e=> ?_) hx
 ·refine fin _ (.inl ⟨r,R,rfl⟩) ?_;rw[Sh,yn h2]at e;exact e
 ·refine fin _ (.inr ⟨R,rfl⟩) ?_;rw[NF,CZ,yn h2]at e;exact e
def oJ (o:Oper):Bool:=match kindOf o.op with
 | .X=>isApp o.op&&o.guard.isNone
 | .L=>o.guard.isNone
 | .W=>o.guard.isNone
 |_=>true
theorem xa {ops:List Oper}{o:Oper}{s:St}(h:oJ o=true):CP (de P ops o s):=by
 have key:kindOf o.op≠ .X->(kindOf o.op= .L\/kindOf o.op= .W->o.guard=none)->CP (de P ops o s):=λhx hg=>by
  have:de P ops o s=λK=>bp s o.dst/\ef P ops o s.sl s.bx s.rw λr=>K (St.put ⟨s.n,s.sl,r.1,s.rw⟩ o.dst r.2):=funext λK=>propext (r9 hx hg);rw[this];exact .and _ ((sg _ _ _ _ _).bind (U:=λr k=>k (St.put ⟨s.n,s.sl,r.1,s.rw⟩ o.dst r.2)) λr=> .ret _)
 unfold oJ at h;cases hk:kindOf o.op with
 |A=>exact key (by rw[hk];simp) (by rw[hk];simp)
 |B=>exact key (by rw[hk];simp) (by rw[hk];simp)
 |L=>rw[hk]at h;exact key (by rw[hk];simp) (λ_=>by simpa using h)
 |W=>rw[hk]at h;exact key (by rw[hk];simp) (λ_=>by simpa using h)
 |X=>
  rw[hk]at h;simp only[dZ,ES]at h;obtain⟨x,y,t,t',oV⟩:=Dp h.1;have:de P ops o s=λK=>bp s o.dst/\t'=t/\qk P s o.dst t (s.ev x) (s.ev y) K:=funext λK=>propext (zb oV h.2);rw[this];exact .and _ (.and _ (Eg _ _ _ _ _))
theorem AI {o:Oper}(h:oJ o=true)(hx:kindOf o.op≠ .X):kindOf o.op= .L\/kindOf o.op= .W->o.guard=none:=by
 unfold oJ at h;rintro(hk|hk)<;>rw[hk]at h<;>simpa using h
def Dn (d:D):Prop:=∃i off,d= .box i off
theorem acw {ops:List Oper}{o:Oper}{s:St}(h:oJ o=true){K:St->Prop}(hk:de P ops o s K):∃s1,K s1/\(∀m,o.dst≠some m->s1.sl m=s.sl m\/∃r,s1.sl m=gI r (s.sl m)):=by
 by_cases hx:kindOf o.op= .X
 ·have h':=h;unfold oJ at h';rw[hx]at h';simp only[dZ,ES]at h';obtain⟨x,y,t,t',oV⟩:=Dp h'.1;obtain⟨_,_,hh⟩:=(zb oV h'.2).1 hk;obtain⟨s1,ha,hK⟩:=(Eg _ _ _ _ _).ex hh;refine⟨s1,hK,λm hm=> ?_⟩;rcases Si ha with⟨r,R,rfl⟩|⟨R,rfl⟩
  ·rw[Av hm];exact .inr ⟨r,rfl⟩
  ·rw[Av hm];exact .inl rfl
 ·obtain⟨_,h2⟩:=(r9 hx (AI h hx)).1 hk;obtain⟨r,_,h3⟩:=(sg _ _ _ _ _).ex h2;exact⟨_,h3,λm hm=> .inl (rA hm)⟩
def Kept (d d':D):Prop:=d'=d\/∃r,d'=gI r d
theorem Kept.box {d d':D}(h:∀i off,d'= .box i off↔d= .box i off){e e':D}(g:∀i off,e'= .box i off↔e= .box i off)(hd:mv d' e'):mv d e:=by
 cases d<;>first|exact trivial|skip
 rename_i i off;cases e<;>first|exact trivial|skip
 rename_i j nR;rw[(h i off).2 rfl,(g j nR).2 rfl]at hd;exact hd
theorem YI {r:Nat}{d:D}(i off:Nat):gI r d= .box i off↔d= .box i off:=⟨N_,λh=>by rw[h];rfl⟩
theorem Sn {ops:Array Oper}{K:St->Prop}(hk:ops.toList.all oJ=true):∀(fuel:Nat) (listed:Array Bool) (s:St),kh P ops K fuel listed s->
  ∃sf,K sf/\∀m,(∀(j:Nat) (oj:Oper),ops[j]? =some oj->listed.getD j true=false->oj.dst≠some m)->∀i off,sf.sl m= .box i off↔s.sl m= .box i off
 |0,listed,s,h=>⟨s,h.2,λ_ _ _ _=>Iff.rfl⟩
 |fuel + 1,listed,s,h=>by
  by_cases hr:kO .any ops listed=[]
  ·exact⟨s,h.1 hr,λ_ _ _ _=>Iff.rfl⟩
  ·obtain⟨i,hi⟩:=List.exists_mem_of_ne_nil _ hr;obtain⟨dU,o,ho,_⟩:=mem_ready.1 hi;have hm:oJ o=true:=ic.1 hk o (by simpa using zV ho);obtain⟨s1,h3,fY⟩:=acw hm (h.2 i hi o ho);obtain⟨sf,hK,hs⟩:=Sn hk fuel _ _ h3;refine⟨sf,hK,λm Bc a b=> ?_⟩;rw[hs m (λj oj hj hl=>Bc j oj hj ?_)]
   ·rcases fY m (Bc i o ho dU)with e|⟨r,e⟩
    ·rw[e]
    ·rw[e];exact YI a b
   ·by_cases u3:i=j
    ·subst u3;exact dU
    ·rwa [getD_set_ne true u3]at hl
def aoH (o:Op):Option Tmp:=match nx o with|some m=>some m|none=>o_ o
def ya (ops:Array Oper):Bool:=rl ops&&(dB ops.size).all λi=>match ops[i]? with
 |some o=>match o_ o.op with
   |some m=>o.dst !=some m&&(dB ops.size).all λk=>match ops[k]? with|some ok=>ok.dst !=some m||o.after.any (λe=>eF .any e&&e.on == k)|none=>true
   |none=>true
 |none=>true
theorem Fj {ops:Array Oper}(h:ya ops=true){i:Nat}{o:Oper}{m:Tmp}(ho:ops[i]? =some o)(hm:o_ o.op=some m):
  o.dst≠some m/\∀(k:Nat) (ok:Oper),ops[k]? =some ok->ok.dst=some m->∃e∈o.after,eF .any e=true/\e.on=k:=by
 simp only[ya,dZ]at h;have hi:=(bJ.1 ho).1;have h1:=ic.1 h.2 i (ld.2 hi);simp only[ho,hm,dZ,bne_iff_ne,ne_eq,ic,ld]at h1;refine⟨h1.1,λk ok hk hd=> ?_⟩;have h2:=h1.2 k (bJ.1 hk).1;simp only[hk,hd,oC,bne_self_eq_false,Bool.false_eq_true,false_or,xZ,dZ,beq_iff_eq]at h2;exact h2
def D_ (ops:Array Oper)(j k:Nat):Bool:=match ops[j]? with|some o=>o.after.any λe=>eF .any e&&e.on == k|none=>false
def eV (ops:Array Oper):Nat->List Nat->List Nat
 |0,S=>S
 |k + 1,S=>eV ops k (if S.any (λj=>D_ ops j k)then k::S else S)
def BR (ops:Array Oper)(listed:Array Bool):Prop:=∀(j:Nat) (oj:Oper),ops[j]? =some oj->listed.getD j true=true->∀e∈oj.after,eF .any e=true->listed.getD e.on true=true
theorem Ss {ops:Array Oper}{listed:Array Bool}(hc:BR ops listed):∀(n:Nat) (S:List Nat) (x:Nat),(∀k,D_ ops x k=true->listed.getD k true=true)->(∀j∈S,j=x\/listed.getD j true=true)->∀k∈eV ops n S,k=x\/listed.getD k true=true
 |0,S,x,hx,hS,k,hk=>hS k hk
 |n + 1,S,x,hx,hS,k,hk=>by
  refine Ss hc n _ x hx (λj hj=> ?_) k hk;split at hj
  ·rename_i acm;rcases eX.1 hj with rfl|hj
   ·obtain⟨i,hi,he⟩:=List.any_eq_true.1 acm;rcases hS i hi with rfl|hl
    ·exact .inr (hx _ he)
    ·unfold D_ at he;cases ho:ops[i]? with
     |none=>rw[ho]at he;cases he
     |some o=>
      rw[ho]at he;obtain⟨e,Hj,wL⟩:=xZ.1 he;simp only[dZ,beq_iff_eq]at wL;have:=hc i o ho hl e Hj wL.1;rw[wL.2]at this;exact .inr this
   ·exact hS j hj
  ·exact hS j hj
def wY (ps:List (Tmp×Tmp))(qs:List Tmp)(oi oj:Oper):Bool:=qZ ps oi oj||
 (isApp oi.op&&oi.guard.isNone&&oj.guard.isNone&&(match o_ oj.op with|some p=>qs.contains p|none=>false))||
 (isApp oj.op&&oi.guard.isNone&&oj.guard.isNone&&(match o_ oi.op with|some p=>qs.contains p|none=>false))
theorem aec {ps:List (Tmp×Tmp)}{oi oj:Oper}(h:qZ ps oi oj=true):kindOf oi.op≠ .X/\kindOf oj.op≠ .X:=by
 simp only[qZ,oC]at h;rcases h with h|h
 ·constructor<;>intro e<;>rw[e]at h<;>revert h
  ·cases kindOf oj.op<;>simp[sS]
  ·cases kindOf oi.op<;>simp[sS]
 ·unfold Ea at h;constructor<;>intro e<;>revert h<;>(split<;>intro h)<;>first|(rename_i e1 e2;rw[e1]at e;cases e;done)|(rename_i e1 e2;rw[e2]at e;cases e;done)|cases h
theorem agj {ps:List (Tmp×Tmp)}{qs:List Tmp}{ops:Array Oper}{K:St->Prop}(hk:ops.toList.all oJ=true)(hw:ya ops=true)(hC:∀s,K s->(∀x y,(x,y)∈ps->mv (s.sl x) (s.sl y))/\∀p∈qs,Dn (s.sl p)){i:Nat}{oi:Oper}(hi:ops[i]? =some oi):
  ∀(fuel:Nat) (listed:Array Bool) (s:St),BR ops listed->
   (∀(j:Nat) (oj:Oper),ops[j]? =some oj->j≠i->listed.getD j true=false->(∀e∈oj.after,eF .any e=true->e.on≠i)->oi.apart ops oj=true/\(wY ps qs oi oj=true\/i∈eV ops j [j]))->
   i∈kO .any ops listed->de P ops.toList oi s (λs'=>kh P ops K fuel (listed.setIfInBounds i true) s')->kh P ops K (fuel + 1) listed s:=by
 have qG:rl ops=true:=by simp only[ya,dZ]at hw;exact hw.1
 have cO:∀{j:Nat} {o:Oper},ops[j]? =some o->oJ o=true:=λ{j o} ho=>ic.1 hk o (by simpa using zV ho);intro fuel;induction fuel with
 |zero=>
  intro listed s _ _ hr H;refine⟨λh=>(by rw[h]at hr;cases hr),λj hj oj dF=> ?_⟩;by_cases bd:j=i
  ·subst bd;rw[hi]at dF;cases dF;exact H
  ·have uT:=ready_mono hj bd;exfalso;obtain⟨s1,_,h3⟩:=(xa (cO hi)).ex H;rw[h3.1]at uT;cases uT
 |succ fuel ih=>
  intro listed s bE u4 hr H;refine⟨λh=>(by rw[h]at hr;cases hr),λj hj oj dF=> ?_⟩;by_cases bd:j=i
  ·subst bd;rw[hi]at dF;cases dF;exact H
  ·obtain⟨u2,OJ,uV,bu⟩:=mem_ready.1 hj;rw[dF]at uV;cases uV
   have qV:∀{a b:Nat} {oa:Oper},a∈kO .any ops listed->ops[a]? =some oa->(∃e∈oa.after,eF .any e=true/\e.on=b)->listed.getD b true=true:=λ{a b oa} ha rR ⟨e,he,hb,G3⟩=>by
    obtain⟨_,OK,uW,BA⟩:=mem_ready.1 ha;rw[rR]at uW;cases uW
    have h1:=BA e he hb;rw[G3]at h1;rcases fL b listed.size with h'|h'
    ·simp[h']at h1⊢;exact h1
    ·simp[Fc h']at h1
   have uX:∀e∈oj.after,eF .any e=true->e.on≠i:=λe he hb heq=>by
    have h1:=qV hj dF ⟨e,he,hb,heq⟩;have h0:=(mem_ready.1 hr).1;rw[h0]at h1;cases h1
   obtain⟨iX,ik⟩:=u4 j oj dF bd u2 uX;have ik:wY ps qs oi oj=true:=by
    rcases ik with h|h
    ·exact h
    ·exfalso;have:=Ss bE j [j] j (λk he=>by
      unfold D_ at he;rw[dF]at he;obtain⟨e,Hj,wL⟩:=xZ.1 he;simp only[dZ,beq_iff_eq]at wL;exact qV hj dF ⟨e,Hj,wL.1,wL.2⟩) (λa ha=> .inl (by simpa using ha)) i h
     rcases this with e|e
     ·exact bd e.symm
     ·have h0:=(mem_ready.1 hr).1;rw[h0]at e;cases e
   have uQ:∀{k:Nat},(listed.setIfInBounds i true).getD k true=false->i≠k/\listed.getD k true=false:=λ{k} dU=>by
    have tq:i≠k:=λe=>by
     subst e;rcases fL i listed.size with h'|h'
     ·simp[h']at dU
     ·simp[h']at dU
    rw[getD_set_ne true tq]at dU;exact⟨tq,dU⟩
   have GZ:∀s1,kh P ops K (fuel + 1) (listed.setIfInBounds i true) s1->∃sf,K sf/\∀m,((nx oi.op=some m\/nx oj.op=some m\/B4 oi=some m)\/o_ oi.op=some m\/o_ oj.op=some m)->∀a b,sf.sl m= .box a b↔s1.sl m= .box a b:=λs1 gL=>by
    obtain⟨sf,hK,hs⟩:=Sn hk _ _ _ gL;refine⟨sf,hK,λm hm=>hs m λk ok tj dU hd=> ?_⟩;obtain⟨tq,dU⟩:=uQ dU;rcases hm with(hm|hm|hm)|hm|hm
    ·have:=qV hr hi ((x_ qG hi hm).2 k ok tj hd);rw[this]at dU;cases dU
    ·have:=qV hj dF ((x_ qG dF hm).2 k ok tj hd);rw[this]at dU;cases dU
    ·exact tq (Jg qG hi hm k ok tj hd).symm
    ·have:=qV hr hi ((Fj hw hi hm).2 k ok tj hd);rw[this]at dU;cases dU
    ·have:=qV hj dF ((Fj hw dF hm).2 k ok tj hd);rw[this]at dU;cases dU
   have h2:de P ops.toList oj s λs1=>de P ops.toList oi s1 λs2=>kh P ops K fuel ((listed.setIfInBounds i true).setIfInBounds j true) s2:=by
    simp only[wY,oC]at ik;rcases ik with(ik|ik)|ik
    ·obtain⟨xi,xj⟩:=aec ik;simp only[qZ,oC]at ik;rcases ik with ik|ik
     ·exact swap iX ik (AI (cO hi) xi) (AI (cO dF) xj) ((xa (cO hi)).mono (λs1 gL=>gL.2 j (ready_mono hj bd) oj dF) H)
     ·refine Nl (D0:=DC ps oi oj) iX xi xj (AI (cO hi) xi) (AI (cO dF) xj) (Rh ik iX (λm hm=>(x_ qG hi hm).1)) ?_;refine(xa (cO hi)).mono (λs1 gL=>⟨gL.2 j (ready_mono hj bd) oj dF,λx y iB hx hy=> ?_⟩) H;obtain⟨sf,hK,key⟩:=GZ s1 gL;exact Kept.box (key x (.inl (hx.elim .inl λh=> .inr (.inl h)))) (key y (.inl hy)) ((hC sf hK).1 x y iB)
    ·simp only[dZ,ES]at ik;obtain⟨⟨⟨ha,g1⟩,g2⟩,hp⟩:=ik;cases hf:o_ oj.op with
     |none=>rw[hf]at hp;cases hp
     |some p=>
      rw[hf]at hp;refine VU iX ha hf g1 g2 ((xa (cO hi)).mono (λs1 gL=>⟨gL.2 j (ready_mono hj bd) oj dF, ?_⟩) H);obtain⟨sf,hK,key⟩:=GZ s1 gL;obtain⟨a,b,e⟩:=(hC sf hK).2 p (by simpa using hp);exact⟨a,b,(key p (.inr (.inr hf)) a b).1 e⟩
    ·simp only[dZ,ES]at ik;obtain⟨⟨⟨ha,g1⟩,g2⟩,hp⟩:=ik;cases hf:o_ oi.op with
     |none=>rw[hf]at hp;cases hp
     |some p=>
      rw[hf]at hp;refine VV iX hf ha g1 g2 (Fj hw hi hf).1 ((xa (cO hi)).mono (λs1 gL=>⟨gL.2 j (ready_mono hj bd) oj dF, ?_⟩) H);obtain⟨sf,hK,key⟩:=GZ s1 gL;obtain⟨a,b,e⟩:=(hC sf hK).2 p (by simpa using hp);exact⟨a,b,(key p (.inr (.inl hf)) a b).1 e⟩
   have Bp:∀(k:Nat) (ok:Oper),ops[k]? =some ok->k≠i->(listed.setIfInBounds j true).getD k true=false->
     (∀e∈ok.after,eF .any e=true->e.on≠i)->oi.apart ops ok=true/\(wY ps qs oi ok=true\/i∈eV ops k [k]):=λk ok hk Bj dU fR=>by
    refine u4 k ok hk Bj ?_ fR;by_cases lE:j=k
    ·subst lE;exact u2
    ·rw[getD_set_ne true lE]at dU;exact dU
   have Hm:BR ops (listed.setIfInBounds j true):=λa oa rR Bh e he hb=>by
    have up:∀b,listed.getD b true=true->(listed.setIfInBounds j true).getD b true=true:=λb hb=>by
     by_cases Bl:j=b
     ·subst Bl;rcases fL j listed.size with h'|h'
      ·simp[h']
      ·simp[h']
     ·rw[getD_set_ne true Bl];exact hb
    by_cases Bm:j=a
    ·subst Bm;rw[dF]at rR;cases rR
     exact up _ (qV hj dF ⟨e,he,hb,rfl⟩)
    ·rw[getD_set_ne true Bm]at Bh;exact up _ (bE a oa rR Bh e he hb)
   refine(xa (cO dF)).mono (λs1 h3=>ih (listed.setIfInBounds j true) s1 Hm Bp (ready_mono hr (Ne.symm bd)) ?_) h2;rw[Array.setIfInBounds_comm _ _ bd];exact h3
def C6 (ps:List (Tmp×Tmp))(qs:List Tmp)(ops:Array Oper)(o:Oper)(i:Nat):Nat->List Oper->Bool
 |_,[]=>true
 |j,p::rest=>(p.after.any (λe=>eF .any e&&e.on == i)||wY ps qs o p||(eV ops j [j]).contains i)&&C6 ps qs ops o i (j + 1) rest
def AE (ps:List (Tmp×Tmp))(qs:List Tmp)(ops:Array Oper):Nat->List Oper->Bool
 |_,[]=>true
 |i,o::rest=>C6 ps qs ops o i (i + 1) rest&&AE ps qs ops (i + 1) rest
theorem OF {ps:List (Tmp×Tmp)}{qs:List Tmp}{ops:Array Oper}{o:Oper}{i:Nat}:∀(l:List Oper) (j:Nat),C6 ps qs ops o i j l=true->∀(b:Nat) (ob:Oper),l[b]? =some ob->
  (∀e∈ob.after,eF .any e=true->e.on≠i)->wY ps qs o ob=true\/i∈eV ops (j + b) [j + b]
 |[],j,_,b,ob,hb,_=>by simp at hb
 |p::l,j,h,b,ob,hb,fR=>by
  simp only[C6,dZ]at h;cases b with
  |zero=>
   simp at hb;subst hb
   have h1:=h.1;simp only[oC,xZ,dZ,beq_iff_eq]at h1;rcases h1 with(⟨e,he,h1,h2⟩|h1)|h1
   ·exact absurd h2 (fR e he h1)
   ·exact .inl h1
   ·exact .inr (by simpa using h1)
  |succ b=>
   have:=OF l (j + 1) h.2 b ob (by simpa using hb) fR;rw[show j + (b + 1)=j + 1 + b by omega];exact this
theorem OD {ps:List (Tmp×Tmp)}{qs:List Tmp}{ops:Array Oper}:∀(l:List Oper) (i:Nat),AE ps qs ops i l=true->∀(a b:Nat) (oa ob:Oper),a < b->l[a]? =some oa->l[b]? =some ob->
  (∀e∈ob.after,eF .any e=true->e.on≠i + a)->wY ps qs oa ob=true\/(i + a)∈eV ops (i + b) [i + b]
 |[],i,_,a,b,oa,ob,_,ha,_,_=>by simp at ha
 |o::l,i,h,a,b,oa,ob,Qx,ha,hb,fR=>by
  simp only[AE,dZ]at h;obtain⟨b,rfl⟩:∃b',b=b' + 1:=⟨b - 1,ag⟩;cases a with
  |zero=>
   simp at ha;subst ha
   have:=OF l (i + 1) h.1 b ob (by simpa using hb) (by simpa using fR);rw[show i + (b + 1)=i + 1 + b by omega];exact this
  |succ a=>
   have:=OD l (i + 1) h.2 a b oa ob ag (by simpa using ha) (by simpa using hb) (λe he bT=>by have:=fR e he bT;omega);rw[show i + (a + 1)=i + 1 + a by omega,show i + (b + 1)=i + 1 + b by omega];exact this
theorem Sp {ps:List (Tmp×Tmp)}{qs:List Tmp}{ops:Array Oper}{K:St->Prop}(hk:ops.toList.all oJ=true)(hw:ya ops=true)(hC:∀s,K s->(∀x y,(x,y)∈ps->mv (s.sl x) (s.sl y))/\∀p∈qs,Dn (s.sl p))(hp:AE ps qs ops 0 ops.toList=true):
  ∀(l:List Oper) (k:Nat) (listed:Array Bool) (s:St),BR ops listed->(∀j,l[j]? =ops[k + j]?)->
  (∀j,j < k->listed.getD j true=true)->vq .any ops l.length k listed=true->cq P ops.toList l s K->kh P ops K l.length listed s
 |[],_,_,_,_,_,_,hB,h=>⟨by simpa[vq]using hB,h⟩
 |o::l,k,listed,s,bE,hl,aU,hB,h=>by
  have h0:ops[k]? =some o:=by simpa using(hl 0).symm
  simp only[List.length_cons,vq,dZ]at hB;obtain⟨⟨hr,hf⟩,tE⟩:=hB;have hr:k∈kO .any ops listed:=by simpa using hr
  have hm:oJ o=true:=ic.1 hk o (by simpa using zV h0);have up:∀b,listed.getD b true=true->(listed.setIfInBounds k true).getD b true=true:=λb hb=>by
   by_cases Bl:k=b
   ·subst Bl;rcases fL k listed.size with h'|h'
    ·simp[h']
    ·simp[h']
   ·rw[getD_set_ne true Bl];exact hb
  have Hm:BR ops (listed.setIfInBounds k true):=λa oa rR Bh e he hb=>by
   by_cases Bm:k=a
   ·subst Bm;obtain⟨_,OK,uW,BA⟩:=mem_ready.1 hr;rw[rR]at uW;cases uW
    have h1:=BA e he hb;refine up _ ?_;rcases fL e.on listed.size with h'|h'
    ·simp[h']at h1⊢;exact h1
    ·simp[Fc h']at h1
   ·rw[getD_set_ne true Bm]at Bh;exact up _ (bE a oa rR Bh e he hb)
  refine agj hk hw hC h0 l.length listed s bE (λj oj hj lE dU fR=>⟨Region.free_spec h0 hf j oj hj lE dU fR, ?_⟩) hr
   ((xa hm).mono (λs' ly=>Sp hk hw hC hp l (k + 1) _ s' Hm (λj=>by have:=hl (j + 1);simpa[Nat.add_assoc,Nat.add_comm 1 j]using this) (λj hj=> ?_) tE ly) (D6 h))
  ·have jE:k < j:=by
    rcases Nat.lt_trichotomy j k with h1|h1|h1
    ·rw[aU j h1]at dU;cases dU
    ·exact absurd h1 lE
    ·exact h1
   have:=OD ops.toList 0 hp k j o oj jE (by simpa using h0) (by simpa using hj) (by simpa using fR);simpa using this
  ·by_cases h1:k=j
   ·subst h1;rcases fL k listed.size with h'|h'
    ·simp[h']
    ·simp[h']
   ·rw[getD_set_ne true h1];exact aU j ag
def vE (s:St):List Tmp->Prop
 |[]=>True
 |p::l=>Dn (s.sl p)/\vE s l
theorem vE.at {s:St}:∀{l:List Tmp},vE s l->∀p∈l,Dn (s.sl p)
 |p'::l,h,p,hm=>by
  rcases eX.1 hm with rfl|hm
  ·exact h.1
  ·exact h.2.at p hm
theorem agJ {c:Ctx}{id:Nat}{l:List Oper}{Q:Exit->St->Prop}{s:St}(ps:List (Tmp×Tmp))(qs:List Tmp)(hm:c.P.follows .mixedOrders=true)(hB:(Cg .any l.toArray&&l.all oJ&&AE ps qs l.toArray 0 l&&ya l.toArray)=true)
  (h:∀K:St->Prop,(∀s',Q .normal s'/\Sep s' ps/\vE s' qs->K s')->cq c.P l l s K):az c (.region id l.toArray true) Q s:=by
 intro a w hr;simp only[dZ,Cg]at hB;obtain⟨⟨⟨⟨_,hl⟩,hk⟩,hp⟩,hw⟩:=hB;refine wpIn_region_any hm (B1 (K:=λs=>Q .normal s/\Sep s ps/\vE s qs) (λs a w hr hq=>⟨s,hr,hq.1⟩) _ _ s _ _ (RG.ve hr) ?_);have:=Sp (P:=c.P) (ops:=l.toArray) (ps:=ps) (qs:=qs) (K:=λs=>Q .normal s/\Sep s ps/\vE s qs) (by simpa using hk) hw (λs hs=>⟨hs.2.1.at,hs.2.2.at⟩) (by simpa using hp) l 0 (Array.replicate l.length false) s
  (λj oj hj hl=>by
   have:j < l.length:=by have:=(bJ.1 hj).1;simpa using this
   simp[this]at hl) ay ay (by simpa using hl) (h _ (λ_ h=>h))
 simpa using this
@[go_sem] theorem aof {s:St}:vE s []=True:=rfl
end
def kR (w:World)(B:Nat)(str:ByteArray)(k:Nat):World:={w with heap:=w.heap.setIfInBounds B (.stringIter str k)}
section
variable {c:Ctx} {s:St} {a:Act} {w:World} {g:Gh}
theorem Fs {B:Nat}{str:ByteArray}{k:Nat}{b:Nat}(h:b≠B):(kR w B str k).heap[b]? =w.heap[b]? :=by
 simp[kR,Array.getElem?_setIfInBounds,Ne.symm h]
theorem Nf {B:Nat}{str:ByteArray}{j k:Nat}(h:w.heap[B]? =some (.stringIter str j)):(kR w B str k).heap[B]? =some (.stringIter str k):=by
 have:=(bJ.1 h).1;simp[kR,this]
theorem Fq {B:Nat}{str:ByteArray}{j k:Nat}(h:w.heap[B]? =some (.stringIter str j))(x:Addr):(kR w B str k).cell? x=w.cell? x:=by
 by_cases hx:x.block=B
 ·unfold World.cell?;rw[hx,Nf h,h]
 ·unfold World.cell?;rw[Fs hx]
theorem RG.aa0 (h:RG c s a w g)(hb:s.bx=[])(hr:s.rw=[]){B:Nat}{str:ByteArray}{j k:Nat}(hB:w.heap[B]? =some (.stringIter str j))(h0:c.w0.heap.size<=B):RG c s a (kR w B str k) g:=by
 have bo:(kR w B str k).heap.size=w.heap.size:=by simp[kR]
 have other:∀{b:Nat} {o:Obj},w.heap[b]? =some o->(∀s j,o≠ .stringIter s j)->(kR w B str k).heap[b]? =some o:=λ{b o} Hq bS=>by
  rw[Fs (λe=>by subst e;rw[hB]at Hq;cases Hq;exact bS _ _ rfl)];exact Hq
 have ky:ep w g (kR w B str k) g:=⟨λx _=>Fq hB x,λ_ h=>h,λ_ _ h=>h,λ_ _ h=>h,λ_ _ h=>h⟩;refine⟨⟨⟨h.df.cW.1,λd hd=> ?_⟩,λb f hf=> ?_,h.df.m0,h.df.fX,h.df.eV,λx hx=>(Fq hB x).trans (h.df.iA x hx),h.df.fj⟩,h.sz,⟨h.below.os,h.below.tape,h.below.output,by rw[bo];exact h.below.size,λb hb hn=> ?_⟩,h.cY,λx hx=> ?_,h.eD,h.S0,h.fU,h.lβ,h.lρ,λn=>(h.sl n).bb ky, ?_, ?_, ?_, ?_,λi es hi=>by rw[hb]at hi;simp at hi⟩
 ·obtain⟨D,q1,q2,q3⟩:=h.df.cW.2 d hd;exact⟨D,q1,q2,other q3 (λ_ _ e=>by cases e)⟩
 ·obtain⟨es,cl,q1,q2⟩:=h.df.cb b f hf;exact⟨es,cl,other q1 (λ_ _ e=>by cases e),q2⟩
 ·rw[Fs ag];exact h.below.block b hb hn
 ·obtain⟨u,hu⟩:=h.bt x hx;exact⟨u,(Fq hB x).trans hu⟩
 ·intro i cs hi;rw[hb]at hi;simp at hi
 ·intro i cs hi;rw[hb]at hi;simp at hi
 ·intro i row hi;rw[hr]at hi;simp at hi
 ·exact⟨λ_=> .inl 0,λi x b hi=>by rw[hb]at hi;simp at hi,λr row v gb hi=>by rw[hr]at hi;simp at hi⟩
def Ctx.from_ (c:Ctx)(w:World)(S:Addr->Prop)(M:MM)(B:Nat):Ctx:=⟨c.P,w,S,M,c.l,λb=>w.heap.size<=b\/(c.own b/\b≠B),[]⟩
theorem RG.aa2 (h:RG c s a w g)(hb:s.bx=[])(hr:s.rw=[]){B:Nat}{str:ByteArray}{j:Nat}(hB:w.heap[B]? =some (.stringIter str j)):RG (c.from_ w g.S g.M B) s a w g:=by
 have hβ:g.β=[]:=zN (by rw[h.lβ,hb];rfl);refine⟨⟨⟨h.df.cW.1,λd hd=> ?_⟩,h.df.cb,λ_ _ h=>h,λ_ _ h=> .inl h,λi b hi=>by simp[Ctx.from_]at hi,λ_ _=>rfl,
  h.df.fj.own h.below h.df.cb λb hb=> ?_⟩,h.sz,⟨rfl,rfl,rfl,Nat.le_refl _,λ_ _ _=>rfl⟩,λb hb=> .inl hb,h.bt,λx hx=> .inl hx,λx hx=>hx,h.bt,h.lβ,h.lρ,h.sl, ?_, ?_, ?_, ?_,λi es hi=>by rw[hb]at hi;simp at hi⟩
 ·obtain⟨D,q1,q2,q3⟩:=h.df.cW.2 d hd;exact⟨D, .inr ⟨q1,λe=>by subst e;rw[hB]at q3;cases q3⟩,q2,q3⟩
 ·rcases hb with hb|hb
  ·exact .inl hb
  ·exact .inr (.inl hb.1)
 ·intro i cs hi;rw[hb]at hi;simp at hi
 ·intro i cs hi;rw[hb]at hi;simp at hi
 ·intro i row hi;rw[hr]at hi;simp at hi
 ·exact⟨λ_=> .inl 0,λi x b hi=>by rw[hb]at hi;simp at hi,λr row v gb hi=>by rw[hr]at hi;simp at hi⟩
theorem RG.aa1 {s':St}{a':Act}{w':World}{g':Gh}(h:RG c s a w g)(hb:s.bx=[]){B:Nat}{str:ByteArray}{j:Nat}(hB:w.heap[B]? =some (.stringIter str j))(h0:c.w0.heap.size<=B)
  (h':RG (c.from_ w g.S g.M B) s' a' w' g')(bT:s'.bx=[])(cH:s'.rw=[]):RG c s' a' w' g'/\w'.heap[B]? =some (.stringIter str j):=by
 have hβ:g.β=[]:=zN (by rw[h.lβ,hb];rfl);have aU:=(bJ.1 hB).1;have hBM:g.M B=none:=by
  cases hm:g.M B with
  |none=>rfl
  |some f=>obtain⟨es,cl,q1,_⟩:=h.df.cb B f hm;rw[hB]at q1;cases q1
 have uA:∀b,(c.from_ w g.S g.M B).own b->c.own b:=λb hb=>hb.elim (λhb=>h.cY b (gj h.below.size hb)) (λhb=>hb.1);refine⟨⟨⟨⟨h'.df.cW.1,λd hd=> ?_⟩,h'.df.cb,λb f hf=>h'.df.m0 b f (h.df.m0 b f hf),λb f hf=> ?_,λi b hi=> ?_,λx hx=>(h'.df.iA x (h.S0 x hx)).trans (h.df.iA x hx),h.df.fj⟩,h'.sz, ?_,h.cY,h'.bt,λx hx=> ?_,λx hx=>h'.S0 x (h.S0 x hx),h.fU,h'.lβ,h'.lρ,h'.sl, ?_, ?_, ?_, ?_,λi es hi=>by rw[bT]at hi;simp at hi⟩, ?_⟩
 ·obtain⟨D,q1,q2,q3⟩:=h'.df.cW.2 d hd;exact⟨D,uA D q1,q2,q3⟩
 ·rcases h'.df.fX b f hf with hf|hf
  ·exact h.df.fX b f hf
  ·exact .inr (gj h.below.size hf)
 ·have:=h.df.eV i b hi;rw[hβ]at this;simp at this
 ·refine h.below.trans h'.below h.below.size λi hi hm=> ?_;rcases hm with hm|hm
  ·rcases hm with hm|hm
   ·exact absurd (gj h.below.size hm) (tW hi)
   ·exact .inl hm.1
  ·cases hf:g.M i with
   |none=>exact absurd hf hm
   |some f=>
    rcases h.df.fX i f hf with hf|hf
    ·exact .inr (by rw[hf];exact λe=>by cases e)
    ·exact absurd hf (tW hi)
 ·rcases h'.eD x hx with hx|hx
  ·exact h.eD x hx
  ·exact .inr (uA _ hx)
 ·intro i cs hi;rw[bT]at hi;simp at hi
 ·intro i cs hi;rw[bT]at hi;simp at hi
 ·intro i row hi;rw[cH]at hi;simp at hi
 ·exact⟨λ_=> .inl 0,λi x b hi=>by rw[bT]at hi;simp at hi,λr row v gb hi=>by rw[cH]at hi;simp at hi⟩
 ·refine(h'.below.block B aU λhm=> ?_).trans hB;rcases hm with hm|hm
  ·rcases hm with hm|hm
   ·exact absurd aU (Nat.not_lt.2 hm)
   ·exact hm.2 rfl
  ·exact hm hBM
theorem Yt {P:Program}{o:Oper}{t:TypeId}{x:Operand}{str:ByteArray}{N:Act->World->Prop}{Q:Exit->Act->World->Prop}(ho:o.op= .range t x)(hx:a.eval x= .string str)(ht:jX P t=true)
  (h:N (a.put o.dst (.pointer (some ⟨w.heap.size,0,none⟩))) (w.iter str 0)):o.wp P a w N Q:=by
 have hu:P.underlying t=some .string:=by unfold jX at ht;split at ht<;>simp_all
 have bg:(execOp a.eval o).run P w= .ok (.value (.pointer (some ⟨w.heap.size,0,none⟩))) (w.iter str 0):=by
  simp[execOp,ho,hx,run_range_string w t str hu]
 unfold Oper.wp;rw[bg];exact h
theorem ZA {P:Program}{o:Oper}{x:Operand}{str:ByteArray}{B k:Nat}{N:Act->World->Prop}{Q:Exit->Act->World->Prop}(ho:o.op= .next x true)(hx:a.eval x= .pointer (some ⟨B,0,none⟩))(hB:w.heap[B]? =some (.stringIter str k))(hk:k < str.size)
  (ha:(str[k]'hk).toNat < 128) (h:N (a.put o.dst (.tuple #[.bool true, .int .i64 k, .int .i32 (str[k]'hk).toNat])) (kR w B str (k + 1))):o.wp P a w N Q:=by
 have bg:(execOp a.eval o).run P w= .ok (.value (.tuple #[.bool true, .int .i64 k, .int .i32 (str[k]'hk).toNat])) (kR w B str (k + 1)):=by
  simp[execOp,ho,hx,Instr.next,getObj,setObj,Sem.run,hB,hk,decode_ascii str k hk ha,goInt,kR]
 unfold Oper.wp;rw[bg];exact h
theorem ZB {P:Program}{o:Oper}{x:Operand}{str:ByteArray}{B k:Nat}{N:Act->World->Prop}{Q:Exit->Act->World->Prop}(ho:o.op= .next x true)(hx:a.eval x= .pointer (some ⟨B,0,none⟩))(hB:w.heap[B]? =some (.stringIter str k))(hk:¬k < str.size)
  (h:N (a.put o.dst (.tuple #[.bool false])) w):o.wp P a w N Q:=by
 have bg:(execOp a.eval o).run P w= .ok (.value (.tuple #[.bool false])) w:=by
  simp[execOp,ho,hx,Instr.next,getObj,Sem.run,hB,hk]
 unfold Oper.wp;rw[bg];exact h
end
abbrev j5 (B:Nat):D:= .val (.pointer (some ⟨B,0,none⟩))
theorem Iy {c:Ctx}{Q:Exit->St->Prop}{s:St}{str:ByteArray}{x:Operand}{t7 t8 t9 t10:Tmp}{tS Fp Nd Nc CG:TypeId}{p7 p8 p9 C7:String}{f7 f8 f9 f10:Array Edge}{id0 id1 e0:Nat}{body:Code}
  (hx:s.ev x= .str str)(bD:jX c.P tS=true)(aci:∀k (h:k < str.size),(str[k]'h).toNat < 128) (h7:t7 < s.n) (h8:t8 < s.n) (h9:t9 < s.n) (y_:t10 < s.n) (h98:t9≠t8) (hβ:c.β0=[]) (kc:s.bx=[]) (pI:s.rw=[])
  (inv:Nat->List (Nat×D)) (eT:∀k,((inv k).all λp=>dA 0 0 p.2)=true)
  (hle:∀B,Le ((s.put (some t7) (.str str)).put (some t8) (j5 B)) (dD s.n ((t8,j5 B)::inv 0) [] []))
  (round:∀(B k:Nat) (hk:k < str.size) (w1:World) (S1:Addr->Prop) (M1:MM) (o1:Nat->Prop),az ⟨c.P,w1,S1,M1,c.l,o1,[]⟩ body (λe s'=>e= .normal/\Le s' (dD s.n ((t8,j5 B)::inv (k + 1)) [] []))
   (((⟨s.n,((t8,j5 B)::inv k).foldr (λp f=>put f p.1 p.2) eC,[],[]⟩:St).put (some t9) (.aQ [.bool true, .int .i64 k, .int .i32 (str[k]'hk).toNat])).put (some t10) (.bool true)))
  (done:∀B,Q .normal (((⟨s.n,((t8,j5 B)::inv str.size).foldr (λp f=>put f p.1 p.2) eC,[],[]⟩:St).put (some t9) (.aQ [.bool false])).put (some t10) (.bool false))):
  az c (.seq (.region id0 #[⟨some t7, .move x,Fp,p7,f7,none⟩,⟨some t8, .range tS (.tmp t7),Nd,p8,f8,none⟩] false)
   (.block e0 (.loop (.seq (.region id1 #[⟨some t9, .next (.tmp t8) true,Nc,p9,f9,none⟩,⟨some t10, .extract (.tmp t9) 0,CG,C7,f10,none⟩] false) (.seq (.cond (.tmp t10) .skip (.exit e0)) body))))) Q s:=by
 intro a w hr;have rV:∀B k,(dD s.n ((t8,j5 B)::inv k) [] []).named:=λB k=>gT (by
  simp only[List.all_cons,List.length_nil,eT k];rfl) rfl
 refine wpIn_seq (wpIn_region_lit (l:=[⟨some t7, .move x,Fp,p7,f7,none⟩,⟨some t8, .range tS (.tmp t7),Nd,p8,f8,none⟩]) ?_);obtain⟨g,hg⟩:=hr;unfold wpListIn;rw[if_pos (by simp[Region.wanted])];have PO:c_ c.P ⟨some t7, .move x,Fp,p7,f7,none⟩ s (λs1=>s1=s.put (some t7) (.str str)):=⟨h7,by show St.put s _ (s.ev x)=_;rw[hx]⟩;refine gK (sL PO) (Oper.wp_mono (λa1 w1 ⟨s1,hH,e1⟩=> ?_) (ru hg PO));subst e1;obtain⟨g1,bM⟩:=hH;unfold wpListIn;rw[if_pos (by simp[Region.wanted])];refine gK (λcl e=>by cases e) ?_;have hs7:a1.eval (.tmp t7)= .string str:=by
  have:=bM.sl t7;have e:(s.put (some t7) (.str str)).sl t7= .str str:=by simp[St.put,put]
  rw[e]at this;have:Rel w1 g1 (a1.eval (.tmp t7)) (.str str):=this;generalize a1.eval (.tmp t7)=v at this;cases this;rfl
 refine Yt (t:=tS) (x:= .tmp t7) rfl hs7 bD ?_;obtain⟨B,HE⟩:∃B,B=w1.heap.size:=⟨_,rfl⟩;have QC:c.w0.heap.size<=B:=by rw[HE];exact bM.below.size
 have Qw:=vh w1 (.stringIter str 0);have fy:RG c (s.put (some t7) (.str str)) a1 (w1.iter str 0) ⟨g1.S,g1.β,g1.ρ,g1.M⟩:=bM.world Qw (λ_ h=>h) (λ_ h=> .inl h) (bM.bt.below Qw);have dW:RG c ((s.put (some t7) (.str str)).put (some t8) (j5 B)) (a1.put (some t8) (.pointer (some ⟨B,0,none⟩))) (w1.iter str 0) ⟨g1.S,g1.β,g1.ρ,g1.M⟩:=fy.put (show t8 < s.n from h8) (.val _ _);have hR:R c (dD s.n ((t8,j5 B)::inv 0) [] []) (a1.put (some t8) (.pointer (some ⟨B,0,none⟩))) (w1.iter str 0):=R.le ⟨_,dW⟩ (hle B) (rV B 0) (by rw[hβ];exact Nat.le_refl _);have abU:(w1.iter str 0).heap[B]? =some (.stringIter str 0):=by rw[HE];exact World.iter_heap w1 str 0
 rw[<-HE];unfold wpListIn;refine wpIn_block ?_;refine CA (λk a w=>k<=str.size/\R c (dD s.n ((t8,j5 B)::inv k) [] []) a w/\w.heap[B]? =some (.stringIter str k)) (λk=>str.size - k) (λk a w ⟨hk,hr,hh⟩=> ?_) 0 ⟨Nat.zero_le _,hR,abU⟩;obtain⟨g,hg⟩:=hr;have Qk:a.eval (.tmp t8)= .pointer (some ⟨B,0,none⟩):=by
  have:=hg.sl t8;have e:(dD s.n ((t8,j5 B)::inv k) [] []).sl t8=j5 B:=by simp[dD,put]
  rw[e]at this;have:Rel w g (a.eval (.tmp t8)) (j5 B):=this;generalize a.eval (.tmp t8)=v at this;cases this;rfl
 refine wpIn_seq (wpIn_region_lit (l:=[⟨some t9, .next (.tmp t8) true,Nc,p9,f9,none⟩,⟨some t10, .extract (.tmp t9) 0,CG,C7,f10,none⟩]) ?_);unfold wpListIn;rw[if_pos (by simp[Region.wanted])];refine gK (λcl e=>by cases e) ?_;by_cases aU:k < str.size
 ·refine ZA (x:= .tmp t8) rfl Qk hh aU (aci k aU) ?_;have Hh:=hg.aa0 rfl rfl (k:=k + 1) hh QC;have ht:=Nf (k:=k + 1) hh;have DM:=Hh.put (dst:=some t9) (show t9 < s.n from h9) (v:= .tuple #[.bool true, .int .i64 k, .int .i32 (str[k]'aU).toNat]) (d:= .aQ [.bool true, .int .i64 k, .int .i32 (str[k]'aU).toNat]) (.aQ _ _ _ rfl (λq d hd=>by
   match q,hd with
   |0,hd=>cases hd;exact .bool _ _
   |1,hd=>cases hd;exact .int _ _ _
   |2,hd=>cases hd;exact .int _ _ _
   |q + 3,hd=>simp at hd))
  unfold wpListIn;rw[if_pos (by simp[Region.wanted])];have hex:c_ c.P ⟨some t10, .extract (.tmp t9) 0,CG,C7,f10,none⟩ ((dD s.n ((t8,j5 B)::inv k) [] []).put (some t9) (.aQ [.bool true, .int .i64 k, .int .i32 (str[k]'aU).toNat]))
    (λs1=>s1=((dD s.n ((t8,j5 B)::inv k) [] []).put (some t9) (.aQ [.bool true, .int .i64 k, .int .i32 (str[k]'aU).toNat])).put (some t10) (.bool true)):=by
   refine⟨y_, ?_⟩;have e:((dD s.n ((t8,j5 B)::inv k) [] []).put (some t9) (.aQ [.bool true, .int .i64 k, .int .i32 (str[k]'aU).toNat])).ev (.tmp t9)= .aQ [.bool true, .int .i64 k, .int .i32 (str[k]'aU).toNat]:=by simp[St.ev,St.put,put]
   show rn (St.ev _ (.tmp t9)) _;rw[e];rfl
  have il:=DM.aa2 rfl rfl ht;have hP:(c.from_ (kR w B str (k + 1)) g.S g.M B).P=c.P:=rfl;have hF:(c.from_ (kR w B str (k + 1)) g.S g.M B).F=c.F:=rfl;refine gK (c:=c.from_ (kR w B str (k + 1)) g.S g.M B) (sL hex) (Oper.wp_mono (λa3 w3 ⟨s3,kz,e3⟩=> ?_) (ru il hex));subst e3;unfold wpListIn;refine wpIn_seq ?_;obtain⟨g3,dW⟩:=kz;have Ht:a3.eval (.tmp t10)= .bool true:=by
   have:=dW.sl t10;have e:(((dD s.n ((t8,j5 B)::inv k) [] []).put (some t9) (.aQ [.bool true, .int .i64 k, .int .i32 (str[k]'aU).toNat])).put (some t10) (.bool true)).sl t10= .bool true:=by simp[St.put,put]
   rw[e]at this;exact Rel.asBool this
  refine wpIn_cond Ht ?_;simp only[if_true];refine wpIn_skip ?_;show body.wpIn c.F 0 c.P _ a3 w3;have acg:=round B k aU (kR w B str (k + 1)) g.S g.M (c.from_ (kR w B str (k + 1)) g.S g.M B).own a3 w3 ⟨g3,dW⟩;refine wpIn_mono acg ?_;rintro e a4 w4 ⟨s4,oU,rfl,wH⟩;obtain⟨g5,hg5⟩:=R.le oU wH (rV B (k + 1)) (Nat.le_refl _);have:=DM.aa1 rfl ht QC hg5 rfl rfl;exact⟨k + 1,⟨ag,⟨_,this.1⟩,this.2⟩,ag⟩
 ·obtain rfl:k=str.size:=ag;refine ZB (x:= .tmp t8) rfl Qk hh aU ?_;have DM:=hg.put (dst:=some t9) (show t9 < s.n from h9) (v:= .tuple #[.bool false]) (d:= .aQ [.bool false]) (.aQ _ _ _ rfl (λq d hd=>by
   match q,hd with
   |0,hd=>cases hd;exact .bool _ _
   |q + 1,hd=>simp at hd))
  unfold wpListIn;rw[if_pos (by simp[Region.wanted])];have hex:c_ c.P ⟨some t10, .extract (.tmp t9) 0,CG,C7,f10,none⟩ ((dD s.n ((t8,j5 B)::inv str.size) [] []).put (some t9) (.aQ [.bool false]))
    (λs1=>s1=((dD s.n ((t8,j5 B)::inv str.size) [] []).put (some t9) (.aQ [.bool false])).put (some t10) (.bool false)):=by
   refine⟨y_, ?_⟩;have e:((dD s.n ((t8,j5 B)::inv str.size) [] []).put (some t9) (.aQ [.bool false])).ev (.tmp t9)= .aQ [.bool false]:=by simp[St.ev,St.put,put]
   show rn (St.ev _ (.tmp t9)) _;rw[e];rfl
  refine gK (sL hex) (Oper.wp_mono (λa3 w3 ⟨s3,kz,e3⟩=> ?_) (ru DM hex));subst e3;unfold wpListIn;refine wpIn_seq ?_;obtain⟨g3,dW⟩:=kz;have Ht:a3.eval (.tmp t10)= .bool false:=by
   have:=dW.sl t10;have e:(((dD s.n ((t8,j5 B)::inv str.size) [] []).put (some t9) (.aQ [.bool false])).put (some t10) (.bool false)).sl t10= .bool false:=by simp[St.put,put]
   rw[e]at this;exact Rel.asBool this
  refine wpIn_cond Ht ?_;simp only[Bool.false_eq_true,if_false];refine wpIn_exit ?_;simp only[Exit.then,Exit.inBlock,if_true];exact⟨_,⟨g3,dW⟩,done B⟩
end Go.Ab
section
namespace Go.Ab
open Go.RowKit
def Ay (bx:List Bx)(rw:List Row):D->Option D
 | .val v=>some (.val v)
 |d=>mR bx rw d
section
variable {c:Ctx} {s:St} {a:Act} {w:World} {g:Gh}
theorem Oe {v:Value}{d d':D}(h:RG c s a w g)(hr:Rel w g v d)(hp:Ay s.bx s.rw d=some d'):Rel w g.er v d':=by
 unfold Ay at hp;split at hp
 ·cases hp;exact hr.erase trivial
 ·exact rC h hr hp
end
attribute[go_sem] Ay
end Go.Ab
namespace Go.Ab
open Go.RowKit
def Y2 (t:TypeId)(x:ByteArray):List PanicEntry:=[{v:= .iface t (.agg #[.string x]),recovered:=false}]
def To (P:Program)(f:FuncId)(ds:List D)(t:TypeId)(res:Option D):Prop:=
 (∀(args:Array Value) (w:World),(callFunc f args).run P w= .ok (.enter f args) w)/\
 ∀(S:Addr->Prop) (M:MM) (w:World) (args:List Value),jG w->Good w S->iN w M->args.length=ds.length->(∀q x,ds[q]? =some x->Rel w ⟨S,[],[],M⟩ (args.getD q Go.undef) x)->
  Calls P f args.toArray w λe w'=>∃S' M',Grow w S M w' S' M'/\Good w' S'/\((∃v d,res=some d/\e= .returned v/\Rel w' ⟨S',[],[],M'⟩ v d)\/(res=none/\∃x,e= .panicked (Y2 t x)))
theorem To.calls {P:Program}{f:FuncId}{ds:List D}{t:TypeId}{d:D}(h:To P f ds t (some d)):ax P f ds d:=by
 refine⟨h.1,λS M w args hT hS hM hl b9=>(h.2 S M w args hT hS hM hl b9).mono ?_⟩;rintro e w' ⟨S',M',h1,h2,⟨v,d',e1,rfl,h3⟩|⟨e1,_⟩⟩
 ·cases e1;exact⟨v,S',M',rfl,h1,h2,h3⟩
 ·cases e1
section
variable {c:Ctx} {s:St}
end
section
variable {c:Ctx} {s:St}
end
section
variable {l:List Oper} {o:Oper}
end
section
variable {c:Ctx} {s:St}
end
end Go.Ab
end
section
namespace Go.Ab
open Go.RowKit
end Go.Ab
namespace Go.Ab
open Go.RowKit
end Go.Ab
namespace Go.Ab
end Go.Ab
end
section
namespace Go.Ab
section
variable {P:Program} {s:St} {K:St->Prop} {dst:Option Tmp} {ty:TypeId} {pos:String} {aft:Array Edge} {gd:Option (Nat×Bool)}
@[go_sem] theorem anx {x:Operand}:lQ P ⟨dst, .move x,ty,pos,aft,gd⟩ s K=c_ P ⟨dst, .move x,ty,pos,aft,gd⟩ s K:=rfl
@[go_sem] theorem anD {x:Operand}:lQ P ⟨dst, .assign x,ty,pos,aft,gd⟩ s K=c_ P ⟨dst, .assign x,ty,pos,aft,gd⟩ s K:=rfl
@[go_sem] theorem anE {t:TypeId}:lQ P ⟨dst, .alloc t,ty,pos,aft,gd⟩ s K=c_ P ⟨dst, .alloc t,ty,pos,aft,gd⟩ s K:=rfl
@[go_sem] theorem anC {t:TypeId}{p:Array (Nat×Operand)}:lQ P ⟨dst, .build t p,ty,pos,aft,gd⟩ s K=c_ P ⟨dst, .build t p,ty,pos,aft,gd⟩ s K:=rfl
@[go_sem] theorem anz {t:TypeId}{x:Operand}:lQ P ⟨dst, .load t x,ty,pos,aft,gd⟩ s K=c_ P ⟨dst, .load t x,ty,pos,aft,gd⟩ s K:=rfl
@[go_sem] theorem anw {t:TypeId}{x y:Operand}:lQ P ⟨dst, .store t x y,ty,pos,aft,gd⟩ s K=c_ P ⟨dst, .store t x y,ty,pos,aft,gd⟩ s K:=rfl
@[go_sem] theorem anA {t:TypeId}{x:Operand}{f:Nat}:lQ P ⟨dst, .fieldAddr t x f,ty,pos,aft,gd⟩ s K=c_ P ⟨dst, .fieldAddr t x f,ty,pos,aft,gd⟩ s K:=rfl
@[go_sem] theorem anB {x:Operand}{i:Nat}:lQ P ⟨dst, .extract x i,ty,pos,aft,gd⟩ s K=c_ P ⟨dst, .extract x i,ty,pos,aft,gd⟩ s K:=rfl
end
end Go.Ab
end
section
namespace Go.Ab
open Go.RowKit
def H':Op->Bool
 | .move _| .assign _| .alloc _| .load .. | .store .. | .extract .. | .fieldAddr .. | .makeFunc .. | .unOp .. =>true
 |_=>false
theorem En {P:Program}{w w':World}{s:Sem Value}{n:Next}(h:(do pure (.value (<-s)):Sem Next).run P w= .ok n w'):∃v,n= .value v:=by
 rw[kN]at h;cases hr:s.run P w with
 |ok v w2=>rw[hr]at h;simp only[Result.andThen_ok,q_]at h;cases h;exact⟨v,rfl⟩
 |halt x w2=>rw[hr]at h;cases h
theorem R0 {P:Program}{w w':World}{s:Sem Unit}{n:Next}(h:(do s;pure .skip:Sem Next).run P w= .ok n w'):n= .skip:=by
 rw[kN]at h;cases hr:s.run P w with
 |ok v w2=>rw[hr]at h;simp only[Result.andThen_ok,q_]at h;cases h;rfl
 |halt x w2=>rw[hr]at h;cases h
theorem afS {P:Program}{ρ:Operand->Value}{o:Oper}{w w':World}{n:Next}(hc:H' o.op=true)(h:(execOp ρ o).run P w= .ok n w'):(∃v,n= .value v)\/n= .skip:=by
 obtain⟨dst,op,ty,pos,aft,gd⟩:=o;cases op<;>first|(cases hc;done)|skip
 all_goals first
  |(exact .inl (En h))
  |(exact .inr (R0 h))
  |(simp only[execOp,q_]at h;cases h;exact .inl ⟨_,rfl⟩)
def RX (l1 l2:List Deferred)(c:Ctx)(s:St)(a:Act)(w:World):Prop:=a.defers=l1/\R c s {a with defers:=l2} w
section
variable {c:Ctx} {l1 l2:List Deferred} {s:St} {a:Act} {w:World}
theorem Xt {o:Oper}{K:St->Prop}{Q':Exit->Act->World->Prop}{N:Act->World->Prop}(hc:H' o.op=true)(hr:RX l1 l2 c s a w)(bD:c_ c.P o s K)(hN:∀s' a' w',RX l1 l2 c s' a' w'->K s'->N a' w'):o.wpIn c.F 0 c.P a w N Q':=by
 obtain⟨hd,g,hg⟩:=hr;have hs:=ru (Q:=λ_ _ _=>False) hg bD;refine gK (λcl e=>by rw[e]at hc;cases hc) ?_;unfold Oper.wp at hs⊢;have he:({a with defers:=l2}:Act).eval=a.eval:=rfl;rw[he]at hs;have ij:∀v,(a.put o.dst v).defers=l1/\({a.put o.dst v with defers:=l2}:Act)=({a with defers:=l2}:Act).put o.dst v:=λv=>by
  cases o.dst with
  |none=>exact⟨hd,rfl⟩
  |some n=>exact⟨hd,rfl⟩
 cases bg:(execOp a.eval o).run c.P w with
 |ok n w'=>
  rw[bg]at hs;rcases afS hc bg with⟨v,rfl⟩|rfl
  ·obtain⟨s',h1,h2⟩:=hs;exact hN s' _ _ ⟨(ij v).1,(ij v).2▸h1⟩ h2
  ·obtain⟨s',h1,h2⟩:=hs;exact hN s' _ _ ⟨(ij undef).1,(ij undef).2▸h1⟩ h2
 |halt x w'=>
  rw[bg]at hs;cases x<;>exact hs.elim
theorem ND {ops:Array Oper}{K:St->Prop}{Q:Exit->Act->World->Prop}{rest:List Oper}(hK:∀s a w,RX l1 l2 c s a w->K s->wpListIn c.F 0 c.P ops Q rest a w):∀(l:List Oper) (s:St) (a:Act) (w:World),(l.all λo=>H' o.op&&o.guard.isNone)=true->RX l1 l2 c s a w->cq c.P ops.toList l s K->wpListIn c.F 0 c.P ops Q (l++rest) a w
 |[],s,a,w,_,hr,h=>hK s a w hr h
 |o::l,s,a,w,hl,hr,h=>by
  simp only[List.all_cons,dZ,ES]at hl;obtain⟨⟨h1,h2⟩,h3⟩:=hl;unfold cq at h;rw[h2]at h;show wpListIn _ _ _ _ _ (o::(l++rest)) a w;unfold wpListIn;rw[if_pos (by simp[Region.wanted,h2])];exact Xt h1 hr h (λs' a' w' cH fS=>ND hK l s' a' w' (by simpa using h3) cH fS)
theorem RX.put {v:Value}{d:D}{dst:Option Tmp}(hr:RX l1 l2 c s a w)(hd:bp s dst)(h:∀g,RG c s {a with defers:=l2} w g->∃g',RG c s {a with defers:=l2} w g'/\Rel w g' v d):RX l1 l2 c (s.put dst d) (a.put dst v) w:=by
 obtain⟨wM,g,hg⟩:=hr;obtain⟨g',me,hv⟩:=h g hg;have h2:=me.put hd hv;refine⟨?_,g', ?_⟩
 ·cases dst<;>exact wM
 ·have:({a.put dst v with defers:=l2}:Act)=({a with defers:=l2}:Act).put dst v:=by cases dst<;>rfl
  rw[this];exact h2
theorem RX.tick (hr:RX l1 l2 c s a w):RX l1 l2 c s a {w with drawn:=w.drawn + 1}:=⟨hr.1,RG.ve hr.2⟩
theorem RX.le {s':St}(hr:RX l1 l2 c s a w)(hl:Le s s')(hn:s'.named)(h0:c.β0.length<=s'.bx.length):RX l1 l2 c s' a w:=⟨hr.1,hr.2.le hl hn h0⟩
end
theorem RG.D9 {c:Ctx}{st:St}{a a':Act}{W:World}{g:Gh}{n:Nat}{sl:Nat->D}(h:RG c st a W g)(hd:a'.defers=[])(hs:a'.tmps.size=n)(fY:∀m,Rel W g (a'.tmps.getD m Go.undef) (sl m)):
  RG ⟨c.P,W,g.S,g.M,none,λb=>W.heap.size<=b\/(c.own b/\eb W b),g.β⟩ ⟨n,sl,st.bx,st.rw⟩ a' W g:=by
 refine⟨⟨⟨by rw[hd];exact List.nodup_nil,λd h=>by rw[hd]at h;cases h⟩,h.df.cb,λ_ _ h=>h,λ_ _ h=> .inl h,λ_ _ h=>h,λ_ _=>rfl,h.df.fj.own h.below h.df.cb (λb hb=>hb.elim .inl λh1=> .inr (.inl h1.1))⟩,hs, .of (Below.refl _ _),λ_ h=> .inl h,h.bt,λ_ h=> .inl h,λ_ h=>h,h.bt,h.lβ,h.lρ,fY,λi cs hi=> ?_,λi cs hi=> ?_,λr row hr=> ?_,h.ap,λi es hi=>(h.mp i es hi).imp λb hm=>hm.ctx (.inr ⟨hm.own,hm.Bg⟩)⟩
 ·obtain⟨b,vs,t,e1,e2,e3,e4,e5⟩:=(h.bx i cs hi).ex;exact⟨b,vs,t,e1,e2,e3, .inr ⟨e4, .inl ⟨_,_,_,e2⟩⟩,e5⟩
 ·obtain⟨b,vs,t,e1,e2,e3,e4,e5⟩:=(h.fz i cs hi).ex;exact⟨b,vs,t,e1,e2,e3, .inr ⟨e4, .inl ⟨_,_,_,e2⟩⟩,e5⟩
 ·obtain⟨v,e1,e2,e3⟩:=(h.rw r row hr).ex;refine⟨v,e1,e2,λhl=> ?_⟩;obtain⟨h1,h2,h3⟩:=e3 hl;refine⟨h1,h2,λgb aW=>⟨.inr ⟨(h3 gb aW).1, ?_⟩,(h3 gb aW).2⟩⟩;obtain⟨vals,bG⟩:=h1;rcases bG.2 with⟨rfl,_⟩|⟨g2,cap,cur,rfl,_,fw,_⟩
  ·simp[Value.ownBlock]at aW
  ·simp[Value.ownBlock]at aW;subst aW;exact .inl ⟨_,_,_,fw⟩
theorem RG.O5 {c:Ctx}{st s2:St}{a a2:Act}{W W2:World}{g g2:Gh}(h:RG c st a W g)
  (h2:RG ⟨c.P,W,g.S,g.M,none,λb=>W.heap.size<=b\/(c.own b/\eb W b),g.β⟩ s2 a2 W2 g2)(fY:∀m,Names st.bx.length 0 (st.sl m)):RG c ⟨st.n,st.sl,s2.bx,s2.rw⟩ a W2 g2:=by
 have bG:∀b,(W.heap.size<=b\/(c.own b/\eb W b))->c.own b:=λb hb=>hb.elim (λh1=>h.cY b (gj h.below.size h1)) (λh1=>h1.1);refine h.back h2 (h2.later rfl rfl rfl (λ_ hb=>hb)) bG bG h2.df.eV fY (λd hd D hD hb=> ?_);obtain⟨D',_,rfl,lG⟩:=h.df.cW.2 d hd;cases hD;have aU:=(bJ.1 lG).1;rcases hb with hb|⟨_,hb⟩
 ·omega
 ·exact eb.not lG rfl ay hb
end Go.Ab
end
section
namespace Go.Ab
open Go.RowKit
section
variable {c:Ctx} {l1 l2:List Deferred} {s:St} {a:Act} {w:World}
def fN (l1 l2:List Deferred)(c:Ctx)(code:Code)(Q:Exit->St->Prop)(s:St):Prop:=∀a w,RX l1 l2 c s a w->code.wpIn c.F 0 c.P (λe a' w'=>∃s',RX l1 l2 c s' a' w'/\Q e s') a w
theorem pU {Q:Exit->St->Prop}(h:Q .normal s):fN l1 l2 c .skip Q s:=λ_ _ hr=>wpIn_skip ⟨s,hr,h⟩
theorem pW {Q:Exit->St->Prop}(h:Q .ret s):fN l1 l2 c .ret Q s:=λ_ _ hr=>wpIn_ret ⟨s,hr,h⟩
theorem pV {x y:Code}{Q:Exit->St->Prop}(h:fN l1 l2 c x (cF (fN l1 l2 c y Q) Q) s):fN l1 l2 c (.seq x y) Q s:=by
 intro a w hr;refine wpIn_seq (wpIn_mono (h a w hr) ?_);rintro e a' w' ⟨s',r,q⟩;cases e with
 |normal=>exact q a' w' r
 |_=>exact⟨s',r,q⟩
theorem pY {x:Operand}{t e:Code}{Q:Exit->St->Prop}(h:lg (s.ev x) λb=>(b=true->fN l1 l2 c t Q s)/\(b=false->fN l1 l2 c e Q s)):fN l1 l2 c (.cond x t e) Q s:=by
 intro a w hr;obtain⟨hd,g,hg⟩:=hr;obtain⟨b,hv,_,h1,h2⟩:=Fo (hg.ev x) h;have oR:a.eval x= .bool b:=hv;cases b with
 |true=>exact wpIn_cond_split oR (λ_=>h1 rfl a w ⟨hd,g,hg⟩) (λh=>by cases h)
 |false=>exact wpIn_cond_split oR (λh=>by cases h) (λ_=>h2 rfl a w ⟨hd,g,hg⟩)
end
end Go.Ab
end
