import Derived.Test.YtopobgihpdaggaaGreatDoorZ17
set_option linter.unusedVariables false
set_option linter.unusedSimpArgs false
open And renaming intro->ai
open Array renaming getElem?_eq_some_iff->bJ,getElem?_push->zX
open Bool renaming eq_false_or_eq_true->bO
open Go.RowKit renaming Below->Ti
open List renaming append_nil->bN,cons_append->bR,drop_eq_getElem_cons->zO,foldr->bU,forall_mem_cons->jf,getD_cons_succ->zM,getD_cons_zero->xJ,getElem?_append_left->cZ,getElem?_eq_some_iff->bm,getElem?_map->dO,getElem?_set_ne->gz,getElem?_set_self->je,length_map->jU,mem_append->gY,mem_cons->eX,mem_cons_of_mem->fE,mem_cons_self->ey,mem_map->iH,mem_replicate->xF,nil_append->bQ,not_mem_nil->fu,replicate->bP,replicate_succ'->IX
open Nat renaming le_refl->cx,zero_add->jd,zero_le->cv
open Go.Proofs.Tryz renaming prog->ae
open Go.Proofs.Tryz
namespace Go.Ab
theorem an {a b:Prop} (x:a) (y:b):a/\b:=⟨x,y⟩
def zzA (ops:List Oper) (k m:Nat):Bool:=match ops[k]? with
 | some o=>o.after.toList.any fun e=>Region.binds .any e && e.on == m
 | none=>false
def zzB (ops:List Oper):Nat->List Nat->Nat->Bool
 | k,[],m=>zzA ops k m
 | k,j :: p,m=>zzA ops k j && zzB ops j p m
theorem zzC {ops:List Oper} {L:Nat->Bool} (hC:oe ops.toArray L) {k m:Nat} (hk:L k = true) (h:zzA ops k m = true):L m = true:=by
 unfold zzA at h
 split at h
 ·rename_i o ho
  obtain ⟨e,he,h2⟩:=List.any_eq_true.1 h
  simp only [Bool.and_eq_true,beq_iff_eq] at h2
  rw [← h2.2]
  exact hC k o (by simpa using ho) hk e (Array.mem_toList_iff.1 he) h2.1
 ·cases h
theorem ca {ops:List Oper} {L:Nat->Bool} (hC:oe ops.toArray L):∀ {k:Nat} (hk:L k = true) (m:Nat) (p:List Nat),zzB ops k p m = true->L m = true
 | _,hk,_,[],h=>zzC hC hk h
 | k,hk,m,j :: p,h=>by
  simp only [zzB,Bool.and_eq_true] at h
  exact ca hC (zzC hC hk h.1) m p h.2
theorem au {ops:List Oper} {L:Nat->Bool} (hC:oe ops.toArray L) {m:Nat} (hm:L m = false) (k:Nat) (p:List Nat) (h:zzB ops k p m = true):L k = false:=by
 cases hk:L k with
 | false=>rfl
 | true=>rw [ca hC hk m p h] at hm; cases hm
theorem aq {o:Oper} {L:Nat->Bool} (hdep:∀ e ∈ o.after,Region.binds .any e = true->L e.on = true) (m:Nat) (h:(o.after.toList.any fun e=>Region.binds .any e && e.on == m) = true):L m = true:=by
 obtain ⟨e,he,h2⟩:=List.any_eq_true.1 h
 simp only [Bool.and_eq_true,beq_iff_eq] at h2
 rw [← h2.2]
 exact hdep e (Array.mem_toList_iff.1 he) h2.1
def zzD (F V:Nat->Bool):dX->(Nat->D)->Nat->D
 | [],b,m=>b m
 | e :: T,b,m=>bif m == e.2.1 then (bif F e.1 then e.2.2 V else zzD F V T b m) else zzD F V T b m
theorem zzE {F V:Nat->Bool} {b:Nat->D} {m:Nat}:zzD F V [] b m = b m:=rfl
theorem zzF {F V:Nat->Bool} {T:dX} {b:Nat->D} {m k m':Nat} {v:(Nat->Bool)->D}:zzD F V ((k,m',v) :: T) b m = bif m == m' then (bif F k then v V else zzD F V T b m) else zzD F V T b m:=rfl
theorem zzG {F V:Nat->Bool} {b:Nat->D}:∀ {T T0:dX},T = T0->∀ m,aI F V T b m = zzD F V T0 b m:=by
 rintro T _ rfl m
 induction T with
 | nil=>rfl
 | cons e T ih=>
  simp only [aI,zzD]
  by_cases h:m = e.2.1
  ·subst h
   cases hF:F e.1 with
   | true=>simp [put]
   | false=>simpa using ih
  ·have hb:(m == e.2.1) = false:=by simpa using h
   rw [hb]
   cases hF:F e.1 with
   | true=>simpa [put,h] using ih
   | false=>simpa using ih
theorem zzH {L:Nat->Bool} {k k' m:Nat} {v:(Nat->Bool)->D} {b:Nat->D} {T:dX} (hk:L k = false) (n1:(T.map (·.1)).Nodup) (n2:(T.map (·.2.1)).Nodup) (hf:(T.find? fun e=>e.1 == k) = some (k',m,v)) (hv:∀ e ∈ T,e.2.2 (more L k) = e.2.2 L) :
  aI (more L k) (more L k) T b = put (aI L L T b) m (v L):=by
 have h1:=List.mem_of_find?_eq_some hf
 have h2:=List.find?_some hf
 simp only [beq_iff_eq] at h2
 subst h2
 have h3:v (more L k') = v L:=hv _ h1
 rw [dM hk n1 n2 h1,eL hv,h3]
theorem zzI {L:Nat->Bool} {k:Nat} {b:Nat->D} {T:dX} (hk:k ∉ T.map (·.1)) (hv:∀ e ∈ T,e.2.2 (more L k) = e.2.2 L):aI (more L k) (more L k) T b = aI L L T b:=by
 rw [yi hk,eL hv]
theorem zzJ {p:Prop} (h:p:=by first | exact aO.of_eq rfl | exact ⟨by assumption,aO.of_eq rfl⟩ | exact ⟨by omega,by omega,aO.of_eq rfl⟩ | exact ⟨by decide,aO.of_eq rfl⟩ | exact ⟨_,rfl,rfl,aO.of_eq rfl⟩ | exact ⟨wk (by omega) (by omega),aO.of_eq rfl⟩ | (refine ⟨?_,?_⟩<;>first | exact aO.of_eq rfl | omega | rfl)):p:=h
theorem aA {p:Prop} (h:p:=by
 first
  | rw [zzH hL cD aS (by rw [hT]; rfl) (by rw [hT]; simp [more])]
  | rw [zzI (by rw [ba]; decide) (by rw [hT]; simp [more])]
 try simp only [hX,Gc,OT,ne_eq,Nat.reduceEqDiff,not_false_eq_true,cond_true,cond_false,List.cons_append,List.nil_append,List.append_nil]
 have hR:=zzG (F:=L) (V:=L) (b:=b) hT
 first
  | refine aZ.of ?_
  | refine ee.j4 rfl (aZ.of ?_)
  | refine ee.on rfl rfl (by simp only [hX,hR,congrFun hb,zzF,zzE,cG,cN,dN,put,Nat.reduceEqDiff,Nat.reduceBEq,cond_true,cond_false,if_true,if_false,reduceIte]) (aZ.of ?_)
  | refine jt.sV rfl (ee.j4 rfl (aZ.of ?_))
 simp -implicitDefEqProofs only [go_sem,kM,bF,Nat.reduceAdd,Nat.reduceSub,Nat.reduceMul,Nat.reduceLT,Nat.reduceLeDiff,Nat.reduceEqDiff,Nat.reduceBEq,Int.reduceLT,Int.reduceLE,Int.reduceToNat,Int.reduceAdd,Int.reduceSub,Int.reduceMul,Int.reduceNeg,Int.reduceEq,reduceCtorEq,eq_self,ne_eq,not_false_eq_true,if_true,if_false,reduceIte,hX,hR,congrFun hb,zzF,zzE,cG,cN,dN,cond_true,cond_false]
 exact zzJ):p:=h
theorem fJ {p:Prop} (h:p:=by
 refine ee.yA I (fun h=>cO (by simpa [more] using h)) ?_
 try simp only []
 rw [← o0]
 first
  | rw [zzH hL sY ku (by rw [iL]; rfl) (by rw [iL]; simp [more])]
  | rw [zzI (by rw [Hb]; decide) (by rw [iL]; simp [more])]
 try simp only [hX,Gc,OT,ne_eq,Nat.reduceEqDiff,not_false_eq_true,cond_true,cond_false,List.cons_append,List.nil_append,List.append_nil]
 have hR:=zzG (F:=L) (V:=L) (b:=b) iL
 first
  | refine aZ.of ?_
  | refine ee.j4 rfl (aZ.of ?_)
  | refine ee.on rfl rfl (by simp only [hX,hR,congrFun hb,zzF,zzE,cG,cN,dN,put,Nat.reduceEqDiff,Nat.reduceBEq,cond_true,cond_false,if_true,if_false,reduceIte]) (aZ.of ?_)
  | refine jt.sV rfl (ee.j4 rfl (aZ.of ?_))
 simp -implicitDefEqProofs only [go_sem,kM,bF,Nat.reduceAdd,Nat.reduceSub,Nat.reduceMul,Nat.reduceLT,Nat.reduceLeDiff,Nat.reduceEqDiff,Nat.reduceBEq,Int.reduceLT,Int.reduceLE,Int.reduceToNat,Int.reduceAdd,Int.reduceSub,Int.reduceMul,Int.reduceNeg,Int.reduceEq,reduceCtorEq,eq_self,ne_eq,not_false_eq_true,if_true,if_false,reduceIte,hX,hR,congrFun hb,zzF,zzE,cG,cN,dN,cond_true,cond_false]
 exact zzJ):p:=h
end Go.Ab
namespace Go.Proofs.YtopobgihpdaggaaGreatDoor
open Go.Ab
theorem R1 {f:FuncId}{ds:List D}{b:ByteArray}(hc:∀(args:Array Value) (w:World),(callFunc f args).run ae w= .ok (.enter f args) w)
  (h:∀(S:Addr->Prop) (M:MM) (w:World) (args:List Value),jG w->Go.Ab.Good w S->args.length=ds.length->(∀q x,ds[q]? =some x->Rel w ⟨S,[],[],M⟩ (args.getD q Go.undef) x)->
   Calls ae f args.toArray w λe w'=>e= .returned (.string b)/\Ti w.heap.size w w'):ax ae f ds (.str b):=by
 refine⟨hc,λS M w args ht hg hM hl hr=>(h S M w args ht hg hl hr).mono ?_⟩;rintro e w' ⟨rfl,hb⟩;refine⟨_,S,M,rfl,⟨.of hb,λ_ h=>h,λ_ h=> .inl h,λ_ _ h=>h,λ_ _ h=> .inl h,λb f hf=> ?_⟩,hg.below hb, .str _ _⟩;obtain⟨es,cl,h1,h2⟩:=hM b f hf;exact⟨es,cl,(hb.block b (bJ.1 h1).1).trans h1,h2⟩
theorem VQ {w:World}(h:jG w):Lib.TabIs ae w "internal/strconv.uint64pow10" .u64 Lib.pow10Tab:=by
 obtain⟨t,fz,e⟩:=h 1 _ rfl;have hg:ae.globalNamed "internal/strconv.uint64pow10" =some 1:=aj;unfold Lib.TabIs World.var?;rw[hg];simp only[Option.bind_some,e]
def itoa (n:Int):ByteArray:=⟨(Lib.itoa n).toArray⟩
theorem Pv (n:Int)(h0: -9223372036854775808<=n)(h1:n<=9223372036854775807):ax ae 47 [i64 n] (.str (itoa n)):=by
 refine R1 call47 λS M w args ht hg hl hr=> ?_
 match args,hl with
 |[a],_=>
  have h:=hr 0 _ rfl;cases h;refine(Tryz.strconv_Itoa n h0 h1 w (VQ ht)).mono ?_;rintro e w' ⟨rfl,k,os,rfl⟩;exact⟨rfl,rfl,rfl,rfl,by simp[Go.Sort.grow],λi hi=>by simp[Go.Sort.grow,Array.getElem?_append_left hi]⟩
theorem HL:∀xs:List ByteArray,flat (xs.map D.str)=xs.map D.str
 |[]=>rfl
 |x::xs=>by show D.cells (.str x)++flat (xs.map D.str)=_;rw[HL xs];rfl
def Dl (xs:List ByteArray)(sep:ByteArray):ByteArray:=⟨(Lib.join (xs.map (·.data.toList)) sep.data.toList).toArray⟩
theorem aaP (xs:List ByteArray)(sep:ByteArray)(bS:xs≠[])(hN:xs.length<=1000)(hlen:(Lib.join (xs.map (·.data.toList)) sep.data.toList).length<=140737488355328):ax ae 113 [.list (xs.map D.str), .str sep] (.str (Dl xs sep)):=by
 refine R1 call113 λS M w args ht hg hl hr=> ?_
 match args,hl with
 |[a,b],_=>
  have h1:=hr 0 _ rfl;have h2:=hr 1 _ rfl;simp only[xJ,zM]at h1 h2;cases h2;cases h1 with
  |list _ A n c _ sz u hn bo fA hm oT=>
  have gV:=HL xs;rw[gV]at hm oT;have lC:0 < xs.length:=List.length_pos_iff.2 bS;obtain⟨ad,rfl,ng,_⟩:=hm 0 (by simpa using lC);obtain⟨bk,o,pt⟩:=ad;have hp:pt=none:=by
   cases pt with
   |none=>rfl
   |some p=>
    unfold World.cell? at ng;split at ng<;>simp[Addr.add]at ng
  subst hp;have tg:n=xs.length:=by rw[hn];simp
  subst tg;refine Tryz.strings_Join bk o c xs sep w (λj x hx=> ?_) (World.block_lt_of_cell? w _ ng) ag fA hlen;have hj:=(bm.1 hx).1;obtain⟨ad2,e2,hc,_⟩:=hm j (by simpa using hj);cases e2;have hv:=oT j (.str x) (by rw[dO,hx];rfl);generalize u j=v at hc hv;cases hv;rw[lH]at hc;exact hc
abbrev sp:ByteArray:=⟨#[32]⟩
theorem BW {f:FuncId}{ds:List D}{v:Value}{d:D}(b9:∀w g,Rel w g v d)(hc:∀(args:Array Value) (w:World),(callFunc f args).run ae w= .ok (.enter f args) w)
  (h:∀(S:Addr->Prop) (M:MM) (w:World) (args:List Value),args.length=ds.length->(∀q x,ds[q]? =some x->Rel w ⟨S,[],[],M⟩ (args.getD q Go.undef) x)->
   Calls ae f args.toArray w λe w'=>e= .returned v/\w'=w):ax ae f ds d:=by
 refine⟨hc,λS M w args ht hg hM hl hr=>(h S M w args hl hr).mono ?_⟩;rintro e w' ⟨rfl,rfl⟩;have hb:Ti w'.heap.size w' w':=⟨rfl,rfl,rfl,cx _,λ_ _=>rfl⟩;exact⟨_,S,M,rfl,⟨.of hb,λ_ h=>h,λ_ h=> .inl h,λ_ _ h=>h,λ_ _ h=> .inl h,hM⟩,hg,b9 _ _⟩
theorem afU {f:FuncId}{ds:List D}{bs:List ByteArray}{t:TypeId}(hc:∀(args:Array Value) (w:World),(callFunc f args).run ae w= .ok (.enter f args) w)
  (h:∀(S:Addr->Prop) (M:MM) (w:World) (args:List Value),args.length=ds.length->(∀q x,ds[q]? =some x->Rel w ⟨S,[],[],M⟩ (args.getD q Go.undef) x)->
   Calls ae f args.toArray w λe w'=>e= .returned (.slice (some ⟨w.heap.size,0,none⟩) bs.length bs.length)/\w'=w.alloc (.cells (bs.map Value.string).toArray t)):ax ae f ds (.list (bs.map D.str)):=by
 refine⟨hc,λS M w args ht hg hM hl hr=>(h S M w args hl hr).mono ?_⟩;rintro e w' ⟨rfl,rfl⟩;generalize hw:w.alloc (.cells (bs.map Value.string).toArray t)=w';have hold:∀i,i < w.heap.size->w'.heap[i]? =w.heap[i]? :=λi hi=>by
  rw[<-hw];show(w.heap.push _)[i]? =_;rw[zX,if_neg (Nat.ne_of_lt hi)]
 have jD:w'.heap[w.heap.size]? =some (.cells (bs.map Value.string).toArray t (0,0)):=by
  rw[<-hw];show(w.heap.push _)[w.heap.size]? =_;rw[zX,if_pos rfl]
 have bo:w'.heap.size=w.heap.size + 1:=by rw[<-hw];show(w.heap.push _).size=_;rw[Array.size_push]
 have hb:Ti w.heap.size w w':=⟨by rw[<-hw];rfl,by rw[<-hw];rfl,by rw[<-hw];rfl,ag,hold⟩;have fI:∀j,j < bs.length->w'.cell? ⟨w.heap.size,j,none⟩=some (.string (bs.getD j .empty)):=λj hj=>by
  rw[cell_of_row w' w.heap.size j _ t (0,0) jD];simp[hj]
 refine⟨_,λx=>S x\/∃j,j < bs.length/\x=⟨w.heap.size,j,none⟩,M,rfl,⟨.of hb,λx h=> .inl h,λx h=> ?_,λ_ _ h=>h,λ_ _ h=> .inl h,λb f hf=> ?_⟩,λx hx=> ?_, ?_⟩
 ·rcases h with h|⟨j,_,rfl⟩
  ·exact .inl h
  ·exact .inr (cx _)
 ·obtain⟨es,cl,h1,h2⟩:=hM b f hf;exact⟨es,cl,(hold b (bJ.1 h1).1).trans h1,h2⟩
 ·rcases hx with hx|⟨j,hj,rfl⟩
  ·exact hg.below hb x hx
  ·exact⟨_,fI j hj⟩
 ·have gV:=HL bs;refine .list _ _ _ _ _ 1 (λq=> .string (bs.getD q .empty)) ay (λx hx=>by obtain⟨y,_,rfl⟩:=iH.1 hx;rfl) (cx _) (λq hq=> ?_) (λq d hd=> ?_)
  ·rw[gV]at hq;simp only[jU]at hq;refine⟨_,rfl, ?_, .inr ⟨q,hq, ?_⟩,rfl⟩
   ·rw[lH,jd];exact fI q hq
   ·rw[lH,jd]
  ·rw[gV,dO,Option.map_eq_some_iff]at hd;obtain⟨b,h1,rfl⟩:=hd;rw[List.getD_eq_getElem?_getD,h1];exact .str _ _
theorem U4 (s p:ByteArray):ax ae 153 [.str s, .str p] (.str ⟨(Lib.trimPrefix s.data.toList p.data.toList).toArray⟩):=by
 refine BW (λ_ _=> .str _ _) call153 λS M w args hl hr=> ?_
 match args,hl with
 |[a,b],_=>
  have h1:=hr 0 _ rfl;have h2:=hr 1 _ rfl;simp only[xJ,zM]at h1 h2;cases h1;cases h2
  exact Tryz.strings_TrimPrefix s p w
theorem anH (s:ByteArray)(c:UInt8):ax ae 203 [.str s, .str ⟨#[c]⟩] (i64 (Lib.indexByte s.data.toList c)):=by
 refine BW (λ_ _=> .int _ _ _) call203 λS M w args hl hr=> ?_
 match args,hl with
 |[a,b],_=>
  have h1:=hr 0 _ rfl;have h2:=hr 1 _ rfl;simp only[xJ,zM]at h1 h2;cases h1;cases h2
  exact Tryz.strings_Index_one s c w
theorem Ai (s:ByteArray)(c:UInt8)(hs:s.size < 4294967281):ax ae 110 [.str s, .str ⟨#[c]⟩] (.list ((Go.mD.sR c s).map D.str)):=by
 have hlen:Lib.countB s ⟨#[c]⟩ + 1=(Go.mD.sR c s).length:=by rw[<-Go.mD.Nu];exact(Lib.splitB_all ⟨#[c]⟩ (cx _) 0 _ s rfl).symm
 refine afU (t:=9) call110 λS M w args hl hr=> ?_
 match args,hl with
 |[a,b],_=>
  have h1:=hr 0 _ rfl;have h2:=hr 1 _ rfl;simp only[xJ,zM]at h1 h2;cases h1;cases h2
  have h:=WT Tryz.Z9 aj s c w hs;rw[hlen,Go.mD.Nu]at h;exact h
end Go.Proofs.YtopobgihpdaggaaGreatDoor
namespace Go.Ab
open Go.RowKit Go
def sk (c:Ctx)(t:TypeId)(x:Operand)(dst:Option Tmp)(N:St->Prop)(s1:St):Prop:=
 bp s1 dst/\bn (elemOf c.P t) λe=>aJ c.P e≠0/\(bX c.P e).isSome=true/\∃ys,s1.ev x= .list ys/\(∀y∈ys,y.cells.length=aJ c.P e)/\ys.length<=9223372036854775807/\ys.length * bytesOf c.P e<=140737488355328/\
  N (St.put (St.appended {s1 with rw:=s1.rw++[⟨true,e,aJ c.P e,[]⟩]} s1.rw.length ⟨true,e,aJ c.P e,ys⟩) dst (.own s1.rw.length))
theorem aZ.vd {c:Ctx}{s:St}{K:St->Prop}{t ty:TypeId}{x:Operand}{dst:Option Tmp}{pos:String}{aft:Array Edge}(h:sk c t x dst K s):
  aZ c ⟨dst, .call ⟨.builtin .append,#[.const (.slice none 0 0),x],#[t,t]⟩,ty,pos,aft,none⟩ s K:=by
 obtain⟨hd,h⟩:=h;obtain⟨e,he,hz,lv,ys,hx,j7,kK,hb,hk⟩:=cE h;rintro a w N' Q' ⟨g,hg⟩ hN;refine gK (by intro cl h;cases h) ?_;unfold Oper.wp;have h0:=hg.yp e (aJ c.P e);have hr:(s.rw++[(⟨true,e,aJ c.P e,[]⟩:Row)])[s.rw.length]? =some ⟨true,e,aJ c.P e,[]⟩:=by simp
 have hv:(g.ρ++[Value.slice none 0 0])[s.rw.length]? =some (.slice none 0 0):=by rw[<-hg.lρ];simp
 have hyx:=h0.ev x;have hex:(⟨s.n,s.sl,s.bx,s.rw++[⟨true,e,aJ c.P e,[]⟩]⟩:St).ev x= .list ys:=by
  have:(⟨s.n,s.sl,s.bx,s.rw++[⟨true,e,aJ c.P e,[]⟩]⟩:St).ev x=s.ev x:=by cases x<;>rfl
  rw[this];exact hx
 have abk:Rel w ⟨g.S,g.β,g.ρ++[.slice none 0 0],g.M⟩ (a.eval x) (.list ys):=hex▸hyx;obtain⟨v',w',g',bg,me,oR⟩:=h0.append (ty:=ty) hr rfl hv abk he rfl hz lv j7 (by simpa using kK) (by simpa using hb);have nX:a.eval (.const (.slice none 0 0))= .slice none 0 0:=rfl;have abu:(execOp a.eval ⟨dst, .call ⟨.builtin .append,#[.const (.slice none 0 0),x],#[t,t]⟩,ty,pos,aft,none⟩).run c.P w= .ok (.value v') w':=by
  simp[execOp,resolve,invoke,builtin,nX,bg]
 rw[abu];exact hN _ _ _ ⟨g',me.put (by cases dst<;>first|exact trivial|exact hd) (.own _ _ _ oR)⟩ (by simpa using hk)
theorem vm {c:Ctx}{t:TypeId}{x:Operand}{dst:Option Tmp}{N:St->Prop}{s1:St}(e:TypeId)(k b:Nat)(ys:List D)(hd:bp s1 dst)(he:elemOf c.P t=some e)(hk:aJ c.P e=k)(hb:bytesOf c.P e=b)(lv:(bX c.P e).isSome=true)
  (hx:s1.ev x= .list ys)(tn:k≠0)(mi:b<=1000)(j7:∀y∈ys,y.cells.length=k)(hl:ys.length<=1000000)
  (h:N (St.put (St.appended {s1 with rw:=s1.rw++[⟨true,e,k,[]⟩]} s1.rw.length ⟨true,e,k,ys⟩) dst (.own s1.rw.length))):sk c t x dst N s1:=by
 subst hk;subst hb
 refine⟨hd, ?_⟩;rw[he];refine⟨tn,lv,ys,hx,j7,ag,Nat.le_trans (Nat.mul_le_mul hl mi) ak,h⟩
end Go.Ab
namespace Go.Proofs.YtopobgihpdaggaaGreatDoor
set_option maxRecDepth 100000
set_option maxHeartbeats 4000000
open Go.Ab
attribute[local irreducible] az dI dR ax aT IA fP
theorem HW (l:List (Int))(hl:l.length<=1000000):ax ae 57 [.list (l.map (D.int .i64))] (.list (l.map (D.int .i64))):=by
 refine aR func57 ntmps57 results57 call57 rfl ay λw0 S0 M0=> ?_;repeat'(first|(show az _ (.region 1 _ _) _ _;refine pg 1 (sk _ 24 (.tmp 3) (some 4)) (λ_ _ h=>aZ.vd h) rfl rfl (λK1 aK=> ?_);refine av ?_)|(refine aK _ (vm 3 1 8 (l.map (D.int .i64)) (by show(4:Nat) < 5;decide) aj aj aj aj rfl ak ak (λx hx=>by obtain⟨y,_,rfl⟩:=iH.1 hx;rfl) (by rw[jU];omega) ?_);clear aK K1;simp only[bF,Nat.reduceAdd];refine av ?_)|refine aB ?_|refine aC λK hK=> ?_|(refine kA ?_;clear hK K)|(intro hg;try exact aw)|exact fin|apply ai)
 all_goals first|rfl|skip
theorem aek (l:List (Ck))(hl:l.length<=1000000):ax ae 95 [.list (l.map (k8))] (.list (l.map (k8))):=by
 refine aR func95 ntmps95 results95 call95 rfl ay λw0 S0 M0=> ?_;repeat'(first|(show az _ (.region 1 _ _) _ _;refine pg 1 (sk _ 49 (.tmp 3) (some 4)) (λ_ _ h=>aZ.vd h) rfl rfl (λK1 aK=> ?_);refine av ?_)|(refine aK _ (vm 92 3 24 (l.map (k8)) (by show(4:Nat) < 5;decide) aj aj aj aj rfl ak ak (λx hx=>by obtain⟨y,_,rfl⟩:=iH.1 hx;rfl) (by rw[jU];omega) ?_);clear aK K1;simp only[bF,Nat.reduceAdd];refine av ?_)|refine aB ?_|refine aC λK hK=> ?_|(refine kA ?_;clear hK K)|(intro hg;try exact aw)|exact fin|apply ai)
 all_goals first|rfl|skip
theorem aef (l:List (Int×Int))(hl:l.length<=1000000):ax ae 96 [.list (l.map (jy))] (.list (l.map (jy))):=by
 refine aR func96 ntmps96 results96 call96 rfl ay λw0 S0 M0=> ?_;repeat'(first|(show az _ (.region 1 _ _) _ _;refine pg 1 (sk _ 23 (.tmp 3) (some 4)) (λ_ _ h=>aZ.vd h) rfl rfl (λK1 aK=> ?_);refine av ?_)|(refine aK _ (vm 48 2 16 (l.map (jy)) (by show(4:Nat) < 5;decide) aj aj aj aj rfl ak ak (λx hx=>by obtain⟨y,_,rfl⟩:=iH.1 hx;rfl) (by rw[jU];omega) ?_);clear aK K1;simp only[bF,Nat.reduceAdd];refine av ?_)|refine aB ?_|refine aC λK hK=> ?_|(refine kA ?_;clear hK K)|(intro hg;try exact aw)|exact fin|apply ai)
 all_goals first|rfl|skip
theorem aeg (l:List (ox))(hl:l.length<=1000000):ax ae 97 [.list (l.map (ln))] (.list (l.map (ln))):=by
 refine aR func97 ntmps97 results97 call97 rfl ay λw0 S0 M0=> ?_;repeat'(first|(show az _ (.region 1 _ _) _ _;refine pg 1 (sk _ 29 (.tmp 3) (some 4)) (λ_ _ h=>aZ.vd h) rfl rfl (λK1 aK=> ?_);refine av ?_)|(refine aK _ (vm 97 7 56 (l.map (ln)) (by show(4:Nat) < 5;decide) aj aj aj aj rfl ak ak (λx hx=>by obtain⟨y,_,rfl⟩:=iH.1 hx;rfl) (by rw[jU];omega) ?_);clear aK K1;simp only[bF,Nat.reduceAdd];refine av ?_)|refine aB ?_|refine aC λK hK=> ?_|(refine kA ?_;clear hK K)|(intro hg;try exact aw)|exact fin|apply ai)
 all_goals first|rfl|skip
theorem aei (l:List (oz))(hl:l.length<=1000000):ax ae 98 [.list (l.map (lu))] (.list (l.map (lu))):=by
 refine aR func98 ntmps98 results98 call98 rfl ay λw0 S0 M0=> ?_;repeat'(first|(show az _ (.region 1 _ _) _ _;refine pg 1 (sk _ 30 (.tmp 3) (some 4)) (λ_ _ h=>aZ.vd h) rfl rfl (λK1 aK=> ?_);refine av ?_)|(refine aK _ (vm 101 3 24 (l.map (lu)) (by show(4:Nat) < 5;decide) aj aj aj aj rfl ak ak (λx hx=>by obtain⟨y,_,rfl⟩:=iH.1 hx;rfl) (by rw[jU];omega) ?_);clear aK K1;simp only[bF,Nat.reduceAdd];refine av ?_)|refine aB ?_|refine aC λK hK=> ?_|(refine kA ?_;clear hK K)|(intro hg;try exact aw)|exact fin|apply ai)
 all_goals first|rfl|skip
theorem aeh (l:List (oy))(hl:l.length<=1000000):ax ae 99 [.list (l.map (lq))] (.list (l.map (lq))):=by
 refine aR func99 ntmps99 results99 call99 rfl ay λw0 S0 M0=> ?_;repeat'(first|(show az _ (.region 1 _ _) _ _;refine pg 1 (sk _ 31 (.tmp 3) (some 4)) (λ_ _ h=>aZ.vd h) rfl rfl (λK1 aK=> ?_);refine av ?_)|(refine aK _ (vm 103 4 32 (l.map (lq)) (by show(4:Nat) < 5;decide) aj aj aj aj rfl ak ak (λx hx=>by obtain⟨y,_,rfl⟩:=iH.1 hx;rfl) (by rw[jU];omega) ?_);clear aK K1;simp only[bF,Nat.reduceAdd];refine av ?_)|refine aB ?_|refine aC λK hK=> ?_|(refine kA ?_;clear hK K)|(intro hg;try exact aw)|exact fin|apply ai)
 all_goals first|rfl|skip
end Go.Proofs.YtopobgihpdaggaaGreatDoor
namespace Go.Ab
open Go.RowKit Go
theorem C2 {bx:List Bx}{rw:List Row}:∀{cs:List D},(∀d∈cs,mS bx rw d=some d)->iU bx rw cs=some cs
 |[],_=>rfl
 |d::cs,h=>by
  simp only[iU,h d (ey ..),C2 (λx hx=>h x (fE _ hx)),Option.map_some]
section
variable {c:Ctx}
theorem aO.R5 {n:Nat}{sl:Nat->D}{bx:List Bx}{aL:List Row}(j q i:Nat){cs:List D}{ys U:List D}{cap sz:Nat}(hj:bx[j]? =some (.mu cs))(hq:cs[q]? =some (.a_ i 0 ys.length cap))(hi:bx[i]? =some (.fz (flat ys++U)))(bo:∀y∈ys,y.cells.length=sz)(hc:ys.length<=cap):
  aO c ⟨n,sl,bx,aL⟩ ⟨n,sl,bx.set j (.mu (cs.set q (.list ys))),aL⟩:=by
 rintro a w ⟨g,hg⟩;have eu:j < bx.length:=(bm.1 hj).1;have hold:∀(k:Nat) (x:Bx),(bx.set j (.mu (cs.set q (.list ys))))[k]? =some x->(k=j/\x= .mu (cs.set q (.list ys)))\/(k≠j/\bx[k]? =some x):=λk x hk=>by
  by_cases jE:k=j
  ·subst jE;rw[je eu]at hk;exact .inl ⟨rfl,(Option.some.inj hk).symm⟩
  ·rw[gz (Ne.symm jE)]at hk;exact .inr ⟨jE,hk⟩
 obtain⟨κ,k1,k2⟩:=hg.ap;obtain⟨b0,uq,t0,e1,e2,e3,e4,e5,_⟩:=(hg.bx j cs hj).ex;have e3:fF w g uq cs:=e3;have jm:q < cs.length:=(bm.1 hq).1;refine⟨g,hg.df,hg.sz,hg.below,hg.cY,hg.bt,hg.eD,hg.S0,hg.fU,by simpa using hg.lβ,hg.lρ,hg.sl,λk dp hk=> ?_,λk dp hk=> ?_,hg.rw,⟨κ,λk x b hk hx hb=> ?_,k2⟩,λk es hk=> ?_⟩
 ·rcases hold k _ hk with⟨rfl,e⟩|⟨_,hk⟩
  ·cases e;refine⟨b0,uq,t0,e1,e2,⟨by rw[List.length_set];exact e3.1,λp d hd=> ?_⟩,e4,e5,λhh=>by cases hh⟩;by_cases pJ:q=p
   ·subst pJ;rw[je jm]at hd;cases hd;have hx:=e3.2 q _ hq;refine⟨?_,hx.2⟩;generalize hv:uq.getD q undef=v at hx;have hx1:=hx.1;cases hx1 with
    |a_ _ _ _ _ _ b hb=>
     obtain⟨b',vs,t,f1,f2,f3,f4,_,f6⟩:=(hg.fz i _ hi).ex;rw[f1]at hb;cases hb
     obtain⟨h1,h2⟩:=q7 f2 f3 0;show Rel w g _ _;refine .list _ _ _ _ _ sz (λq=>vs.getD (0 + q) Go.undef) rfl bo hc (λq hq=> ?_) (λq d hd=> ?_)
     ·have ec:q < (flat ys++U).length:=by rw[List.length_append];omega
      refine⟨_,rfl,(h1 q (by simpa using ec)).1, ?_,(h1 q (by simpa using ec)).2⟩;rw[lH];exact f6 rfl _ ag
     ·refine h2 q d ?_;rw[List.drop_zero,cZ (bm.1 hd).1];exact hd
   ·rw[gz pJ]at hd;exact e3.2 p d hd
  ·exact hg.bx k dp hk
 ·rcases hold k _ hk with⟨_,e⟩|⟨_,hk⟩
  ·cases e
  ·exact hg.fz k dp hk
 ·rcases hold k _ hk with⟨rfl,_⟩|⟨_,hk⟩
  ·exact k1 k _ b hj rfl hb
  ·exact k1 k x b hk hx hb
 ·rcases hold k _ hk with⟨_,e⟩|⟨_,hk⟩
  ·cases e
  ·exact hg.mp k es hk
end
end Go.Ab
namespace Go.Proofs.YtopobgihpdaggaaGreatDoor
set_option maxRecDepth 100000
set_option maxHeartbeats 4000000
open Go.Ab
attribute[local irreducible] az dI dR ax aT IA fP aZ
abbrev r_ (l:List (cg×Int)):List D:=flat (l.map k9)
theorem Ep (l:List (cg×Int)):∀x∈l.map k9,x.cells.length=10:=λx hx=>by obtain⟨y,_,rfl⟩:=iH.1 hx;rfl
theorem ael (l:List (cg×Int))(bS:l≠[])(hl:l.length<=1000)(bx:List Bx)(rw:List Row):aT ae 94 [.list (l.map k9)] bx rw (λd aF aL=>∃m cap,l.length<=cap/\d= .a_ bx.length 0 l.length cap/\aF=bx++[.mu (r_ l++bP m .undef)]/\aL=rw):=by
 refine cV func94 ntmps94 results94 call94 rfl ay λW0 S0 M0 own β hβ=> ?_;repeat'(first|(show az _ (.region 1 _ _) _ _;refine pg 1 (Er _ 22 (.tmp 3) (some 4)) (λ_ _ h=>aZ.dup h) rfl rfl (λK1 aK=> ?_);refine av ?_)|(refine aK _ ⟨(by show(4:Nat) < 5;decide), ?_⟩;clear aK K1;refine av ?_)|(show cT _ _ _ _ _;refine av ?_)|refine aB ?_|refine aC λK hK=> ?_|(refine kA ?_;clear hK K)|(intro hg;try exact aw)|exact fin|apply ai)
 all_goals first
  |(exact Ep l _ (by assumption))
  |(exfalso;exact bS (by simpa using hg))
  |exact⟨_,_,hg,rfl,rfl⟩
theorem QU (l:List (cg×Int)):(r_ l).length=l.length * 10:=by have:=o8 10 (l.map k9) (Ep l);simpa using this
theorem acZ (l:List (cg×Int))(U:List D)(j q:Nat)(hj:j < l.length)(hq:q < 10):(r_ l++U)[j * 10 + q]? =(k9 (nth l j)).cells[q]? :=by
 rw[cZ (by rw[QU];omega)];exact D5 10 (l.map k9) j (k9 (nth l j)) (Ep l) (by rw[dO,List.getElem?_eq_getElem hj,uB l j hj];rfl) q hq
theorem aeo {α:Type}{l:List α}{k:Nat}{x:α}(h:l[k]? =some x):∃t,l.drop k=x::t:=by
 obtain⟨hk,rfl⟩:=bm.1 h;exact⟨_,zO hk⟩
theorem YG {α:Type}{l:List α}{k:Nat}{x:α}(h:l[k]? =some x):l.take k++[x]++l.drop (k + 1)=l:=by
 obtain⟨hk,rfl⟩:=bm.1 h;rw[List.append_assoc,List.singleton_append,<-zO hk,List.take_append_drop]
theorem iz {nb nr:Nat}:∀{cs:List D},(∀d∈cs,dA nb nr d=true)->db nb nr cs=true
 |[],_=>rfl
 |d::cs,h=>by
  simp only[db,h d (ey ..),Bool.true_and];exact iz λx hx=>h x (fE _ hx)
theorem acY (l:List (cg×Int))(m nb nr:Nat):db nb nr (r_ l++bP m .undef)=true:=iz λd hd=>by
 rcases gY.1 hd with hd|hd
 ·simp only[r_,flat,List.mem_flatMap,iH]at hd;obtain⟨x,⟨y,_,rfl⟩,hd⟩:=hd;simp only[D.cells,eX,fu,or_false]at hd;rcases hd with rfl|rfl|rfl|rfl|rfl|rfl|rfl|rfl|rfl|rfl<;>rfl
 ·rw[(xF.1 hd).2];rfl
theorem acX (l:List (cg×Int))(m:Nat)(bx:List Bx)(rw:List Row):iU bx rw (r_ l++bP m .undef)=some (r_ l++bP m .undef):=C2 λd hd=>by
 rcases gY.1 hd with hd|hd
 ·simp only[r_,flat,List.mem_flatMap,iH]at hd;obtain⟨x,⟨y,_,rfl⟩,hd⟩:=hd;simp only[D.cells,eX,fu,or_false]at hd;rcases hd with rfl|rfl|rfl|rfl|rfl|rfl|rfl|rfl|rfl|rfl<;>rfl
 ·rw[(xF.1 hd).2];rfl
abbrev V3 (s:bh)(i n cap:Nat):List D:= .a_ i 0 n cap::(cR s).drop 1
abbrev V0:List D:=[rI,rI,rI,i64 0,i64 0,i64 0,i64 0,i64 0,i64 0,i64 0,i64 0,rI,rI,rI,i64 0,i64 0,i64 0,i64 0,i64 0,i64 0,rI,i64 0,i64 0,i64 0,i64 0]
theorem Pd (s:bh)(h:pj s)(hs:nD s):ax ae 55 [fT s] (fT s):=by
 obtain⟨m1,m2,m3,m4,m5,m6,m7,m8⟩:=hs;have h1:=h.1;have bS:s.bf≠[]:=λe=>by rw[e]at h1;simp at h1
 have d1:=aef s.fl ag;have d2:=HW s.tu ag;have d3:=aeg s.w.rp ag;have d4:=aei s.w.lk ag;have d5:=aeh s.w.pt ag;have d6:=HW s.wt ag;refine aR func55 ntmps55 results55 call55 rfl ay λw0 S0 M0=> ?_;repeat'(first|(show az _ (.region 1 _ _) _ _;refine eo 2 rfl (λK1 aK=> ?_);refine av ?_)|(refine aK _ (af' ?_ (by show(7:Nat) < 64;decide));clear aK K1;refine av ?_;refine⟨_,Il,(ael s.bf bS ag _ _).mono ?_⟩;rintro d aF aL ⟨m,cap,fA,rfl,rfl,rfl⟩;simp only[bF,Nat.reduceAdd];refine av ?_)|refine aB ?_|refine aC λK hK=> ?_|(refine kA ?_;clear hK K)|(intro hg;try exact aw)|exact fin|apply ai)
 refine dH (ι:=Nat) (λj=>[(1, .box 0 0),(2, .box 1 0),(11,i64 s.bf.length),(12,i64 j)]) (λ_=>[.mu (V3 s 2 s.bf.length cap), .mu V0, .mu (r_ s.bf++bP m .undef)]) (λ_=>[])
  (λj=>j<=s.bf.length) (λj=>s.bf.length - j) (λ_ _=>⟨rfl,by simp only[bZ,acY,Bool.and_true];rfl⟩) 0 (cv _) (aV rfl (by try(refine av ?_;try exact trivial);try simp) ⟨_,rfl⟩ ⟨_,rfl⟩) (λj hj=> ?_)
 by_cases aU:j < s.bf.length
 ·have jF:=acZ s.bf (bP m .undef) j 8 aU ak;have jF:(r_ s.bf++bP m .undef)[j * 10 + 8]? =some (.list ((nth s.bf j).1.ck.map k8)):=jF;rw[show j * 10 + 8=0 + j * 10 + 0 + 8 by omega]at jF;obtain⟨tl,lY⟩:=aeo jF;have gq:=YG jF;have lF:=m1 j aU ag;have dc:=aek (nth s.bf j).1.ck ag;have P8:=QU s.bf
  (refine sX (ai @lY (@gq)) ?_;try exact trivial)
  repeat'(first|refine bK ?_|((first|refine bL λK hK=> ?_|refine bI ?_|show bC _ _ _ _ _|refine bl (dc) ?_);(refine sX (ai @lY (@gq)) ?_;try exact trivial))|(refine kA ?_;clear hK K)|(intro hg;try exact aw)|exact fin|apply ai)
  all_goals first|(exact⟨j + 1,ag,ag,aV rfl (by try(refine sX (ai @lY (@gq)) ?_;try exact trivial);try simp) ⟨_,rfl⟩ ⟨_,rfl⟩⟩)|trace_state
 ·obtain rfl:j=s.bf.length:=ag
  (refine av ?_;try exact trivial)
  repeat'(first|(show az _ (.region 11 _ _) _ _;refine eI (aO.freeze 2 rfl (acX _ _ _ _)) ?_;refine eI (aO.R5 0 0 2 (ys:=s.bf.map k9) (U:=bP m .undef) (cap:=cap) (sz:=10) rfl ay rfl (Ep _) (by simpa using fA)) ?_;simp only[bF];refine mA λK hK=> ?_;refine av ?_)|refine aB ?_|((first|(show az _ (.region 8 _ true) _ _;refine tN [] Tryz.ty.mixed aj λK hK=> ?_)|(show az _ (.region 9 _ true) _ _;refine tN [] Tryz.ty.mixed aj λK hK=> ?_)|show Sep _ _);refine av ?_)|refine aC λK hK=> ?_|refine cA (d1) ?_|refine cA (d2) ?_|refine cA (d3) ?_|refine cA (d4) ?_|refine cA (d5) ?_|refine cA (d6) ?_|(refine kA ?_;clear hK K)|(intro hg;try exact aw)|exact fin|apply ai)
  all_goals trace_state
end Go.Proofs.YtopobgihpdaggaaGreatDoor
namespace Go.Proofs.YtopobgihpdaggaaGreatDoor
set_option maxRecDepth 100000
set_option maxHeartbeats 4000000
open Go.Ab
def gZ (p:Prop):Prop:=p
theorem b_ {p:Prop}(h:gZ p):p:=h
theorem cI {p:Prop}(h:p):gZ p:=h
attribute[local irreducible] az dI dR ax aT IA fP aZ gZ
theorem Zd {ops:Array Oper}(cj:ops=dK Tryz.f26 7)(w0:World)(S0:Addr->Prop)(M0:MM)(own:Nat->Prop)(β:List Nat)(s:bh)(j:Nat)(M Z:List D)(hM:M.length<=100)(hZ:Z.length<=100)(c7:ax ae 56 [fT s] (.agg (ew s)))
  {Q:Exit->St->Prop}{T:dX}(hQ:Q .normal ⟨43,((T.foldr (λe f=>put f e.2.1 (e.2.2 λ_=>true)) (bj [(1, .box 0 0),(5, .box 2 0),(17,i64 s.dy),(18,i64 j)]))),(λ(L:Nat->Bool)=>[.mu (cR s), .mp [], .mu (cR s++[bif L 19 then .own 0 else bif L 9 then .undef else .own 0,bif L 22 then .own 1 else bif L 16 then .undef else .own 1, .bz 1,i64 0, .own 2, .bool true])]++bif L 14 then[.mp []]else[]) (λ_=>true),(λ(L:Nat->Bool)=>[⟨true,58,4,bif L 9 then M++[.agg (ew s)]else M⟩,⟨true,132,1,bif L 16 then Z++[.any]else Z⟩,⟨true,186,1,[]⟩]) (λ_=>true)⟩)(hT:T=[(0,20,λL=> .box 2 0),(1,21,λL=> .box 2 0),(2,22,λL=> .box 2 0),(3,23,λL=> .box 2 0),(4,24,λL=> .box 2 25),(5,25,λL=>bif L 9 then .undef else .own 0),(6,26,λL=>fT s),(7,27,λL=> .agg (ew s)),(8,28,λL=> .list [.agg (ew s)]),(9,29,λL=> .own 0),(10,30,λL=> .box 2 0),(11,31,λL=> .box 2 0),(12,32,λL=> .box 2 26),(13,33,λL=>bif L 16 then .undef else .own 1),(14,34,λL=> .bz 3),(15,35,λL=> .list [.any]),(16,36,λL=> .own 1),(17,37,λL=> .box 2 0),(18,38,λL=> .box 2 25),(20,39,λL=> .box 2 0),(21,40,λL=> .box 2 26)]:=by rfl):
  az ⟨ae,w0,S0,M0,none,own,β⟩ (.region 7 ops true) Q ⟨43,bj [(1, .box 0 0),(5, .box 2 0),(17,i64 s.dy),(18,i64 j)],(λ(L:Nat->Bool)=>[.mu (cR s), .mp [], .mu (cR s++[bif L 19 then .own 0 else bif L 9 then .undef else .own 0,bif L 22 then .own 1 else bif L 16 then .undef else .own 1, .bz 1,i64 0, .own 2, .bool true])]++bif L 14 then[.mp []]else[]) (λ_=>false),(λ(L:Nat->Bool)=>[⟨true,58,4,bif L 9 then M++[.agg (ew s)]else M⟩,⟨true,132,1,bif L 16 then Z++[.any]else Z⟩,⟨true,186,1,[]⟩]) (λ_=>false)⟩:=by
 simp only[dK,Option.map_some,Option.getD_some,Tryz.f26,fB,Nat.reduceBEq,Bool.false_eq_true,if_false,if_true,bQ,bN,bR,List.headD_cons,reduceIte,eq_self]at cj;subst cj;have ba:T.map (·.1)=[0,1,2,3,4,5,6,7,8,9,10,11,12,13,14,15,16,17,18,20,21]:=by rw[hT];rfl
 have cQ:T.map (·.2.1)=[20,21,22,23,24,25,26,27,28,29,30,31,32,33,34,35,36,37,38,39,40]:=by rw[hT];rfl
 have cD:(T.map (·.1)).Nodup:=by rw[ba];decide
 have aS:(T.map (·.2.1)).Nodup:=by rw[cQ];decide
 obtain⟨b,hb⟩:∃b:Nat->D,b=bj [(1, .box 0 0),(5, .box 2 0),(17,i64 s.dy),(18,i64 j)]:=⟨_,rfl⟩;rw[<-hb];have h0:aI (λ_=>false) (λ_=>false) T b=b:=gR (λ_ _=>rfl);rw[<-h0];refine la (c:=⟨ae,w0,S0,M0,none,own,β⟩) Tryz.ty.mixed rfl aj 43 T b (λL=>[.mu (cR s), .mp [], .mu (cR s++[bif L 19 then .own 0 else bif L 9 then .undef else .own 0,bif L 22 then .own 1 else bif L 16 then .undef else .own 1, .bz 1,i64 0, .own 2, .bool true])]++bif L 14 then[.mp []]else[]) (λL=>[⟨true,58,4,bif L 9 then M++[.agg (ew s)]else M⟩,⟨true,132,1,bif L 16 then Z++[.any]else Z⟩,⟨true,186,1,[]⟩]) (λL k op hC af hL aa=> ?_) (λL hL=> ?_);rotate_left
 ·have bu:∀x∈T.map (·.1),x < 23:=by rw[ba];decide
  rw[gS (λe he=>hL _ (bu _ (List.mem_map_of_mem (f:=(·.1)) he)))];rw[hT,hb];have e9:L 9=true:=hL 9 ak;have aY:L 14=true:=hL 14 ak;have aM:L 16=true:=hL 16 ak;have aX:L 19=true:=hL 19 ak;have a6:L 22=true:=hL 22 ak;simp only[bU,e9,aY,aM,aX,a6];simp only[hT,bU,cond_true]at hQ;exact hQ
 match k,af,hL,aa with
 |0,af,hL,aa=>
  cases af;have aX:=au hC hL 19 [] rfl;have a6:=au hC hL 22 [] rfl;have jl:=λ(h:L 16=true)=>ca hC h 9 [] rfl;have wm:=λ(h:L 16=true)=>ca hC h 14 [15] rfl;clear hC aa;revert jl wm;rcases bO (L 9)with e9|e9<;>rcases bO (L 14)with aY|aY<;>rcases bO (L 16)with aM|aM<;>intro jl wm<;>first|(have:=jl aM;rw[e9]at this;exact absurd this ak)|(have:=wm aM;rw[aY]at this;exact absurd this ak)|skip
  all_goals(have hX:=an aX (an a6 (an e9 (an aY (an aM hL))));exact aA)
 |1,af,hL,aa=>
  cases af;have a6:=au hC hL 22 [] rfl;have jl:=λ(h:L 16=true)=>ca hC h 9 [] rfl;have wm:=λ(h:L 16=true)=>ca hC h 14 [15] rfl;have qD:=λ(h:L 19=true)=>ca hC h 9 [] rfl;have Gz:=λ(h:L 19=true)=>ca hC h 14 [16,15] rfl;have qE:=λ(h:L 19=true)=>ca hC h 16 [] rfl;clear hC aa;revert jl wm qD Gz qE;rcases bO (L 9)with e9|e9<;>rcases bO (L 14)with aY|aY<;>rcases bO (L 16)with aM|aM<;>rcases bO (L 19)with aX|aX<;>intro jl wm qD Gz qE<;>first|(have:=jl aM;rw[e9]at this;exact absurd this ak)|(have:=wm aM;rw[aY]at this;exact absurd this ak)|(have:=qD aX;rw[e9]at this;exact absurd this ak)|(have:=Gz aX;rw[aY]at this;exact absurd this ak)|(have:=qE aX;rw[aM]at this;exact absurd this ak)|skip
  all_goals(have hX:=an a6 (an e9 (an aY (an aM (an aX hL))));exact aA)
 |2,af,hL,aa=>
  cases af;have e9:=au hC hL 9 [5,4,3] rfl;have aM:=au hC hL 16 [9,5,4,3] rfl;have aX:=au hC hL 19 [] rfl;have a6:=au hC hL 22 [] rfl;clear hC aa;rcases bO (L 14)with aY|aY;all_goals(have hX:=an e9 (an aM (an aX (an a6 (an aY hL))));exact aA)
 |3,af,hL,aa=>
  cases af;have d2:=aq aa 2 rfl;have e9:=au hC hL 9 [5,4] rfl;have aM:=au hC hL 16 [9,5,4] rfl;have aX:=au hC hL 19 [] rfl;have a6:=au hC hL 22 [] rfl;clear hC aa;rcases bO (L 14)with aY|aY;all_goals(have hX:=an d2 (an e9 (an aM (an aX (an a6 (an aY hL)))));exact aA)
 |4,af,hL,aa=>
  cases af;have d3:=aq aa 3 rfl;have e9:=au hC hL 9 [5] rfl;have aM:=au hC hL 16 [9,5] rfl;have aX:=au hC hL 19 [] rfl;have a6:=au hC hL 22 [] rfl;clear hC aa;rcases bO (L 14)with aY|aY;all_goals(have hX:=an d3 (an e9 (an aM (an aX (an a6 (an aY hL)))));exact aA)
 |5,af,hL,aa=>
  cases af;have d4:=aq aa 4 rfl;have e9:=au hC hL 9 [] rfl;have aM:=au hC hL 16 [9] rfl;have aX:=au hC hL 19 [] rfl;have a6:=au hC hL 22 [] rfl;clear hC aa;rcases bO (L 14)with aY|aY;all_goals(have hX:=an d4 (an e9 (an aM (an aX (an a6 (an aY hL)))));exact aA)
 |6,af,hL,aa=>
  cases af;have e9:=au hC hL 9 [7] rfl;have aM:=au hC hL 16 [9,7] rfl;have aX:=au hC hL 19 [] rfl;have a6:=au hC hL 22 [] rfl;clear hC aa;rcases bO (L 14)with aY|aY;all_goals(have hX:=an e9 (an aM (an aX (an a6 (an aY hL))));exact aA)
 |7,af,hL,aa=>
  cases af;have d6:=aq aa 6 rfl;have e9:=au hC hL 9 [] rfl;have aM:=au hC hL 16 [9] rfl;have aX:=au hC hL 19 [] rfl;have a6:=au hC hL 22 [] rfl;clear hC aa;rcases bO (L 14)with aY|aY;all_goals(
   have f26:=br (V:=L) (b:=b) d6 aS (show(6,26,λL=>fT s)∈T by rw[hT];simp);have g9:more L 7 9=L 9:=rfl;have g14:more L 7 14=L 14:=rfl;have g16:more L 7 16=L 16:=rfl;have g19:more L 7 19=L 19:=rfl;have g22:more L 7 22=L 22:=rfl;have ek:aI (more L 7) (more L 7) T b=put (aI L L T b) 27 (.agg (ew s)):=(dM hL cD aS (show(7,27,λL=> .agg (ew s))∈T by rw[hT];simp)).trans (by rw[<-eL (V:=L) (V':=more L 7) (by rw[hT];simp[more])];try rfl);rw[ek];simp only[e9,aY,aM,aX,a6,g9,g14,g16,g19,g22,cond_true,cond_false,bR,bQ,bN];try simp only[e9,aY,aM,aX,a6,g9,g14,g16,g19,g22,cond_true,cond_false,cG,cN,dN,put,Nat.reduceEqDiff,if_true,if_false,reduceIte]at f26
   refine aZ.rE rfl ?_
   (refine sX @f26 ?_;try exact trivial)
   refine bl c7 ?_
   (refine av ?_;try exact trivial)
   exact aO.of_eq rfl)
 |8,af,hL,aa=>
  cases af;have d7:=aq aa 7 rfl;have e9:=au hC hL 9 [] rfl;have aM:=au hC hL 16 [9] rfl;have aX:=au hC hL 19 [] rfl;have a6:=au hC hL 22 [] rfl;clear hC aa;rcases bO (L 14)with aY|aY;all_goals(have hX:=an d7 (an e9 (an aM (an aX (an a6 (an aY hL)))));exact aA)
 |9,af,hL,aa=>
  cases af;have d5:=aq aa 5 rfl;have d8:=aq aa 8 rfl;have e9:L 9=false:=hL;have aM:=au hC hL 16 [] rfl;have aX:=au hC hL 19 [] rfl;have a6:=au hC hL 22 [] rfl;clear hC aa;rcases bO (L 14)with aY|aY;all_goals(
   have f25:=br (V:=L) (b:=b) d5 aS (show(5,25,λL=>bif L 9 then .undef else .own 0)∈T by rw[hT];simp);have f28:=br (V:=L) (b:=b) d8 aS (show(8,28,λL=> .list [.agg (ew s)])∈T by rw[hT];simp);have g9:more L 9 9=true:=rfl;have g14:more L 9 14=L 14:=rfl;have g16:more L 9 16=L 16:=rfl;have g19:more L 9 19=L 19:=rfl;have g22:more L 9 22=L 22:=rfl;have ek:aI (more L 9) (more L 9) T b=put (jz 0 (aI L L T b)) 29 (.own 0):=by
    refine(dM hL cD aS (show(9,29,λL=> .own 0)∈T by rw[hT];simp)).trans ?_;rw[mP (V:=L) (V':=more L 9) (by rw[hb];simp only[cG,cN,nM,nN];rfl) (by rw[hT];simp only[jf,fu,false_implies,implies_true,and_true];and_intros<;>(intro h;first|rfl|exact absurd (hL.symm.trans h) ak|(simp only[e9,aY,aM,aX,a6,g9,g14,g16,g19,g22,cond_true,cond_false];rfl)))]
   rw[ek];simp only[e9,aY,aM,aX,a6,g9,g14,g16,g19,g22,cond_true,cond_false,bR,bQ,bN];try simp only[e9,aY,aM,aX,a6,g9,g14,g16,g19,g22,cond_true,cond_false,cG,cN,dN,put,Nat.reduceEqDiff,if_true,if_false,reduceIte]at f25 f28
   refine aZ.of ?_
   (refine sX (ai @f25 @f28) ?_;try exact trivial)
   first|exact aO.of_eq rfl|exact⟨by assumption,aO.of_eq rfl⟩|exact⟨ag,ag,aO.of_eq rfl⟩|(refine⟨?_, ?_⟩<;>first|exact aO.of_eq rfl|omega|rfl)|skip)
 |10,af,hL,aa=>
  cases af;have aM:=au hC hL 16 [13,12,11] rfl;have aX:=au hC hL 19 [13,12,11] rfl;have a6:=au hC hL 22 [] rfl;clear hC aa;rcases bO (L 9)with e9|e9<;>rcases bO (L 14)with aY|aY
  all_goals(have hX:=an aM (an aX (an a6 (an e9 (an aY hL))));exact aA)
 |11,af,hL,aa=>
  cases af;have d10:=aq aa 10 rfl;have aM:=au hC hL 16 [13,12] rfl;have aX:=au hC hL 19 [13,12] rfl;have a6:=au hC hL 22 [] rfl;clear hC aa;rcases bO (L 9)with e9|e9<;>rcases bO (L 14)with aY|aY
  all_goals(have hX:=an d10 (an aM (an aX (an a6 (an e9 (an aY hL)))));exact aA)
 |12,af,hL,aa=>
  cases af;have d11:=aq aa 11 rfl;have aM:=au hC hL 16 [13] rfl;have aX:=au hC hL 19 [13] rfl;have a6:=au hC hL 22 [] rfl;clear hC aa;rcases bO (L 9)with e9|e9<;>rcases bO (L 14)with aY|aY
  all_goals(have hX:=an d11 (an aM (an aX (an a6 (an e9 (an aY hL)))));exact aA)
 |13,af,hL,aa=>
  cases af;have d12:=aq aa 12 rfl;have aM:=au hC hL 16 [] rfl;have aX:=au hC hL 19 [] rfl;have a6:=au hC hL 22 [] rfl;clear hC aa;rcases bO (L 9)with e9|e9<;>rcases bO (L 14)with aY|aY
  all_goals(have hX:=an d12 (an aM (an aX (an a6 (an e9 (an aY hL)))));exact aA)
 |14,af,hL,aa=>
  cases af;have aY:L 14=false:=hL;have aM:=au hC hL 16 [15] rfl;have aX:=au hC hL 19 [16,15] rfl;have a6:=au hC hL 22 [] rfl;clear hC aa;rcases bO (L 9)with e9|e9;all_goals(have hX:=an aY (an aM (an aX (an a6 (an e9 hL))));exact aA)
 |15,af,hL,aa=>
  cases af;have d14:=aq aa 14 rfl;have aY:=aq aa 14 rfl;have aM:=au hC hL 16 [] rfl;have aX:=au hC hL 19 [16] rfl;have a6:=au hC hL 22 [] rfl;clear hC aa;rcases bO (L 9)with e9|e9;all_goals(have hX:=an d14 (an aY (an aM (an aX (an a6 (an e9 hL)))));exact aA)
 |16,af,hL,aa=>
  cases af;have d13:=aq aa 13 rfl;have d15:=aq aa 15 rfl;have e9:=aq aa 9 rfl;have aY:=ca hC (aq aa 15 rfl) 14 [] rfl;have aM:L 16=false:=hL;have aX:=au hC hL 19 [] rfl;have a6:=au hC hL 22 [] rfl
  (
   have f33:=br (V:=L) (b:=b) d13 aS (show(13,33,λL=>bif L 16 then .undef else .own 1)∈T by rw[hT];simp);have f35:=br (V:=L) (b:=b) d15 aS (show(15,35,λL=> .list [.any])∈T by rw[hT];simp);have g9:more L 16 9=L 9:=rfl;have g14:more L 16 14=L 14:=rfl;have g16:more L 16 16=true:=rfl;have g19:more L 16 19=L 19:=rfl;have g22:more L 16 22=L 22:=rfl;have ek:aI (more L 16) (more L 16) T b=put (jz 1 (aI L L T b)) 36 (.own 1):=by
    refine(dM hL cD aS (show(16,36,λL=> .own 1)∈T by rw[hT];simp)).trans ?_;rw[mP (V:=L) (V':=more L 16) (by rw[hb];simp only[cG,cN,nM,nN];rfl) (by rw[hT];simp only[jf,fu,false_implies,implies_true,and_true];and_intros<;>(intro h;first|rfl|exact absurd (hL.symm.trans h) ak|(simp only[e9,aY,aM,aX,a6,g9,g14,g16,g19,g22,cond_true,cond_false];rfl)))]
   rw[ek];simp only[e9,aY,aM,aX,a6,g9,g14,g16,g19,g22,cond_true,cond_false,bR,bQ,bN];try simp only[e9,aY,aM,aX,a6,g9,g14,g16,g19,g22,cond_true,cond_false,cG,cN,dN,put,Nat.reduceEqDiff,if_true,if_false,reduceIte]at f33 f35
   refine aZ.of ?_
   (refine sX (ai @f33 @f35) ?_;try exact trivial)
   first|exact aO.of_eq rfl|exact⟨by assumption,aO.of_eq rfl⟩|exact⟨ag,ag,aO.of_eq rfl⟩|(refine⟨?_, ?_⟩<;>first|exact aO.of_eq rfl|omega|rfl)|skip)
 |17,af,hL,aa=>
  cases af;have d0:=aq aa 0 rfl;have e9:=aq aa 9 rfl;have aY:=ca hC (aq aa 16 rfl) 14 [15] rfl;have aM:=aq aa 16 rfl;have aX:=au hC hL 19 [18] rfl;have a6:=au hC hL 22 [] rfl;have hX:=an d0 (an e9 (an aY (an aM (an aX (an a6 hL)))));exact aA
 |18,af,hL,aa=>
  cases af;have d17:=aq aa 17 rfl;have e9:=ca hC (aq aa 17 rfl) 9 [] rfl;have aY:=ca hC (aq aa 17 rfl) 14 [16,15] rfl;have aM:=ca hC (aq aa 17 rfl) 16 [] rfl;have aX:=au hC hL 19 [] rfl;have a6:=au hC hL 22 [] rfl;have hX:=an d17 (an e9 (an aY (an aM (an aX (an a6 hL)))));exact aA
 |19,af,hL,aa=>
  cases af;have d9:=aq aa 9 rfl;have d18:=aq aa 18 rfl;have e9:=ca hC (aq aa 18 rfl) 9 [] rfl;have aY:=ca hC (aq aa 18 rfl) 14 [16,15] rfl;have aM:=ca hC (aq aa 18 rfl) 16 [] rfl;have aX:L 19=false:=hL;have a6:=au hC hL 22 [] rfl;have hX:=an d9 (an d18 (an e9 (an aY (an aM (an aX (an a6 hL))))));exact aA
 |20,af,hL,aa=>
  cases af;have d1:=aq aa 1 rfl;have e9:=aq aa 9 rfl;have aY:=aq aa 14 rfl;have aM:=aq aa 16 rfl;have aX:=aq aa 19 rfl;have a6:=au hC hL 22 [21] rfl;have hX:=an d1 (an e9 (an aY (an aM (an aX (an a6 hL)))));exact aA
 |21,af,hL,aa=>
  cases af;have d20:=aq aa 20 rfl;have e9:=ca hC (aq aa 20 rfl) 9 [] rfl;have aY:=ca hC (aq aa 20 rfl) 14 [] rfl;have aM:=ca hC (aq aa 20 rfl) 16 [] rfl;have aX:=ca hC (aq aa 20 rfl) 19 [] rfl;have a6:=au hC hL 22 [] rfl;have hX:=an d20 (an e9 (an aY (an aM (an aX (an a6 hL)))));exact aA
 |22,af,hL,aa=>
  cases af;have d16:=aq aa 16 rfl;have d21:=aq aa 21 rfl;have e9:=ca hC (aq aa 21 rfl) 9 [] rfl;have aY:=ca hC (aq aa 21 rfl) 14 [] rfl;have aM:=ca hC (aq aa 21 rfl) 16 [] rfl;have aX:=ca hC (aq aa 21 rfl) 19 [] rfl;have a6:L 22=false:=hL;have hX:=an d16 (an d21 (an e9 (an aY (an aM (an aX (an a6 hL))))));exact aA
 |k + 23,af,hL,aa=>simp at af
abbrev cr (s:bh)(cost:Int):List D:=cR s++[.own 0, .own 1, .bz 1,i64 cost, .own 2, .bool true]
abbrev cU (M:List D):Row:=⟨true,58,4,M⟩
abbrev aG (n:Nat):Row:=⟨true,132,1,bP n .any⟩
abbrev aH (n:Nat):Row:=⟨true,186,1,bP n .any⟩
theorem Zi (s:bh)(h:pj s)(hs:nD s):aT ae 26 [fT s] [] [] (λd aF aL=>d= .aQ [.box 0 0,i64 0]/\aF=[.mu (cr s 0), .mp []]/\aL=[cU (bP s.dy.toNat (.agg (ew s))),aG s.dy.toNat,aH 0]):=by
 have c1:=RS s h;have c2:=Pd s h hs;have c7:=HX s;have iC:=h.2.1;refine cV func26 ntmps26 results26 call26 rfl ay λW0 S0 M0 own β hβ=> ?_;repeat'(first|(exact rfl)|refine aB ?_|refine aC λK hK=> ?_|refine cA (c1) ?_|refine cA (c2) ?_|(refine kA ?_;clear hK K)|(intro hg;try exact aw)|exact fin|apply ai)
 refine tO 2 25 58 4 _ rfl rfl ?_;refine tO 2 26 132 1 _ rfl rfl ?_;refine tO 2 29 186 1 _ rfl rfl ?_;refine dH (ι:=Nat) (λj=>[(1, .box 0 0),(5, .box 2 0),(17,i64 s.dy),(18,i64 j)]) (λ_=>[.mu (cR s), .mp [], .mu (cR s++[.own 0, .own 1, .bz 1,i64 0, .own 2, .bool true])]) (λj=>[cU (bP j (.agg (ew s))),aG j,aH 0])
  (λj=>(j:Int)<=s.dy) (λj=>s.dy.toNat - j) (λ_ _=>⟨rfl,rfl⟩) 0 ag (aV rfl (by try(refine av ?_;try exact trivial);try simp) ⟨_,rfl⟩ ⟨_,rfl⟩) (λj hj=> ?_) (λ_ _=>by rw[hβ];simp)
 by_cases aU:(j:Int) < s.dy
 ·(refine av ?_;try exact trivial)
  repeat'(first|(show az _ (.region 7 _ true) _ _;refine b_ ?_)|refine aB ?_|refine aC λK hK=> ?_|(refine kA ?_;clear hK K)|(intro hg;try exact aw)|exact fin|apply ai)
  refine cI ?_;refine k_ (dD 43 [(1, .box 0 0),(5, .box 2 0),(17,i64 s.dy),(18,i64 j)] [.mu (cR s), .mp [], .mu (cR s++[.own 0, .own 1, .bz 1,i64 0, .own 2, .bool true])] [cU (bP j (.agg (ew s))),aG j,aH 0]) (aV rfl (by simp[put]) ⟨[],rfl⟩ ⟨[],rfl⟩) (gT rfl rfl) (by rw[hβ];exact cv _) ?_;refine Zd (by rfl) _ _ _ _ _ s j (bP j (.agg (ew s))) (bP j .any) (by simp;omega) (by simp;omega) c7 ?_;simp only[bU,cond_true,dn,cF];have r1 (x:D):bP j x++[x]=bP (j + 1) x:=IX.symm;simp only[r1];repeat'(first|refine aB ?_|refine aC λK hK=> ?_|(refine kA ?_;clear hK K)|(intro hg;try exact aw)|exact fin|apply ai)
  all_goals first
  |(exact⟨j + 1,ag,ag,aV rfl (by try(refine av ?_;try exact trivial);try simp) ⟨_,rfl⟩ ⟨_,rfl⟩⟩)
  |skip
 ·obtain⟨n,hn⟩:∃n:Nat,s.dy=n:=⟨s.dy.toNat,ag⟩;obtain rfl:j=n:=ag
  (refine av ?_;try exact trivial)
  repeat'(first|(show az _ .ret _ _;refine b_ ?_)|refine aB ?_|refine aC λK hK=> ?_|(refine kA ?_;clear hK K)|(intro hg;try exact aw)|exact fin|apply ai)
  refine cI ?_;refine k_ (dD 43 [(2, .box 2 0),(3,i64 0)] [.mu (cR s), .mp [], .mu (cR s++[.own 0, .own 1, .bz 1,i64 0, .own 2, .bool true])] [cU (bP j (.agg (ew s))),aG j,aH 0]) (aV rfl (by simp[put]) ⟨[],rfl⟩ ⟨[],rfl⟩) (gT rfl rfl) (by rw[hβ];exact cv _) ?_;refine eI (aO.select [2,1] ak (λi hi=>by rw[hβ]at hi;cases hi)) ?_;refine oo ?_;have ej:s.dy.toNat=j:=ag;simp[cT,rz,vX,kS,uw,put,pos,D.cP,jY,gH,fW,ej,cr]
end Go.Proofs.YtopobgihpdaggaaGreatDoor
namespace Go.Ab
theorem cC {c:Ctx}{N:St->Prop}{fx:Operand}{xs:List Operand}{dst:Option Tmp}{s1:St}{f:FuncId}{cs ds:List D}{bx:List Bx}{aL:List Row}{K0:D->List Bx->List Row->Prop}(hc:aT c.P f ds bx aL K0)(hd:bp s1 dst)
  (hx:s1.ev fx= .aD f cs)(ha:xs.map s1.ev++cs=ds)(hb:s1.bx=bx)(hr:s1.rw=aL)(hk:∀d eH nK,K0 d eH nK->N (St.put ⟨s1.n,sc bx.length s1.sl,eH,nK⟩ dst d)):mz c N fx xs dst s1:=by
 refine⟨hd, ?_⟩;rw[hx];refine⟨ds, ?_, ?_⟩
 ·rw[<-ha];exact Il
 ·rw[hb,hr];exact hc.mono hk
theorem vk {ops:List Oper}{j t:Nat}{want:Bool}{dst:Option Tmp}{At:(St->Prop)->St->Prop}{N:St->Prop}{s1:St}(ht:iD ops j=some t)(hb:s1.sl t= .bool want)(h:At N s1):vl ops j want dst At N s1:=by
 unfold vl;rw[ht];show wG (s1.sl t) _ _;rw[hb];exact⟨λ_=>h,λe=>by cases want<;>cases e⟩
end Go.Ab
namespace Go.Proofs.YtopobgihpdaggaaGreatDoor
set_option maxRecDepth 100000
set_option maxHeartbeats 4000000
open Go.Ab
attribute[local irreducible] az dI dR ax aT IA fP aZ
theorem Nv (l:List (Nat×D))(m:Nat):bj l m= .undef\/∃p∈l,p.1=m/\bj l m=p.2:=by
 induction l with
 |nil=>exact .inl rfl
 |cons e l ih=>
  obtain⟨n,d⟩:=e;rw[cG];by_cases h:m=n
  ·exact .inr ⟨(n,d),ey ..,h.symm,by simp[put,h]⟩
  ·rcases ih with ih|⟨p,hp,h1,h2⟩
   ·exact .inl (by simp only[put,if_neg h];exact ih)
   ·exact .inr ⟨p,fE _ hp,h1,by simp only[put,if_neg h];exact h2⟩
theorem jZ {c:Ctx}{n:Nat}{sl:Nat->D}{bx:List Bx}{aL:List Row}(l:List (Nat×D))(h:∀p∈l,sl p.1=p.2):aO c ⟨n,sl,bx,aL⟩ ⟨n,bj l,bx,aL⟩:=by
 rintro a w ⟨g,hg⟩;refine⟨g,hg.bj λm=> ?_⟩;rcases Nv l m with e|⟨p,hp,rfl,e⟩
 ·rw[e];exact .undef _ _
 ·rw[e,<-h p hp];exact hg.sl p.1
theorem hE:aJ ae 186=1:=aj
theorem iO:bytesOf ae 186=16:=aj
theorem g_:(bX ae 186).isSome=true:=aj
theorem iR (k:Nat)(x:D):(bP k x).length=k:=by simp
theorem iS (k:Nat)(x:D):bP k x++[x]=bP (k + 1) x:=IX.symm
abbrev bw (v:D)(bx:List Bx)(rw:List Row):D->List Bx->List Row->Prop:=λd aF aL=>d=v/\aF=bx/\aL=rw
theorem F' (s:bh)(cost:Int)(B:List Bx)(rw:List Row):aT ae 68 [.box 0 0] (.mu (cr s cost)::B) rw (bw (.bool false) (.mu (cr s cost)::B) rw):=by
 refine cV func68 ntmps68 results68 call68 rfl ay λW0 S0 M0 own β hβ=> ?_;repeat'(first|(show cT _ _ _ _ _;refine av ?_)|refine aB ?_|refine aC λK hK=> ?_|(refine kA ?_;clear hK K)|(intro hg;try exact aw)|exact fin|apply ai)
theorem lP (b:Bool)(e:Int):ax ae 101 [.bool b,i64 e] (i64 (if b then 0 else e)):=by
 cases b;all_goals
 refine aR func101 ntmps101 results101 call101 rfl ay λw0 S0 M0=> ?_;repeat'(first|refine aB ?_|refine aC λK hK=> ?_|(refine kA ?_;clear hK K)|(intro hg;try exact aw)|exact fin|apply ai)
end Go.Proofs.YtopobgihpdaggaaGreatDoor
