import Derived.Test.YtopobgihpdaggaaGreatDoorZ13
import Derived.Test.YtopobgihpdaggaaGreatDoorZ14
import Derived.Lib.AppendStr
set_option linter.unusedVariables false
set_option linter.unusedSimpArgs false
open And renaming intro->ai
open Array renaming getElem?_eq_some_iff->bJ,getElem?_modify->ug
open Int renaming natCast_one->eZ,natCast_zero->eY
open Go.Lib renaming byteCells->t_,strCells->xL
open Nat renaming le_refl->cx,not_lt_zero->fD,zero_le->cv
open Go.Proofs.Tryz renaming prog->ae
open Go.Value renaming ownBlock->jr,slice->q9
open Go.World renaming cell?->sq,setCell->zz
open Go.Proofs.Tryz
namespace Go.Proofs.YtopobgihpdaggaaGreatDoor
set_option maxRecDepth 100000
set_option maxHeartbeats 4000000
open Go.Ab Go.RowKit Go
theorem Tl.O8:Go.Proofs.Lays.n240 ae Tryz.Gk:={Tryz.O9 with}
theorem age {P:Program}(w:World)(t u ty e:TypeId)(i:TypeInfo)(ht:P.underlying t=some (.slice e))(hu:P.underlying u=some .string)(hi:P.info? e=some i)(hz:i.zero=some (.int .u8 0))
  (qI:i.size=1)(mh:i.bytes=1)(v:Value)(n:Nat)(xs:List Value)(bG:w.ownsRow 0 e 1 v n xs)(s:ByteArray)(hlen:n + s.size<=140737488355328):
  ∃v' w',(Builtin.append_ #[t,u] ty #[v, .string s]).run P w= .ok v' w'/\w'.ownsRow 0 e 1 v' (n + s.size) (xs++xL s)/\w.grownBy w' v.ownBlock/\
   (v'.ownBlock=v.ownBlock\/v'.ownBlock=some w.heap.size):=by
 have kK:n + s.size<=maxLen:=by unfold maxLen;omega
 obtain⟨v',w',hr,h2,h3,h4⟩:=Lib.run_append_own_string (P:=P) w 0 t u ty e i ht hu hi hz qI mh v n xs bG s kK hlen (cv _);refine⟨v',w',hr,h2,h3, ?_⟩;have lD:=bG;rcases bG.2 with⟨rfl,rfl⟩|⟨g,cap,cur,rfl,Qu,hg,rY,DT,aE,anL⟩
 ·by_cases hm:s.size=0
  ·rw[h4.2 ⟨rfl,hm⟩];exact .inl rfl
  ·have eR:=run_append_nil_string (P:=P) w t u ty e i (.int .u8 0) ht hu hi hz s ag ag (by rw[mh];omega);rw[eR]at hr;cases hr
   exact .inr rfl
 ·by_cases qL:n + s.size<=cap
  ·have anQ:cur.size=cap:=by simpa using aE
   have eR:=Lib.run_append_room_string (P:=P) w t u ty e i ht hu hi qI g n cap cur hg s qL ag;rw[eR]at hr;cases hr
   exact .inl rfl
  ·have qF:xs.length=n:=by simpa using lD.1
   have holds:∀j u,xs[j]? =some u->w.cell? ((⟨g,0,none⟩:Addr).add j)=some u:=lD.cells (g:=g) rfl;have eR:=Lib.run_append_grow_string (P:=P) w t u ty e i (.int .u8 0) ht hu hi hz ⟨g,0,none⟩ n cap xs (by rw[qI];simpa using qF) holds s ag ag (by rw[mh];exact growslice_fits ag ag);rw[eR]at hr;cases hr
   exact .inr rfl
theorem TW {P:Program}{w:World}{ops:Array Oper}{rest:List Oper}{o:Oper}{a:Act}{Q:Exit->Act->World->Prop}(cK:o.guard=none)(sl x:Operand)(t u:TypeId)
  (ho:o.op= .call {callee:= .builtin .append,args:=#[sl,x],argTypes:=#[t,u]})
  (e:TypeId)(i:TypeInfo)(ht:P.underlying t=some (.slice e))(hu:P.underlying u=some .string)(hi:P.info? e=some i)(hz:i.zero=some (.int .u8 0))
  (qI:i.size=1)(mh:i.bytes=1)
  (v:Value)(n:Nat)(xs:List Value)(hs:a.eval sl=v)(bG:w.ownsRow 0 e 1 v n xs)(s:ByteArray)(hx:a.eval x= .string s)(hlen:n + s.size<=140737488355328)
  (h:∀v' w',w'.ownsRow 0 e 1 v' (n + s.size) (xs++xL s)->w.grownBy w' v.ownBlock->(v'.ownBlock=v.ownBlock\/v'.ownBlock=some w.heap.size)->wpList P ops Q rest (a.put o.dst v') w'):wpList P ops Q (o::rest) a w:=by
 refine wpList_plain cK λK hK=> ?_;obtain⟨v',w',hr,h2,h3,h4⟩:=age (P:=P) w t u o.type e i ht hu hi hz qI mh v n xs bG s hlen;unfold Oper.wp execOp;simp only[ho,resolve,invoke,builtin,Sem.run_bind,Sem.run_pure,Result.andThen_ok,List.map_toArray,List.map_cons,List.map_nil,hs,hx,hr];exact hK _ _ (h v' w' h2 h3 h4)
structure Bd where
 b:Nat
 kQ:List UInt8
 live:Bool
def Fa (j:Bd)(T:Nat->Prop)(w:World):Prop:=j.live=true->∃p v,w.heap[j.b]? =some (.cells #[p,v] 107 (0,0))/\(p= .pointer none\/p= .pointer (some ⟨j.b,0,none⟩))/\w.ownsRow 0 5 1 v (t_ j.kQ).length (t_ j.kQ)/\v.ownBlock≠some j.b/\∀x,T x↔(x=j.b\/v.ownBlock=some x)
theorem ju:xw Fa:=by
 rintro j T w w' hj hs hl;obtain⟨p,v,h1,h2,h3,h4,h5⟩:=hj hl;refine⟨p,v,(hs _ ((h5 _).2 (.inl rfl))).trans h1,h2,⟨h3.1, ?_⟩,h4,h5⟩;rcases h3.2 with hn|⟨g,cap,cur,rfl,hg,fw,rest⟩
 ·exact .inl hn
 ·exact .inr ⟨g,cap,cur,rfl,hg,(hs g ((h5 g).2 (.inr rfl))).trans fw,rest⟩
theorem afr (b:Nat)(p v:Value)(w:World)(hb:w.heap[b]? =some (.cells #[p,v] 107 (0,0)))(hp:p= .pointer none\/p= .pointer (some ⟨b,0,none⟩)):
  Calls ae 84 #[.pointer (some ⟨b,0,none⟩)] w λe w'=>e= .returned (.tuple #[])/\w'.heap[b]? =some (.cells #[.pointer (some ⟨b,0,none⟩),v] 107 (0,0))/\w'.os=w.os/\w'.tape=w.tape/\w'.output=w.output/\w'.heap.size=w.heap.size/\∀k,k≠b->w'.heap[k]? =w.heap[k]? :=by
 have hc:w.cell? ⟨b,0,none⟩=some p:=by simp[sq,hb]
 rcases hp with rfl|rfl
 ·refine(Go.Proofs.Any.Builder_copyCheck_fresh Tl.O8 Tryz.Cw.toX72 b w hc (by simp[World.shape?,hb];rfl) (by simp[World.frozen?,hb])).mono ?_;rintro e w' ⟨rfl,rfl⟩;refine⟨rfl,by simp[zz,ug,hb],rfl,rfl,rfl,by simp[zz],λk hk=>by simp[zz,ug,Ne.symm hk]⟩
 ·refine(Go.Proofs.Any.Builder_copyCheck_used Tl.O8 Tryz.Cw.toX72 b w hc).mono ?_;rintro e w' ⟨rfl,rfl⟩;exact⟨rfl,hb,rfl,rfl,rfl,rfl,λ_ _=>rfl⟩
theorem TV (b:Nat)(p v:Value)(xs:List Value)(s:ByteArray)(w:World)(hb:w.heap[b]? =some (.cells #[p,v] 107 (0,0)))(hp:p= .pointer none\/p= .pointer (some ⟨b,0,none⟩))(bG:w.ownsRow 0 5 1 v xs.length xs)(bS:v.ownBlock≠some b)(hlen:xs.length + s.size<=140737488355328):
  Calls ae 48 #[.pointer (some ⟨b,0,none⟩), .string s] w λe w'=>e= .returned (.tuple #[.int .i64 s.size, .nilIface])/\∃v',w'.heap[b]? =some (.cells #[.pointer (some ⟨b,0,none⟩),v'] 107 (0,0))/\w'.ownsRow 0 5 1 v' (xs++xL s).length (xs++xL s)/\v'.ownBlock≠some b/\
   (v'.ownBlock=v.ownBlock\/v'.ownBlock=some w.heap.size)/\w'.os=w.os/\w'.tape=w.tape/\w'.output=w.output/\w.heap.size<=w'.heap.size/\∀k,k < w.heap.size->k≠b->v.ownBlock≠some k->w'.heap[k]? =w.heap[k]? :=by
 have Qt:b < w.heap.size:=(bJ.1 hb).1;obtain⟨i0,hi,mU,hz1,hz2⟩:=info_parts Tryz.Cw.infoByte
 go_enter func48,ntmps48
 go_wp2_with (go_at_call 84;refine(afr b p v _ hb hp).mono ?_)
 rintro e w1 ⟨rfl,h1,l_,Du,Dy,bo,ba⟩;have abC:w1.ownsRow 0 5 1 v xs.length xs:=by
  refine⟨bG.1, ?_⟩;rcases bG.2 with hn|⟨g,cap,cur,rfl,hg,fw,rest⟩
  ·exact .inl hn
  ·exact .inr ⟨g,cap,cur,rfl,hg,(ba g (λe=>bS (by rw[e];rfl))).trans fw,rest⟩
 have c0:w1.cell? ⟨b,0,none⟩=some (.pointer (some ⟨b,0,none⟩)):=by simp[sq,h1]
 have c1:w1.cell? ⟨b,1,none⟩=some v:=by simp[sq,h1]
 have K1:Aside (∀k,k≠b->w1.heap[k]? =w.heap[k]?):=ba;have K2:Aside (w1.os=w.os/\w1.tape=w.tape/\w1.output=w.output/\w1.heap.size=w.heap.size):=⟨l_,Du,Dy,bo⟩;clear ba l_ Du Dy bo
 go_wp2_with (at_builtin;refine TW rfl _ _ 105 9 rfl 5 i0 underlying105 underlying9 hi mU hz1 hz2 _ _ _ rfl abC s rfl hlen ?_)
 intro v' w2 lD yO PX;have oZ:w2.heap[b]? =some (.cells #[.pointer (some ⟨b,0,none⟩),v] 107 (0,0)):=by
  rw[yO.block b (by rw[K2.out.2.2.2];exact Qt) (λe=>bS e.symm)];exact h1
 have d0:w2.cell? ⟨b,0,none⟩=some (.pointer (some ⟨b,0,none⟩)):=by simp[sq,oZ]
 have d1:w2.cell? ⟨b,1,none⟩=some v:=by simp[sq,oZ]
 have f1:w2.frozen? ⟨b,1,none⟩=false:=by simp[World.frozen?,oZ]
 obtain⟨ao,n',cap,rfl⟩:∃ao n' cap,v'= .slice ao n' cap:=by
  rcases lD.2 with⟨hv,_⟩|⟨g,cap,cur,hv,_⟩
  ·exact⟨_,_,_,hv⟩
  ·exact⟨_,_,_,hv⟩
 have K3:Aside ((q9 ao n' cap).ownBlock=v.ownBlock\/(q9 ao n' cap).ownBlock=some w1.heap.size):=PX;have K4:Aside (w1.grownBy w2 v.ownBlock):=yO;have K5:Aside (w2.ownsRow 0 5 1 (.slice ao n' cap) (xs.length + s.size) (xs++xL s)):=lD;clear PX yO lD
 go_wp2
 go_ret2
 have P2:(q9 ao n' cap).ownBlock≠some b:=by
  rcases K3.out with e|e
  ·rw[e];exact bS
  ·rw[e,K2.out.2.2.2];intro e2;cases e2;omega
 refine⟨rfl,_,by simp[zz,ug,oZ], ?_,P2,by rw[<-K2.out.2.2.2];exact K3.out,K4.out.os.trans K2.out.1,K4.out.tape.trans K2.out.2.1,K4.out.output.trans K2.out.2.2.1, ?_,λk hk Qb DH=> ?_⟩
 ·have h9:(xs++xL s).length=xs.length + s.size:=by rw[List.length_append,Lib.strCells_length]
  rw[h9];refine⟨K5.out.1, ?_⟩;rcases K5.out.2 with hn|⟨g,cp,cur,e,hg,fw,rest⟩
  ·exact .inl hn
  ·have aW:g≠b:=λe2=>P2 (by rw[e,e2];rfl);exact .inr ⟨g,cp,cur,e,hg,by simp[zz,ug,Ne.symm aW,fw],rest⟩
 ·have:=K4.out.size;have:=K2.out.2.2.2;simp[zz];omega
 ·have e1:=K4.out.block k (by rw[K2.out.2.2.2];exact hk) (λe=>DH e.symm);have e2:=K1.out k Qb;simp only[zz,ug,if_neg (Ne.symm Qb)];rw[e1,e2]
def B0 (x y:Operand)(dst:Option Tmp)(N:St->Bd->Prop)(s:St)(j:Bd):Prop:=
 bp s dst/\j.live=true/\s.ev x= .val (.pointer (some ⟨j.b,0,none⟩))/\∃t:ByteArray,s.ev y= .str t/\j.kQ.length + t.size<=140737488355328/\
  N (s.put dst (.aQ [.int .i64 t.size, .val .nilIface])) ⟨j.b,j.kQ++t.data.toList,true⟩
theorem afZ (l:List UInt8)(t:ByteArray):t_ l++xL t=t_ (l++t.data.toList):=by
 simp[t_,xL]
theorem sr.write {c:Ctx}(hP:c.P=ae){x y:Operand}{dst:Option Tmp}{at_:Array TypeId}{ty:TypeId}{pos:String}{aft:Array Edge}{gd:Option (Nat×Bool)}{s:St}{j:Bd}{K:St->Bd->Prop}(h:B0 x y dst K s j):
  sr Fa c ⟨dst, .call ⟨.value (.func 48),#[x,y],at_⟩,ty,pos,aft,gd⟩ s j K:=by
 obtain⟨hd,G8,hx,t,hy,hlen,hK⟩:=h;rintro a w N' Q' ⟨g,T,hg,hf,hj⟩ hN;obtain⟨p,v,h1,h2,h3,h4,h5⟩:=hj G8;have lx:a.eval x= .pointer (some ⟨j.b,0,none⟩):=by
  have:=hg.ev x;rw[hx]at this;generalize a.eval x=vx at this;cases this;rfl
 have hyv:a.eval y= .string t:=by
  have:=hg.ev y;rw[hy]at this;generalize a.eval y=vy at this;cases this;rfl
 have qW:∀args w,(callFunc 48 args).run ae w= .ok (.enter 48 args) w:=enters_of func48 (by kernel_rfl) rfl;have bg:(execOp a.eval ⟨dst, .call ⟨.value (.func 48),#[x,y],at_⟩,ty,pos,aft,gd⟩).run c.P w= .ok (.enter 48 #[.pointer (some ⟨j.b,0,none⟩), .string t]) w:=by
  have ab0:a.eval (.func 48)= .func (.func 48) #[] #[]:=rfl;simp[execOp,resolve,ab0,Deferred.ofValue,invoke,lx,hyv];rw[hP,qW]
 refine gK (by intro cl h;cases h) ?_;unfold Oper.wp;rw[bg];have bE:=TV j.b p v (t_ j.kQ) t w h1 h2 h3 h4 (by simpa[t_]using hlen);rw[<-hP]at bE;refine bE.mono ?_;rintro e w' ⟨rfl,v',f1,f2,f3,f4,f5,f6,f7,f8,f9⟩;show N' (a.put dst _) w';have Bk:∀k,k < w.heap.size->¬T k->w'.heap[k]? =w.heap[k]? :=λk hk ht=>f9 k hk (λe=>ht ((h5 k).2 (.inl e))) (λe=>ht ((h5 k).2 (.inr e)));obtain⟨q1,q2⟩:=hf.sJ (T':=λx=>x=j.b\/v'.ownBlock=some x) hg f5 f6 f7 f8 Bk (λb hb=>by
   rcases hb with rfl|hb
   ·exact .inl ((h5 _).2 (.inl rfl))
   ·rcases f4 with e|e
    ·exact .inl ((h5 _).2 (.inr (e▸hb)))
    ·rw[e]at hb;cases hb;exact .inr (cx _)) (λb hb=>by
   rcases hb with rfl|hb
   ·exact .inl ⟨_,_,_,f1⟩
   ·rcases f2.2 with⟨e,_⟩|⟨g2,cp,cur,e,_,fw,_⟩
    ·rw[e]at hb;simp[jr]at hb
    ·rw[e]at hb;simp only[jr,Option.some.injEq]at hb;subst hb;exact .inl ⟨_,_,_,fw⟩)
 have b9:Rel w' g (.tuple #[.int .i64 t.size, .nilIface]) (.aQ [.int .i64 t.size, .val .nilIface]):= .aQ _ _ _ rfl (λq d hq=>by
  match q with
  |0=>simp at hq;subst hq;exact .int _ _ _
  |1=>simp at hq;subst hq;exact .val _ _
  |q + 2=>simp at hq)
 refine hN _ ⟨j.b,j.kQ++t.data.toList,true⟩ _ _ ⟨g,_,q1.put hd b9, ?_,λ_=>⟨_,v',f1, .inr rfl,by rw[afZ]at f2;exact f2,f3,λx=>Iff.rfl⟩⟩ hK;cases dst with
 |none=>exact q2
 |some n=>exact⟨q2.bx,q2.rw,q2.df,q2.sx,q2.lt⟩
theorem V4 (b g cap:Nat)(p:Value)(cur:Array Value)(l:List UInt8)(w:World)(hb:w.heap[b]? =some (.cells #[p, .slice (some ⟨g,0,none⟩) l.length cap] 107 (0,0)))(bG:w.ownsRow 0 5 1 (.slice (some ⟨g,0,none⟩) l.length cap) l.length (t_ l))
  (hg:w.heap[g]? =some (.cells cur 5 (0,0)))(rY:l.length<=cap)(DT:cap<=maxLen)(aE:cur.size=cap * 1)(h0:l≠[]):
  Calls ae 49 #[.pointer (some ⟨b,0,none⟩)] w λe w'=>e= .returned (.string ⟨l.toArray⟩)/\w'=w.drew.freeze ⟨g,0,none⟩ l.length:=by
 have qQ:l.length≠0:=by simpa using h0
 have c1:w.drew.cell? ⟨b,1,none⟩=some (.slice (some ⟨g,0,none⟩) l.length cap):=by
  have:w.drew.heap[b]? =some (.cells #[p, .slice (some ⟨g,0,none⟩) l.length cap] 107 (0,0)):=hb;rw[Lib.cell_of_heap this];rfl
 have hSD:(Builtin.unsafeSliceData_ #[105] 164 #[.slice (some ⟨g,0,none⟩) l.length cap]).run ae w.drew= .ok (.pointer (some ⟨g,0,none⟩)) w.drew:=
  Lib.run_unsafeSliceData_row _ _ _ _ _ _ ag
 have hUS:(Builtin.unsafeString_ #[164,3] 9 #[.pointer (some ⟨g,0,none⟩), .int .i64 l.length]).run ae w.drew= .ok (.string ⟨l.toArray⟩) (w.drew.freeze ⟨g,0,none⟩ l.length):=by
  refine Lib.run_unsafeString_row w.drew 164 3 9 5 underlying164 Tryz.Cw.cellsByte g cur.size (by have me:w.drew.heap[g]? =some (.cells cur 5 (0,0)):=hg;simp[World.shape?,me]) l h0 ag (by unfold maxLen at DT;omega) ?_;intro j x hx;exact bG.cells (g:=g) rfl j (.int .u8 x.toNat) (by simp[t_,hx])
 go_enter func49,ntmps49
 go_wp2
 go_region
 all_goals(go_wp2;go_ret;exact⟨rfl,rfl⟩)
def R_ (x:Operand)(dst:Option Tmp)(N:St->Bd->Prop)(s:St)(j:Bd):Prop:=
 bp s dst/\j.live=true/\s.ev x= .val (.pointer (some ⟨j.b,0,none⟩))/\j.kQ≠[]/\N (s.put dst (.str ⟨j.kQ.toArray⟩)) ⟨j.b,[],false⟩
theorem sr.string {c:Ctx}(hP:c.P=ae){x:Operand}{dst:Option Tmp}{at_:Array TypeId}{ty:TypeId}{pos:String}{aft:Array Edge}{gd:Option (Nat×Bool)}{s:St}{j:Bd}{K:St->Bd->Prop}(h:R_ x dst K s j):
  sr Fa c ⟨dst, .call ⟨.value (.func 49),#[x],at_⟩,ty,pos,aft,gd⟩ s j K:=by
 obtain⟨hd,G8,hx,h0,hK⟩:=h;rintro a w N' Q' ⟨g,T,hg,hf,hj⟩ hN;obtain⟨p,v,h1,h2,h3,h4,h5⟩:=hj G8;have lx:a.eval x= .pointer (some ⟨j.b,0,none⟩):=by
  have:=hg.ev x;rw[hx]at this;generalize a.eval x=vx at this;cases this;rfl
 have qW:∀args w,(callFunc 49 args).run ae w= .ok (.enter 49 args) w:=enters_of func49 (by kernel_rfl) rfl;have bg:(execOp a.eval ⟨dst, .call ⟨.value (.func 49),#[x],at_⟩,ty,pos,aft,gd⟩).run c.P w= .ok (.enter 49 #[.pointer (some ⟨j.b,0,none⟩)]) w:=by
  have abZ:a.eval (.func 49)= .func (.func 49) #[] #[]:=rfl;simp[execOp,resolve,abZ,Deferred.ofValue,invoke,lx];rw[hP,qW]
 refine gK (by intro cl h;cases h) ?_;unfold Oper.wp;rw[bg];have n4:(t_ j.kQ).length=j.kQ.length:=Lib.byteCells_length _;rw[n4]at h3;obtain⟨gb,cap,cur,rfl,_,fw,rY,DT,aE⟩:∃gb cap cur,v= .slice (some ⟨gb,0,none⟩) j.kQ.length cap/\0<=gb/\w.heap[gb]? =some (.cells cur 5 (0,0))/\j.kQ.length<=cap/\cap<=maxLen/\cur.size=cap * 1:=by
  rcases h3.2 with⟨_,hz⟩|⟨gb,cap,cur,hv,h6,h7,h8,h9,y_,_⟩
  ·exact absurd (List.eq_nil_of_length_eq_zero hz) h0
  ·exact⟨gb,cap,cur,hv,h6,h7,h8,h9,y_⟩
 have bE:=V4 j.b gb cap p cur j.kQ w h1 h3 fw rY DT aE h0;rw[<-hP]at bE;refine bE.mono ?_;rintro e w' ⟨rfl,rfl⟩;show N' (a.put dst _) _;have Bk:∀k,k < w.heap.size->¬T k->(w.drew.freeze ⟨gb,0,none⟩ j.kQ.length).heap[k]? =w.heap[k]? :=λk hk ht=>by
  have bS:gb≠k:=λe=>ht ((h5 k).2 (.inr (by rw[<-e];rfl)));unfold World.freeze;split
  ·rfl
  ·show(w.heap.modify gb _)[k]? =_;rw[ug,if_neg bS]
 have l_:(w.drew.freeze ⟨gb,0,none⟩ j.kQ.length).os=w.os/\(w.drew.freeze ⟨gb,0,none⟩ j.kQ.length).tape=w.tape/\(w.drew.freeze ⟨gb,0,none⟩ j.kQ.length).output=w.output/\w.heap.size<=(w.drew.freeze ⟨gb,0,none⟩ j.kQ.length).heap.size:=by
  unfold World.freeze;split
  ·exact⟨rfl,rfl,rfl,cx _⟩
  ·refine⟨rfl,rfl,rfl, ?_⟩;show w.heap.size<=(w.heap.modify gb _).size;rw[Array.size_modify];exact cx _
 obtain⟨q1,q2⟩:=hf.sJ (T':=λ_=>False) hg l_.1 l_.2.1 l_.2.2.1 l_.2.2.2 Bk (λb hb=>hb.elim) (λb hb=>hb.elim);refine hN _ ⟨j.b,[],false⟩ _ _ ⟨g,λ_=>False,q1.put hd (.str _ _), ?_,λh=>by cases h⟩ hK;cases dst with
 |none=>exact q2
 |some n=>exact⟨q2.bx,q2.rw,q2.df,q2.sx,q2.lt⟩
theorem agL {c:Ctx}(hP:c.P=ae){id:Nat}{ty:TypeId}{pos:String}{aft:Array Edge}{rest:Code}{Q:Exit->St->Prop}{s:St}(hn:8 < s.n)
  (h:∀b,eK Fa c rest (λe s' _=>Q e s') (s.put (some 8) (.val (.pointer (some ⟨b,0,none⟩)))) ⟨b,[],true⟩):az c (.seq (.region id #[⟨some 8, .alloc 107,ty,pos,aft,none⟩] false) rest) Q s:=by
 unfold az;rintro a w ⟨g,hg⟩;refine wpIn_seq (wpIn_region_lit (l:=[⟨some 8, .alloc 107,ty,pos,aft,none⟩]) ?_);unfold wpListIn;rw[if_pos (by simp[Region.wanted])];refine gK (by intro cl h;cases h) ?_;have hex:(execOp a.eval ⟨some 8, .alloc 107,ty,pos,aft,none⟩).run c.P w= .ok (.value (.pointer (some ⟨w.heap.size,0,none⟩))) (w.alloc (.cells #[.pointer none, .slice none 0 0] 107)):=by
  rw[hP];simp[execOp,Instr.alloc,zeroValue107,newVar,newRow];rfl
 unfold Oper.wp;rw[hex];unfold Oper.upon;unfold wpListIn;have hb:=vh w (.cells #[.pointer none, .slice none 0 0] 107);have bM:=hg.world hb (λ_ h=>h) (λ_ h=> .inl h) (hg.bt.below hb);have jD:(w.alloc (.cells #[.pointer none, .slice none 0 0] 107)).heap[w.heap.size]? =some (.cells #[.pointer none, .slice none 0 0] 107 (0,0)):=heap_alloc_new w _;refine wpIn_mono (h w.heap.size _ _ ⟨g,λx=>x=w.heap.size,bM.put hn (.val _ _),⟨λi x b hi hl hb ht=> ?_,λr row v gb hr hl hv aW ht=> ?_,λd hd D hD ht=> ?_,λx hx ht=> ?_,λb hb=> ?_⟩,λ_=>⟨.pointer none, .slice none 0 0,jD, .inl rfl,World.ownsRow_nil _ _ _ _,by simp[jr],λx=>by simp[jr]⟩⟩) ?_
 ·have:=(hg.om hi hl hb).1;rw[ht]at this;omega
 ·have:=(hg.oG hr hl hv aW).1;rw[ht]at this;omega
 ·obtain⟨D',_,e,ed⟩:=hg.df.cW.2 d hd;rw[e]at hD;cases hD
  have:=(bJ.1 ed).1;rw[ht]at this;omega
 ·have:=hg.bt.lt hx;rw[ht]at this;omega
 ·subst hb;refine⟨by simp, ?_,hg.cY _ hg.below.size, .inl ⟨_,_,_,jD⟩⟩;cases hm:g.M w.heap.size with
  |none=>rfl
  |some f=>
   obtain⟨es,cl,h1,_⟩:=hg.df.cb _ f hm;have:=(bJ.1 h1).1;omega
 ·rintro e a' w' ⟨s',j',⟨g',T',r,_,_⟩,q⟩;exact⟨s',⟨g',r⟩,q⟩
end Go.Proofs.YtopobgihpdaggaaGreatDoor
namespace Go.Proofs.YtopobgihpdaggaaGreatDoor
set_option maxRecDepth 100000
set_option maxHeartbeats 4000000
open Go.Ab
attribute[local irreducible] az dI dR ax aT IA
structure dJ where
 p:Int
 lo:Int
 hi:Int
 deriving Inhabited,DecidableEq
abbrev ft (s:dJ):D:= .agg [i64 s.p,i64 s.lo,i64 s.hi]
abbrev eQ (W R:Nat)(sl:Int)(S:List dJ):List D:=[i64 W,i64 R,i64 sl, .list (S.map ft)]
abbrev iG (W R:Nat)(sl:Int)(S:List dJ):List D:=[i64 W,i64 R,i64 sl, .list (S.map ft),i64 W,i64 R]
structure jH (W R:Nat)(sl:Int)(S:List dJ):Prop where
 w:1<=W/\W<=6
 r:1<=R/\R<=5
 s:0<=sl/\sl<=5000
 n:S.length<=12
 a:∀i,i < S.length->(0<=(nth S i).p/\(nth S i).p<=(W:Int) * R - 1)/\0<=(nth S i).lo/\(nth S i).lo<=(nth S i).hi/\(nth S i).hi<=99999
def nu (W a b:Int):Int:=max (a / W - b / W) (b / W - a / W) + max (a % W - b % W) (b % W - a % W)
theorem zn {W a:Int}(hw:1<=W/\W<=6)(ha:0<=a/\a<=29):(0<=a / W/\a / W<=29)/\0<=a % W/\a % W<=5:=by
 have h1:=Int.ediv_nonneg (a:=a) (b:=W) ha.1 ag;have h2:=Int.ediv_le_self (a:=a) W ha.1;have h3:=Int.emod_nonneg a (b:=W) ag;have h4:=Int.emod_lt_of_pos a (b:=W) ag;omega
theorem Eb {W a b:Int}(hw:1<=W/\W<=6)(ha:0<=a/\a<=29)(hb:0<=b/\b<=29):0<=nu W a b/\nu W a b<=34:=by
 have h1:=zn hw ha;have h2:=zn hw hb;unfold nu;omega
theorem ZE {a b A B:Int}(h0:0<=a)(h1:a<=A)(h2:0<=b)(h3:b<=B):0<=a * b/\a * b<=A * B:=
 ⟨Int.mul_nonneg h0 h2,Int.mul_le_mul h1 h3 h2 (Int.le_trans h0 h1)⟩
theorem El (x lo hi:Int):ax ae 174 [i64 x,i64 lo,i64 hi] (.bool (decide (lo<=x/\x<=hi))):=by
 refine aR func174 ntmps174 results174 call174 rfl ay λw0 S0 M0=> ?_;repeat'(first|refine aB ?_|refine aC λK hK=> ?_|(refine kA ?_;clear hK K)|(intro hg;try exact aw)|exact fin|apply ai)
 all_goals(refine gi ?_;simp only[decide_eq_true_eq,Bool.false_eq_true,false_iff,iff_false,true_iff,iff_true];omega)
theorem QF (a b:Int):ax ae 345 [ints [a,b]] (i64 (max a b)):=by
 have n0:nth [a,b] 0=a:=rfl;have n1:nth [a,b] 1=b:=rfl;have e1:max a a=a:=ag;refine aR func345 ntmps345 results345 call345 rfl ay λw0 S0 M0=> ?_;repeat'(first|refine bK ?_|((first|refine bL λK hK=> ?_|refine bI ?_|show bC _ _ _ _ _);(refine sX (ai @n0 (ai @n1 (ai @e1 (ai @eY (@eZ))))) ?_;try exact trivial))|(refine kA ?_;clear hK K)|(intro hg;try exact aw)|exact fin|apply ai)
 refine dH (ι:=Nat) (λk=>[(3,i64 (match k with|0=>a|1=>a|_=>max a b)),(9,ints [a,b]),(10,i64 2),(11,i64 k)]) (λ_=>[]) (λ_=>[]) (λk=>k<=2) (λk=>2 - k) (λ_ _=>⟨rfl,rfl⟩) 0 ag (aV rfl (by try(refine sX (ai @n0 (ai @n1 (ai @e1 (ai @eY (@eZ))))) ?_;try exact trivial);try simp) ⟨_,rfl⟩ ⟨_,rfl⟩) (λk hk=> ?_)
 match k,hk with
 |0,_=>
  (refine sX (ai @n0 (ai @n1 (ai @e1 (ai @eY (@eZ))))) ?_;try exact trivial)
  repeat'(first|refine bK ?_|((first|refine bL λK hK=> ?_|refine bI ?_|show bC _ _ _ _ _);(refine sX (ai @n0 (ai @n1 (ai @e1 (ai @eY (@eZ))))) ?_;try exact trivial))|(refine kA ?_;clear hK K)|(intro hg;try exact aw)|exact fin|apply ai)
  exact⟨1,ag,ag,aV rfl (by try(refine sX (ai @n0 (ai @n1 (ai @e1 (ai @eY (@eZ))))) ?_;try exact trivial);try simp) ⟨_,rfl⟩ ⟨_,rfl⟩⟩
 |1,_=>
  (refine sX (ai @n0 (ai @n1 (ai @e1 (ai @eY (@eZ))))) ?_;try exact trivial)
  repeat'(first|refine bK ?_|((first|refine bL λK hK=> ?_|refine bI ?_|show bC _ _ _ _ _);(refine sX (ai @n0 (ai @n1 (ai @e1 (ai @eY (@eZ))))) ?_;try exact trivial))|(refine kA ?_;clear hK K)|(intro hg;try exact aw)|exact fin|apply ai)
  exact⟨2,ag,ag,aV rfl (by try(refine sX (ai @n0 (ai @n1 (ai @e1 (ai @eY (@eZ))))) ?_;try exact trivial);try simp) ⟨_,rfl⟩ ⟨_,rfl⟩⟩
 |2,_=>
  (refine sX (ai @n0 (ai @n1 (ai @e1 (ai @eY (@eZ))))) ?_;try exact trivial)
  repeat'(first|refine bK ?_|((first|refine bL λK hK=> ?_|refine bI ?_|show bC _ _ _ _ _);(refine sX (ai @n0 (ai @n1 (ai @e1 (ai @eY (@eZ))))) ?_;try exact trivial))|(refine kA ?_;clear hK K)|(intro hg;try exact aw)|exact fin|apply ai)
  all_goals skip
theorem afm (a b:Int):ax ae 347 [ints [a,b]] (i64 (min a b)):=by
 have n0:nth [a,b] 0=a:=rfl;have n1:nth [a,b] 1=b:=rfl;have e1:min a a=a:=ag;refine aR func347 ntmps347 results347 call347 rfl ay λw0 S0 M0=> ?_;repeat'(first|refine bK ?_|((first|refine bL λK hK=> ?_|refine bI ?_|show bC _ _ _ _ _);(refine sX (ai @n0 (ai @n1 (ai @e1 (ai @eY (@eZ))))) ?_;try exact trivial))|(refine kA ?_;clear hK K)|(intro hg;try exact aw)|exact fin|apply ai)
 refine dH (ι:=Nat) (λk=>[(3,i64 (match k with|0=>a|1=>a|_=>min a b)),(9,ints [a,b]),(10,i64 2),(11,i64 k)]) (λ_=>[]) (λ_=>[]) (λk=>k<=2) (λk=>2 - k) (λ_ _=>⟨rfl,rfl⟩) 0 ag (aV rfl (by try(refine sX (ai @n0 (ai @n1 (ai @e1 (ai @eY (@eZ))))) ?_;try exact trivial);try simp) ⟨_,rfl⟩ ⟨_,rfl⟩) (λk hk=> ?_)
 match k,hk with
 |0,_=>
  (refine sX (ai @n0 (ai @n1 (ai @e1 (ai @eY (@eZ))))) ?_;try exact trivial)
  repeat'(first|refine bK ?_|((first|refine bL λK hK=> ?_|refine bI ?_|show bC _ _ _ _ _);(refine sX (ai @n0 (ai @n1 (ai @e1 (ai @eY (@eZ))))) ?_;try exact trivial))|(refine kA ?_;clear hK K)|(intro hg;try exact aw)|exact fin|apply ai)
  exact⟨1,ag,ag,aV rfl (by try(refine sX (ai @n0 (ai @n1 (ai @e1 (ai @eY (@eZ))))) ?_;try exact trivial);try simp) ⟨_,rfl⟩ ⟨_,rfl⟩⟩
 |1,_=>
  (refine sX (ai @n0 (ai @n1 (ai @e1 (ai @eY (@eZ))))) ?_;try exact trivial)
  repeat'(first|refine bK ?_|((first|refine bL λK hK=> ?_|refine bI ?_|show bC _ _ _ _ _);(refine sX (ai @n0 (ai @n1 (ai @e1 (ai @eY (@eZ))))) ?_;try exact trivial))|(refine kA ?_;clear hK K)|(intro hg;try exact aw)|exact fin|apply ai)
  exact⟨2,ag,ag,aV rfl (by try(refine sX (ai @n0 (ai @n1 (ai @e1 (ai @eY (@eZ))))) ?_;try exact trivial);try simp) ⟨_,rfl⟩ ⟨_,rfl⟩⟩
 |2,_=>
  (refine sX (ai @n0 (ai @n1 (ai @e1 (ai @eY (@eZ))))) ?_;try exact trivial)
  repeat'(first|refine bK ?_|((first|refine bL λK hK=> ?_|refine bI ?_|show bC _ _ _ _ _);(refine sX (ai @n0 (ai @n1 (ai @e1 (ai @eY (@eZ))))) ?_;try exact trivial))|(refine kA ?_;clear hK K)|(intro hg;try exact aw)|exact fin|apply ai)
  all_goals skip
theorem Rx (W R a:Int)(hw:1<=W/\W<=6)(ha:0<=a/\a<=29):ax ae 360 [.agg [i64 W,i64 R],i64 a] (i64 (a / W)):=by
 have h1:=zn hw ha;have e1:Int.tdiv a W=a / W:=Int.tdiv_eq_ediv_of_nonneg ha.1;refine aR func360 ntmps360 results360 call360 rfl ay λw0 S0 M0=> ?_;repeat'(first|refine bK ?_|((first|refine bL λK hK=> ?_|refine bI ?_|show bC _ _ _ _ _);(refine sX (@e1) ?_;try exact trivial))|(refine kA ?_;clear hK K)|(intro hg;try exact aw)|exact fin|apply ai)
 all_goals first|omega|skip
theorem RW (W R a:Int)(hw:1<=W/\W<=6)(ha:0<=a/\a<=29):ax ae 361 [.agg [i64 W,i64 R],i64 a] (i64 (a % W)):=by
 have h1:=zn hw ha;have e1:Int.tmod a W=a % W:=Int.tmod_eq_emod_of_nonneg ha.1;refine aR func361 ntmps361 results361 call361 rfl ay λw0 S0 M0=> ?_;repeat'(first|refine bK ?_|((first|refine bL λK hK=> ?_|refine bI ?_|show bC _ _ _ _ _);(refine sX (@e1) ?_;try exact trivial))|(refine kA ?_;clear hK K)|(intro hg;try exact aw)|exact fin|apply ai)
 all_goals first|omega|skip
theorem RU (a b:Int)(ha:0<=a/\a<=1000)(hb:0<=b/\b<=1000):ax ae 359 [i64 a,i64 b] (i64 (max (a - b) (b - a))):=by
 have h1:=QF (a - b) (b - a);refine aR func359 ntmps359 results359 call359 rfl ay λw0 S0 M0=> ?_;repeat'(first|refine aB ?_|refine aC λK hK=> ?_|refine cA (h1) ?_|(refine kA ?_;clear hK K)|(intro hg;try exact aw)|exact fin|apply ai)
 all_goals skip
theorem H8 (W R a b:Int)(hw:1<=W/\W<=6)(ha:0<=a/\a<=29)(hb:0<=b/\b<=29):ax ae 346 [.agg [i64 W,i64 R],i64 a,i64 b] (i64 (nu W a b)):=by
 have h1:=zn hw ha;have h2:=zn hw hb;have c1:=Rx W R a hw ha;have c2:=Rx W R b hw hb;have c3:=RW W R a hw ha;have c4:=RW W R b hw hb;have c5:=RU (a / W) (b / W) ag ag;have c6:=RU (a % W) (b % W) ag ag;have hd:nu W a b=max (a / W - b / W) (b / W - a / W) + max (a % W - b % W) (b % W - a % W):=rfl;rw[hd];generalize a / W=a1 at *;generalize b / W=b1 at *;generalize a % W=a2 at *;generalize b % W=b2 at *;refine aR func346 ntmps346 results346 call346 rfl ay λw0 S0 M0=> ?_;repeat'(first|refine aB ?_|refine aC λK hK=> ?_|refine cA (c1) ?_|refine cA (c2) ?_|refine cA (c3) ?_|refine cA (c4) ?_|refine cA (c5) ?_|refine cA (c6) ?_|(refine kA ?_;clear hK K)|(intro hg;try exact aw)|exact fin|apply ai)
 all_goals skip
def lV (W sl:Int)(S:List dJ)(p:Int):Nat->Int
 |0=>0
 |j + 1=>max (lV W sl S p j) ((nth S j).lo - sl * nu W p (nth S j).p)
def mc (W sl:Int)(S:List dJ)(p:Int):Nat->Int
 |0=>99999
 |j + 1=>min (mc W sl S p j) ((nth S j).hi + sl * nu W p (nth S j).p)
theorem EA {W R:Nat}(hw:1<=W/\W<=6)(hr:1<=R/\R<=5):W * R<=30:=Nat.mul_le_mul hw.2 hr.2
theorem vZ {W R:Nat}{sl:Int}{S:List dJ}(h:jH W R sl S){i:Nat}(hi:i < S.length):0<=(nth S i).p/\(nth S i).p<=29:=by
 have h1:=(h.a i hi).1;have h2:=EA h.w h.r;have h3:(W:Int) * R=((W * R:Nat):Int):=by simp
 omega
theorem Aj {W R:Nat}{sl:Int}{S:List dJ}(h:jH W R sl S){p:Int}(hp:0<=p/\p<=29){i:Nat}(hi:i < S.length):0<=sl * nu W p (nth S i).p/\sl * nu W p (nth S i).p<=5000 * 34:=by
 have h1:=Eb (W:=W) (a:=p) (b:=(nth S i).p) (by have:=h.w;omega) hp (vZ h hi);exact ZE h.s.1 h.s.2 h1.1 h1.2
theorem Gf {W R:Nat}{sl:Int}{S:List dJ}(h:jH W R sl S){p:Int}(hp:0<=p/\p<=29):∀j,j<=S.length->0<=lV W sl S p j/\lV W sl S p j<=99999
 |0,_=>by simp[lV]
 |j + 1,hj=>by
  have h1:=Gf h hp j ag;have h2:=Aj h hp (i:=j) ag;have h3:=(h.a j ag).2;simp only[lV];omega
theorem Hf {W R:Nat}{sl:Int}{S:List dJ}(h:jH W R sl S){p:Int}(hp:0<=p/\p<=29):∀j,j<=S.length->0<=mc W sl S p j/\mc W sl S p j<=99999
 |0,_=>by simp[mc]
 |j + 1,hj=>by
  have h1:=Hf h hp j ag;have h2:=Aj h hp (i:=j) ag;have h3:=(h.a j ag).2;simp only[mc];omega
theorem afj (W R:Nat)(sl:Int)(S:List dJ)(h:jH W R sl S)(p:Int)(hp:0<=p/\p<=29):ax ae 316 [.agg (iG W R sl S),i64 p] (i64 (lV W sl S p S.length)):=by
 have hn:=h.n;refine aR func316 ntmps316 results316 call316 rfl ay λw0 S0 M0=> ?_;repeat'(first|refine aB ?_|refine aC λK hK=> ?_|(refine kA ?_;clear hK K)|(intro hg;try exact aw)|exact fin|apply ai)
 refine dH (ι:=Nat) (λj=>[(1,i64 p),(2, .box 0 0),(5,i64 (lV W sl S p j)),(10, .list (S.map ft)),(11,i64 S.length),(12,i64 j)]) (λ_=>[.mu (iG W R sl S)]) (λ_=>[]) (λj=>j<=S.length) (λj=>S.length - j) (λ_ _=>⟨rfl,rfl⟩) 0 (cv _) (aV rfl (by try(refine av ?_;try exact trivial);try simp[lV]) ⟨_,rfl⟩ ⟨_,rfl⟩) (λj hj=> ?_);have hb:=Gf h hp j hj;by_cases aU:j < S.length
 ·have h2:=Aj h hp aU;have h3:=(h.a j aU).2;have h4:=Eb (W:=W) (a:=p) (b:=(nth S j).p) (by have:=h.w;omega) hp (vZ h aU);have c1:=H8 W R p (nth S j).p (by have:=h.w;omega) hp (vZ h aU);have c2:=QF (lV W sl S p j) ((nth S j).lo - sl * nu W p (nth S j).p);have e1:lV W sl S p (j + 1)=max (lV W sl S p j) ((nth S j).lo - sl * nu W p (nth S j).p):=rfl
  (refine av ?_;try exact trivial)
  repeat'(first|refine aB ?_|refine aC λK hK=> ?_|refine cA (c1) ?_|refine cA (c2) ?_|(refine kA ?_;clear hK K)|(intro hg;try exact aw)|exact fin|apply ai)
  all_goals first|exact⟨j + 1,ag,ag,aV rfl (by try(refine av ?_;try exact trivial);try simp[e1]) ⟨_,rfl⟩ ⟨_,rfl⟩⟩|skip
 ·obtain rfl:j=S.length:=ag
  (refine av ?_;try exact trivial)
  repeat'(first|refine aB ?_|refine aC λK hK=> ?_|(refine kA ?_;clear hK K)|(intro hg;try exact aw)|exact fin|apply ai)
  all_goals skip
theorem afq (W R:Nat)(sl:Int)(S:List dJ)(h:jH W R sl S)(p:Int)(hp:0<=p/\p<=29):ax ae 317 [.agg (iG W R sl S),i64 p] (i64 (mc W sl S p S.length)):=by
 have hn:=h.n;refine aR func317 ntmps317 results317 call317 rfl ay λw0 S0 M0=> ?_;repeat'(first|refine aB ?_|refine aC λK hK=> ?_|(refine kA ?_;clear hK K)|(intro hg;try exact aw)|exact fin|apply ai)
 refine dH (ι:=Nat) (λj=>[(1,i64 p),(2, .box 0 0),(5,i64 (mc W sl S p j)),(10, .list (S.map ft)),(11,i64 S.length),(12,i64 j)]) (λ_=>[.mu (iG W R sl S)]) (λ_=>[]) (λj=>j<=S.length) (λj=>S.length - j) (λ_ _=>⟨rfl,rfl⟩) 0 (cv _) (aV rfl (by try(refine av ?_;try exact trivial);try simp[mc]) ⟨_,rfl⟩ ⟨_,rfl⟩) (λj hj=> ?_);have hb:=Hf h hp j hj;by_cases aU:j < S.length
 ·have h2:=Aj h hp aU;have h3:=(h.a j aU).2;have h4:=Eb (W:=W) (a:=p) (b:=(nth S j).p) (by have:=h.w;omega) hp (vZ h aU);have c1:=H8 W R p (nth S j).p (by have:=h.w;omega) hp (vZ h aU);have c2:=afm (mc W sl S p j) ((nth S j).hi + sl * nu W p (nth S j).p);have e1:mc W sl S p (j + 1)=min (mc W sl S p j) ((nth S j).hi + sl * nu W p (nth S j).p):=rfl
  (refine av ?_;try exact trivial)
  repeat'(first|refine aB ?_|refine aC λK hK=> ?_|refine cA (c1) ?_|refine cA (c2) ?_|(refine kA ?_;clear hK K)|(intro hg;try exact aw)|exact fin|apply ai)
  all_goals first|exact⟨j + 1,ag,ag,aV rfl (by try(refine av ?_;try exact trivial);try simp[e1]) ⟨_,rfl⟩ ⟨_,rfl⟩⟩|skip
 ·obtain rfl:j=S.length:=ag
  (refine av ?_;try exact trivial)
  repeat'(first|refine aB ?_|refine aC λK hK=> ?_|(refine kA ?_;clear hK K)|(intro hg;try exact aw)|exact fin|apply ai)
  all_goals skip
def rb (W sl:Int)(S:List dJ):Prop:=∀i k,i < k->k < S.length->(nth S i).lo - sl * nu W (nth S i).p (nth S k).p<=(nth S k).hi/\(nth S k).lo - sl * nu W (nth S i).p (nth S k).p<=(nth S i).hi
theorem afI (W R:Nat)(sl:Int)(S:List dJ)(h:jH W R sl S)(hc:rb W sl S)(i k:Nat)(tq:i < k)(hk:k < S.length):ax ae 344 [.agg (iG W R sl S),ft (nth S i),ft (nth S k)] (.bool false):=by
 have h1:=vZ h (i:=i) ag;have h2:=vZ h hk;have c1:=H8 W R (nth S i).p (nth S k).p (by have:=h.w;omega) h1 h2;have h3:=hc i k tq hk;have h4:=Aj h h1 hk;have h5:=(h.a i ag).2;have h6:=(h.a k hk).2;have h7:=Eb (W:=W) (a:=(nth S i).p) (b:=(nth S k).p) (by have:=h.w;omega) h1 h2;refine aR func344 ntmps344 results344 call344 rfl ay λw0 S0 M0=> ?_;repeat'(first|refine aB ?_|refine aC λK hK=> ?_|refine cA (c1) ?_|(refine kA ?_;clear hK K)|(intro hg;try exact aw)|exact fin|apply ai)
 all_goals(rw[decide_eq_false ag])
theorem afG (W R:Nat)(sl:Int)(S:List dJ)(h:jH W R sl S)(hc:rb W sl S):ax ae 315 [.agg (iG W R sl S)] (.aQ [i64 0,i64 0, .bool false]):=by
 have hn:=h.n;refine aR func315 ntmps315 results315 call315 rfl ay λw0 S0 M0=> ?_;repeat'(first|refine aB ?_|refine aC λK hK=> ?_|(refine kA ?_;clear hK K)|(intro hg;try exact aw)|exact fin|apply ai)
 refine dH (ι:=Nat) (λi=>[(1, .box 0 0),(10, .list (S.map ft)),(11,i64 S.length),(12,i64 i)]) (λ_=>[.mu (iG W R sl S)]) (λ_=>[]) (λi=>i<=S.length) (λi=>S.length - i) (λ_ _=>⟨rfl,rfl⟩) 0 (cv _) (aV rfl (by try(refine av ?_;try exact trivial);try simp) ⟨_,rfl⟩ ⟨_,rfl⟩) (λi hi=> ?_);by_cases aU:i < S.length
 ·(refine av ?_;try exact trivial)
  repeat'(first|refine aB ?_|refine aC λK hK=> ?_|(refine kA ?_;clear hK K)|(intro hg;try exact aw)|exact fin|apply ai)
  refine dH (ι:=Nat) (λk=>[(1, .box 0 0),(5,i64 i),(6, .box 1 0),(7,i64 k),(10, .list (S.map ft)),(11,i64 S.length),(12,i64 i)]) (λ_=>[.mu (iG W R sl S), .mu [i64 (nth S i).p,i64 (nth S i).lo,i64 (nth S i).hi]]) (λ_=>[]) (λk=>i < k/\k<=S.length) (λk=>S.length - k) (λ_ _=>⟨rfl,rfl⟩) (i + 1) ⟨ag,ag⟩ (aV rfl (by try(refine av ?_;try exact trivial);try simp) ⟨_,rfl⟩ ⟨_,rfl⟩) (λk ⟨ba,hk⟩=> ?_);by_cases hkt:k < S.length
  ·have c1:=afI W R sl S h hc i k ba hkt
   (refine av ?_;try exact trivial)
   repeat'(first|refine aB ?_|refine aC λK hK=> ?_|refine cA (c1) ?_|(refine kA ?_;clear hK K)|(intro hg;try exact aw)|exact fin|apply ai)
   all_goals first|exact⟨k + 1,⟨ag,ag⟩,ag,aV rfl (by try(refine av ?_;try exact trivial);try simp) ⟨_,rfl⟩ ⟨_,rfl⟩⟩|skip
  ·obtain rfl:k=S.length:=ag
   (refine av ?_;try exact trivial)
   repeat'(first|refine aB ?_|refine aC λK hK=> ?_|(refine kA ?_;clear hK K)|(intro hg;try exact aw)|exact fin|apply ai)
   all_goals first|exact⟨i + 1,ag,ag,aV rfl (by try(refine av ?_;try exact trivial);try simp) ⟨_,rfl⟩ ⟨_,rfl⟩⟩|skip
 ·obtain rfl:i=S.length:=ag
  (refine av ?_;try exact trivial)
  repeat'(first|refine aB ?_|refine aC λK hK=> ?_|(refine kA ?_;clear hK K)|(intro hg;try exact aw)|exact fin|apply ai)
  all_goals rfl
theorem aeF (W R:Nat)(sl:Int)(S:List dJ)(h:jH W R sl S)(i:Nat)(hi:i < S.length):ax ae 176 [ft (nth S i), .ro (eQ W R sl S)] (.bool false):=by
 have h1:=(h.a i hi);have h2:=EA h.w h.r;have h3:(W:Int) * R=((W * R:Nat):Int):=by simp
 have c1:ax ae 174 [i64 (nth S i).p,i64 0,i64 ((W:Int) * R - 1)] (.bool true):=by have:=El (nth S i).p 0 ((W:Int) * R - 1);rwa [decide_eq_true h1.1]at this
 refine aR func176 ntmps176 results176 call176 rfl ay λw0 S0 M0=> ?_;repeat'(first|refine aB ?_|refine aC λK hK=> ?_|refine cA (c1) ?_|(refine kA ?_;clear hK K)|(intro hg;try exact aw)|exact fin|apply ai)
 all_goals(rw[decide_eq_false ag])
theorem afu (W R:Nat)(sl:Int)(S:List dJ)(h:jH W R sl S):ax ae 175 [.list (S.map ft), .aD 176 [.ro (eQ W R sl S)]] (.aQ [.agg [i64 0,i64 0,i64 0], .bool false]):=by
 have hn:=h.n;refine aR func175 ntmps175 results175 call175 rfl ay λw0 S0 M0=> ?_;repeat'(first|refine aB ?_|refine aC λK hK=> ?_|(refine kA ?_;clear hK K)|(intro hg;try exact aw)|exact fin|apply ai)
 refine dH (ι:=Nat) (λi=>[(1, .aD 176 [.ro (eQ W R sl S)]),(4, .box 0 0),(9, .list (S.map ft)),(10,i64 S.length),(11,i64 i)]) (λ_=>[.mu [i64 0,i64 0,i64 0]]) (λ_=>[]) (λi=>i<=S.length) (λi=>S.length - i) (λ_ _=>⟨rfl,rfl⟩) 0 (cv _) (aV rfl (by try(refine av ?_;try exact trivial);try simp) ⟨_,rfl⟩ ⟨_,rfl⟩) (λi hi=> ?_);by_cases aU:i < S.length
 ·have c1:=aeF W R sl S h i aU
  (refine av ?_;try exact trivial)
  repeat'(first|refine aB ?_|refine aC λK hK=> ?_|refine cA (c1) ?_|(refine kA ?_;clear hK K)|(intro hg;try exact aw)|exact fin|apply ai)
  all_goals first|exact⟨i + 1,ag,ag,aV rfl (by try(refine av ?_;try exact trivial);try simp) ⟨_,rfl⟩ ⟨_,rfl⟩⟩|skip
 ·obtain rfl:i=S.length:=ag
  (refine av ?_;try exact trivial)
  repeat'(first|refine aB ?_|refine aC λK hK=> ?_|(refine kA ?_;clear hK K)|(intro hg;try exact aw)|exact fin|apply ai)
  all_goals rfl
theorem Rt (W R:Nat)(sl:Int)(S:List dJ)(h:jH W R sl S):ax ae 130 [.agg (eQ W R sl S)] (.bool true):=by
 have hn:=h.n;have hw:=h.w;have hr:=h.r;have hs:=h.s;have c1:ax ae 174 [i64 W,i64 1,i64 6] (.bool true):=by have:=El W 1 6;rwa [decide_eq_true ag]at this
 have c2:ax ae 174 [i64 R,i64 1,i64 5] (.bool true):=by have:=El R 1 5;rwa [decide_eq_true ag]at this
 have c3:ax ae 174 [i64 sl,i64 0,i64 5000] (.bool true):=by have:=El sl 0 5000;rwa [decide_eq_true ag]at this
 have c4:=afu W R sl S h;refine aR func130 ntmps130 results130 call130 rfl ay λw0 S0 M0=> ?_;repeat'(first|(refine ou 0 _ _ rfl rfl ?_;simp only[bF,Nat.reduceAdd])|refine aB ?_|refine aC λK hK=> ?_|refine cA (c1) ?_|refine cA (c2) ?_|refine cA (c3) ?_|refine cA (c4) ?_|(refine kA ?_;clear hK K)|(intro hg;try exact aw)|exact fin|apply ai)
 all_goals rfl
theorem afk (W R:Nat)(sl:Int)(S:List dJ):ax ae 314 [.agg (eQ W R sl S)] (.agg (iG W R sl S)):=by
 refine aR func314 ntmps314 results314 call314 rfl ay λw0 S0 M0=> ?_;repeat'(first|refine aB ?_|refine aC λK hK=> ?_|(refine kA ?_;clear hK K)|(intro hg;try exact aw)|exact fin|apply ai)
 all_goals rfl
theorem afR (d:List D)(hd:d.all D.one=true):ax ae 298 [.agg d] (.bool true):=by
 refine aR func298 ntmps298 results298 call298 rfl ay λw0 S0 M0=> ?_;repeat'(first|refine aB ?_|refine aC λK hK=> ?_|(refine kA ?_;clear hK K)|(intro hg;try exact aw)|exact fin|apply ai)
 all_goals first|rfl|exact hd|skip
theorem aeK (W R:Nat)(sl:Int)(S:List dJ)(h:jH W R sl S)(hc:rb W sl S):ax ae 297 [.agg (eQ W R sl S), .aD 298 []] (.aQ [.agg (iG W R sl S),i64 0]):=by
 have c1:=Rt W R sl S h;have c2:=afk W R sl S;have c3:=afR (iG W R sl S) rfl;have c4:=afG W R sl S h hc;refine aR func297 ntmps297 results297 call297 rfl ay λw0 S0 M0=> ?_;repeat'(first|refine aB ?_|refine aC λK hK=> ?_|refine cA (c1) ?_|refine cA (c2) ?_|refine cA (c3) ?_|refine cA (c4) ?_|(refine kA ?_;clear hK K)|(intro hg;try exact aw)|exact fin|apply ai)
 all_goals rfl
abbrev nT (W sl:Int)(S:List dJ)(n:Nat):List D:=(List.range n).map λ(q:Nat)=>i64 (lV W sl S q S.length)
abbrev qS (W sl:Int)(S:List dJ)(n:Nat):List D:=(List.range n).map λ(q:Nat)=>i64 (mc W sl S q S.length)
def C9:Nat->List D
 |0=>[.val (.slice none 0 0), .val (.slice none 0 0)]
 |1=>[.own 0, .val (.slice none 0 0)]
 |_=>[.own 0, .own 1]
def CV (W sl:Int)(S:List dJ)(n:Nat):Nat->List Row
 |0=>[]
 |1=>[⟨true,3,1,nT W sl S n⟩]
 |_=>[⟨true,3,1,nT W sl S n⟩,⟨true,3,1,qS W sl S n⟩]
theorem ZV (W sl:Int)(S:List dJ)(n:Nat):nT W sl S (n + 1)=nT W sl S n++[i64 (lV W sl S n S.length)]:=by unfold nT;rw[List.range_succ,List.map_append];rfl
theorem abR (W sl:Int)(S:List dJ)(n:Nat):qS W sl S (n + 1)=qS W sl S n++[i64 (mc W sl S n S.length)]:=by unfold qS;rw[List.range_succ,List.map_append];rfl
theorem afF (W R:Nat)(sl:Int)(S:List dJ)(h:jH W R sl S):ax ae 299 [.agg (iG W R sl S)] (.agg [.list (nT W sl S (W * R)), .list (qS W sl S (W * R))]):=by
 have hn:=h.n;have hw:=h.w;have hr:=h.r;have h2:=EA h.w h.r;have h3:(W:Int) * R=((W * R:Nat):Int):=by simp
 refine aR func299 ntmps299 results299 call299 rfl ay λw0 S0 M0=> ?_;repeat'(first|refine bK ?_|((first|refine bL λK hK=> ?_|refine bI ?_|show bC _ _ _ _ _);(refine sX (@h3) ?_;try exact trivial))|(refine kA ?_;clear hK K)|(intro hg;try exact aw)|exact fin|apply ai)
 refine dH (ι:=Nat) (λi=>[(1, .box 0 0),(2, .box 1 0),(3, .box 2 0),(12, .agg [.dq 316 [.agg (iG W R sl S)], .dq 317 [.agg (iG W R sl S)]]),(13,i64 i)]) (λi=>[.mu (iG W R sl S), .mu [.val (.slice none 0 0), .val (.slice none 0 0)], .mu (C9 i)]) (λi=>CV W sl S (W * R) i)
  (λi=>i<=2) (λi=>2 - i) (λi hi=>by match i,hi with|0,_=>exact⟨rfl,rfl⟩|1,_=>exact⟨rfl,rfl⟩|2,_=>exact⟨rfl,rfl⟩) 0 ag (aV rfl (by try(refine sX (@h3) ?_;try exact trivial);try simp) ⟨_,rfl⟩ ⟨_,rfl⟩) (λi hi=> ?_)
 match i,hi with
 |0,_=>
  have e0:C9 0=[.val (.slice none 0 0), .val (.slice none 0 0)]:=rfl;have e1:CV W sl S (W * R) 0=[]:=rfl;rw[e0,e1]
  (refine sX (ai @h3 (@eY)) ?_;try exact trivial)
  repeat'(first|refine bK ?_|((first|refine bL λK hK=> ?_|refine bI ?_|show bC _ _ _ _ _);(refine sX (ai @h3 (@eY)) ?_;try exact trivial))|(refine kA ?_;clear hK K)|(intro hg;try exact aw)|exact fin|apply ai)
  refine tO 2 0 3 1 _ rfl rfl ?_;refine dH (ι:=Nat) (λp=>[(1, .box 0 0),(2, .box 1 0),(3, .box 2 0),(4,i64 0),(5, .dq 316 [.agg (iG W R sl S)]),(12, .agg [.dq 316 [.agg (iG W R sl S)], .dq 317 [.agg (iG W R sl S)]]),(13,i64 0),(23,i64 (W * R:Nat)),(24,i64 p)]) (λ_=>[.mu (iG W R sl S), .mu [.val (.slice none 0 0), .val (.slice none 0 0)], .mu [.own 0, .val (.slice none 0 0)]]) (λp=>[⟨true,3,1,nT W sl S p⟩])
   (λp=>p<=W * R) (λp=>W * R - p) (λ_ _=>⟨rfl,rfl⟩) 0 (cv _) (aV rfl (by try(refine sX (ai @h3 (@eY)) ?_;try exact trivial);try simp) ⟨_,rfl⟩ ⟨_,rfl⟩) (λp hp=> ?_)
  by_cases aU:p < W * R
  ·have c1:=afj W R sl S h p ag;have hl:(nT W sl S p).length=p:=by simp
   have hs:=ZV W sl S p;generalize nT W sl S p=xs at *
   (refine sX (ai @h3 (@eY)) ?_;try exact trivial)
   repeat'(first|refine bK ?_|((first|refine bL λK hK=> ?_|refine bI ?_|show bC _ _ _ _ _|refine bl (c1) ?_);(refine sX (ai @h3 (@eY)) ?_;try exact trivial))|(refine kA ?_;clear hK K)|(intro hg;try exact aw)|exact fin|apply ai)
   all_goals first|exact⟨p + 1,ag,ag,aV rfl (by try(refine sX (ai @h3 (@eY)) ?_;try exact trivial);try simp) ⟨_,rfl⟩ ⟨[],by simp[hs]⟩⟩|skip
  ·obtain rfl:p=W * R:=ag
   (refine sX (ai @h3 (@eY)) ?_;try exact trivial)
   repeat'(first|refine bK ?_|((first|refine bL λK hK=> ?_|refine bI ?_|show bC _ _ _ _ _);(refine sX (ai @h3 (@eY)) ?_;try exact trivial))|(refine kA ?_;clear hK K)|(intro hg;try exact aw)|exact fin|apply ai)
   all_goals first|exact⟨1,ag,ag,aV rfl (by try(refine sX (ai @h3 (@eY)) ?_;try exact trivial);try simp) ⟨_,rfl⟩ ⟨_,rfl⟩⟩|skip
 |1,_=>
  have e0:C9 1=[.own 0, .val (.slice none 0 0)]:=rfl;have e1:CV W sl S (W * R) 1=[⟨true,3,1,nT W sl S (W * R)⟩]:=rfl;rw[e0,e1];generalize j7:nT W sl S (W * R)=ys at *
  (refine sX (ai @h3 (@eZ)) ?_;try exact trivial)
  repeat'(first|refine bK ?_|((first|refine bL λK hK=> ?_|refine bI ?_|show bC _ _ _ _ _);(refine sX (ai @h3 (@eZ)) ?_;try exact trivial))|(refine kA ?_;clear hK K)|(intro hg;try exact aw)|exact fin|apply ai)
  refine tO 2 1 3 1 _ rfl rfl ?_;refine dH (ι:=Nat) (λp=>[(1, .box 0 0),(2, .box 1 0),(3, .box 2 0),(4,i64 1),(5, .dq 317 [.agg (iG W R sl S)]),(12, .agg [.dq 316 [.agg (iG W R sl S)], .dq 317 [.agg (iG W R sl S)]]),(13,i64 1),(23,i64 (W * R:Nat)),(24,i64 p)]) (λ_=>[.mu (iG W R sl S), .mu [.val (.slice none 0 0), .val (.slice none 0 0)], .mu [.own 0, .own 1]]) (λp=>[⟨true,3,1,ys⟩,⟨true,3,1,qS W sl S p⟩])
   (λp=>p<=W * R) (λp=>W * R - p) (λ_ _=>⟨rfl,rfl⟩) 0 (cv _) (aV rfl (by try(refine sX (ai @h3 (@eZ)) ?_;try exact trivial);try simp) ⟨_,rfl⟩ ⟨_,rfl⟩) (λp hp=> ?_)
  by_cases aU:p < W * R
  ·have c1:=afq W R sl S h p ag;have hl:(qS W sl S p).length=p:=by simp
   have hs:=abR W sl S p;generalize qS W sl S p=xs at *
   (refine sX (ai @h3 (@eZ)) ?_;try exact trivial)
   repeat'(first|refine bK ?_|((first|refine bL λK hK=> ?_|refine bI ?_|show bC _ _ _ _ _|refine bl (c1) ?_);(refine sX (ai @h3 (@eZ)) ?_;try exact trivial))|(refine kA ?_;clear hK K)|(intro hg;try exact aw)|exact fin|apply ai)
   all_goals first|exact⟨p + 1,ag,ag,aV rfl (by try(refine sX (ai @h3 (@eZ)) ?_;try exact trivial);try simp) ⟨_,rfl⟩ ⟨[],by simp[hs]⟩⟩|skip
  ·obtain rfl:p=W * R:=ag
   (refine sX (ai @h3 (@eZ)) ?_;try exact trivial)
   repeat'(first|refine bK ?_|((first|refine bL λK hK=> ?_|refine bI ?_|show bC _ _ _ _ _);(refine sX (ai @h3 (@eZ)) ?_;try exact trivial))|(refine kA ?_;clear hK K)|(intro hg;try exact aw)|exact fin|apply ai)
   all_goals first|exact⟨2,ag,ag,aV rfl (by try(refine sX (ai @h3 (@eZ)) ?_;try exact trivial);try simp) ⟨_,rfl⟩ ⟨[],by subst j7;rfl⟩⟩|skip
 |2,_=>
  have e0:C9 2=[.own 0, .own 1]:=rfl;have e1:CV W sl S (W * R) 2=[⟨true,3,1,nT W sl S (W * R)⟩,⟨true,3,1,qS W sl S (W * R)⟩]:=rfl;rw[e0,e1]
  (refine sX (@h3) ?_;try exact trivial)
  repeat'(first|refine bK ?_|((first|refine bL λK hK=> ?_|refine bI ?_|show bC _ _ _ _ _);(refine sX (@h3) ?_;try exact trivial))|(refine kA ?_;clear hK K)|(intro hg;try exact aw)|exact fin|apply ai)
  all_goals skip
end Go.Proofs.YtopobgihpdaggaaGreatDoor
namespace Go.Proofs.YtopobgihpdaggaaGreatDoor
set_option maxRecDepth 100000
set_option maxHeartbeats 4000000
open Go.Ab
attribute[local irreducible] az dI dR ax
theorem ade (a b:Int)(h1:0<=a/\a<=400)(h2:0<=b/\b<=400):ax ae 107 [i64 a,i64 b] (i64 (max (a - b) (b - a))):=by
 refine aR func107 ntmps107 results107 call107 rfl ay λw0 S0 M0=> ?_;repeat'(first|refine aB ?_|refine aC λK hK=> ?_|(refine kA ?_;clear hK K)|(intro hg;try exact aw)|exact fin|apply ai)
theorem Wc (s:cg)(hl:s.ck.length<=9223372036854775807):ax ae 14 [iP s] (.bool (decide (fb s))):=by
 refine aR func14 ntmps14 results14 call14 rfl ay λw0 S0 M0=> ?_;repeat'(first|refine aB ?_|refine aC λK hK=> ?_|(refine kA ?_;clear hK K)|(intro hg;try exact aw)|exact fin|apply ai)
 refine dH (ι:=Nat) (λj=>[(1, .box 0 0),(3,i64 j)]) (λ_=>[.mu (Ah s)]) (λ_=>[])
  (λj=>j<=s.ck.length/\∀i,i < j->rj (nth s.ck i)) (λj=>s.ck.length - j) (λ_ _=>⟨rfl,rfl⟩) 0 ⟨cv _,λi h=>absurd h (fD i)⟩ (aV rfl (by try(refine av ?_;try exact trivial);try simp) ⟨_,rfl⟩ ⟨_,rfl⟩) (λj ⟨hj,hi⟩=> ?_)
 (refine av ?_;try exact trivial)
 repeat'(first|refine aB ?_|refine aC λK hK=> ?_|refine cA (aeD _) ?_|refine cA (uM _ _ _) ?_|refine cA (WU _ _ _ _) ?_|(refine kA ?_;clear hK K)|(intro hg;try exact aw)|exact fin|apply ai)
 ·rw[decide_eq_false (Fx (j:=j) ag λh=>hg h.2)]
 ·refine⟨j + 1,⟨ag,λi h=> ?_⟩,ag,aV rfl (by try(refine av ?_;try exact trivial);try simp) ⟨_,rfl⟩ ⟨_,rfl⟩⟩;by_cases h9:i=j
  ·rw[h9];exact⟨by assumption,hg⟩
  ·exact hi i ag
 ·rw[decide_eq_false (Fx (j:=j) ag λh=>hg h.1)]
 all_goals(
  have h9:(∀i,i < s.ck.length->rj (nth s.ck i))=True:=eq_true λi h=>hi i ag;refine gi ?_;simp only[decide_eq_true_eq,Bool.false_eq_true,false_iff,iff_false,true_iff,iff_true,Fy,h9,and_true];simp only[gw]at *;omega)
theorem XO (a b:Int)(h1:0<=a/\a<=400)(h2:0<=b/\b<=400):ax ae 107 [i64 a,i64 b] (i64 (fK a b)):=ade a b h1 h2
theorem afa (s:cg)(hs:fb s)(i k:Nat)(hi:i < s.ck.length)(hk:k < s.ck.length):ax ae 78 [iP s,i64 i,i64 k] (.bool (decide (lf s i k))):=by
 have hl:=hs.n;have nd:=hs.d;have c1:=hs.c i hi;have c2:=hs.c k hk;have b1:=kv nd.1 nd.2 (zh c1.1 c2.1).1 (zh c1.1 c2.1).2;have b5: -2000<=(nth s.ck i).lo/\(nth s.ck i).lo<=(nth s.ck i).hi/\(nth s.ck i).hi<=2000:=c1.2;have b6: -2000<=(nth s.ck k).lo/\(nth s.ck k).lo<=(nth s.ck k).hi/\(nth s.ck k).hi<=2000:=c2.2;refine aR func78 ntmps78 results78 call78 rfl ay λw0 S0 M0=> ?_;repeat'(first|refine aB ?_|((first|(show az _ (.region 1 _ true) _ _;refine B9 [(9,7),(9,8),(12,7),(12,8),(14,7),(14,8),(17,7),(17,8),(8,7),(7,8)] [0,1,2,3,4,5,6,7,8,9] 10 11 [12,13] Tryz.ty.mixed aj λK hK=> ?_)|show Sep _ _);refine av ?_)|refine aC λK hK=> ?_|refine cA (XO _ _ c1.1 c2.1) ?_|(refine kA ?_;clear hK K)|(show ra _ _;refine FC rfl ?_ ?_ rfl)|(show tR _ _;first|refine FA|refine Fz ?_ ?_)|(show @Eq D _ _;(refine av ?_;try exact trivial);done)|(show @Eq (List Bx) _ _;(refine av ?_;try exact trivial);done)|(intro hg;try exact aw)|exact fin|apply ai)
 ·exact gi (decide_eq_true_iff.trans (decide_eq_true_iff (p:=lf s i k)).symm)
theorem N0 (s:cg)(hs:fb s):ax ae 40 [iP s] (zr s):=by
 have hl:=hs.n;refine aR func40 ntmps40 results40 call40 rfl ay λw0 S0 M0=> ?_;repeat'(first|refine aB ?_|refine aC λK hK=> ?_|(refine kA ?_;clear hK K)|(intro hg;try exact aw)|exact fin|apply ai)
 refine dH (ι:=Nat) (λj=>[(1, .box 0 0),(5,i64 j)]) (λ_=>[.mu (Ah s)]) (λ_=>[])
  (λj=>j<=s.ck.length/\∀a b,a < b->b < s.ck.length->a < j->¬lf s a b) (λj=>s.ck.length - j) (λ_ _=>⟨rfl,rfl⟩) 0 ⟨cv _,λa b _ _ h=>absurd h (fD a)⟩ (aV rfl (by try(refine av ?_;try exact trivial);try simp) ⟨_,rfl⟩ ⟨_,rfl⟩) (λj ⟨hj,hi⟩=> ?_)
 (refine av ?_;try exact trivial)
 repeat'(first|refine aB ?_|refine aC λK hK=> ?_|(refine kA ?_;clear hK K)|(intro hg;try exact aw)|exact fin|apply ai)
 ·refine dH (ι:=Nat) (λk=>[(1, .box 0 0),(5,i64 j),(6,i64 k)]) (λ_=>[.mu (Ah s)]) (λ_=>[])
   (λk=>j < k/\k<=s.ck.length/\∀b,j < b->b < k->¬lf s j b) (λk=>s.ck.length - k) (λ_ _=>⟨rfl,rfl⟩) (j + 1) ⟨ag,ag,λb h1 h2=>by omega⟩ (aV rfl (by try(refine av ?_;try exact trivial);try simp) ⟨_,rfl⟩ ⟨_,rfl⟩) (λk ⟨tn,hk,hb⟩=> ?_)
  (refine av ?_;try exact trivial)
  repeat'(first|refine aB ?_|refine aC λK hK=> ?_|refine cA (afa s hs j k ag ag) ?_|(refine kA ?_;clear hK K)|(intro hg;try exact aw)|exact fin|apply ai)
  ·refine(Ej ⟨tn,ag,hg,λa b h1 h2 h3=> ?_⟩).symm;rcases h3 with h3|⟨rfl,h3⟩
   ·exact hi a b h1 h2 h3
   ·exact hb b h1 h3
  ·refine⟨k + 1,⟨ag,ag,λb h1 h2=> ?_⟩,ag,aV rfl (by try(refine av ?_;try exact trivial);try simp) ⟨_,rfl⟩ ⟨_,rfl⟩⟩;by_cases h9:b=k
   ·rw[h9];exact hg
   ·exact hb b h1 ag
  all_goals try refine⟨j + 1,⟨ag,λa b h1 h2 h3=> ?_⟩,ag,aV rfl (by try(refine av ?_;try exact trivial);try simp) ⟨_,rfl⟩ ⟨_,rfl⟩⟩
  rcases Nat.lt_or_eq_of_le (Nat.le_of_lt_succ h3)with h4|h4
  ·exact hi a b h1 h2 h4
  ·subst h4;exact hb b h1 ag
 ·refine(Ek λa b h1 h2=>hi a b h1 h2 ag).symm
theorem Yu (s:cg)(hs:fb s):ax ae 15 [iP s] (.bool (decide (jc s))):=by
 rcases RO s with h|⟨i,k,h⟩
 ·rw[decide_eq_true h];have hc:ax ae 40 [iP s] (.aQ [i64 0,i64 0, .bool false]):=Ek h▸N0 s hs;refine aR func15 ntmps15 results15 call15 rfl ay λw0 S0 M0=> ?_;repeat'(first|refine aB ?_|refine aC λK hK=> ?_|refine cA (hc) ?_|(refine kA ?_;clear hK K)|(intro hg;try exact aw)|exact fin|apply ai)
 ·rw[decide_eq_false h.no];have hc:ax ae 40 [iP s] (.aQ [i64 i,i64 k, .bool true]):=Ej h▸N0 s hs;refine aR func15 ntmps15 results15 call15 rfl ay λw0 S0 M0=> ?_;repeat'(first|refine aB ?_|refine aC λK hK=> ?_|refine cA (hc) ?_|(refine kA ?_;clear hK K)|(intro hg;try exact aw)|exact fin|apply ai)
end Go.Proofs.YtopobgihpdaggaaGreatDoor
