import Derived.Test.YtafmfhkplgapjaaGreatDoorZ14
import Derived.Lib.ConvBytes
import Derived.Lib.AppendStr
import Derived.Test.YtafmfhkplgapjaaGreatDoorTie
import Derived.ProofKit
import Derived.ReadAgain
import Derived.Deep.Slices
import Derived.Deep.Strs
import Derived.LaidMore
import Derived.Lay
import Derived.OpenShut
import Derived.Stop.Joined
import Derived.JoinedOf
import Derived.KernelRfl
set_option linter.unusedVariables false
set_option linter.unusedSimpArgs false
open And renaming intro->af
open Array renaming getD_eq_getD_getElem?->lJ,getElem?_eq_some_iff->bt,getElem?_modify->tE,getElem?_push->Cy,getElem?_toList->FY,length_toList->JM
open Bool renaming and_eq_true->c_,and_true->yg,false_eq_true->bK
open ByteArray renaming data_append->OY,mk->gJ,size_append->OX
open Go.DataW renaming Trod->sC,TrodAll->FT
open Go renaming undef->bp
open Go.Lib renaming byteCells->wa,bytesCells->FE,strCells->zY
open List renaming append_assoc->kK,append_nil->eu,foldr->e_,getD_eq_getElem?_getD->ic,getElem?_append_left->bQ,getElem?_append_right->dX,getElem?_eq_getElem->bS,getElem?_eq_some_iff->aQ,getElem?_map->cO,length_append->eQ,length_replicate->uL,map_cons->ib,map_map->tA,map_nil->nz,mem_append->fA,mem_append_right->alI,mem_cons->eK,mem_cons_of_mem->dW,mem_cons_self->dI,mem_map->eJ,mem_of_getElem?->ey,mem_range->oR,mem_replicate->rv,not_mem_nil->ny,range->ct,replicate->cD
open Nat renaming add_sub_cancel_left->OJ,le_refl->aY,lt_or_ge->ft,mul_comm->OI,zero_le->bD
open Option.some renaming inj->iA,injEq->gE
open Subtype renaming val->Cd
open Go.Proofs.Tryz renaming f3->iW,func3->Jj,prog->aa,underlying3->xR,underlying9->ia
open Go.Value renaming okWide->B5,ownBlock->je,slice->uG
open Go.World renaming cell?->qz,freeze->Xi,frozen?->I6,setCell->B4
open Go.Proofs.Tryz
namespace Go.Proofs.YtafmfhkplgapjaaGreatDoor
set_option maxRecDepth 100000
set_option maxHeartbeats 4000000
open Go.Ab Go.RowKit Go
attribute[local irreducible] av dL dY ak aH IA ez aP fM
theorem ahs (w:World)(vs:Array Value)(e:TypeId)(n:Nat):(w.alloc (.cells vs e)).freeze ⟨w.heap.size,n,none⟩ 1=w.alloc (.cells vs e (n,n + 1)):=by
 unfold Xi;rw[if_neg aE];have h:∀f:Obj->Obj,(w.alloc (.cells vs e)).heap.modify w.heap.size f=w.heap.push (f (.cells vs e)):=λf=>by
  apply Array.ext_getElem?;intro i;rw[tE];show(if w.heap.size=i then((w.heap.push (.cells vs e))[i]?).map f else(w.heap.push (.cells vs e))[i]?)=_;by_cases hi:w.heap.size=i
  ·subst hi;simp
  ·rw[if_neg hi,Cy,Cy,if_neg (λe=>hi e.symm),if_neg (λe=>hi e.symm)]
 simp only[h];rfl
def N5 (c:Ctx)(src dt:TypeId)(x:Operand)(dst:Option Tmp)(N:St->Prop)(s1:St):Prop:=
 bd s1 dst/\kN c.P src=true/\(∃e,Go.Ab.elemOf c.P dt=some e/\c.P.underlying e=some (.int .u8))/\∃t:ByteArray,s1.ev x= .str t/\
  ∀m:Nat,N (St.put {s1 with bx:=s1.bx++[.mu (t.data.toList.map (λb=>D.int .u8 b.toNat)++cD m (.int .u8 0))]} dst (.aN s1.bx.length 0 t.size (t.size + m)))
theorem aP.bytes {c:Ctx}{s:St}{K:St->Prop}{src dt ty:TypeId}{x:Operand}{dst:Option Tmp}{pos:String}{aft:Array Edge}{gd:Option (Nat×Bool)}(h:N5 c src dt x dst K s):
  aP c ⟨dst, .convert src dt x,ty,pos,aft,gd⟩ s K:=by
 obtain⟨hd,hs,⟨e,he,hu⟩,t,hx,hK⟩:=h;unfold aP;rintro a w N' Q' ⟨g,hg⟩ hN;refine gK (by intro cl h;cases h) ?_;have DN:a.eval x= .string t:=by
  have:=hg.ev x;rw[hx]at this;generalize a.eval x=vx at this;cases this;rfl
 have mj:c.P.underlying src=some .string:=by
  unfold kN at hs;split at hs
  ·assumption
  ·cases hs
 have aV:(execOp a.eval ⟨dst, .convert src dt x,ty,pos,aft,gd⟩).run c.P w= .ok (.value (.slice (some ⟨w.heap.size,0,none⟩) t.size (grownCap w t.size 0 e))) (Lib.bytesWorld w e t):=by
  have:=Lib.run_convert_string_bytes (P:=c.P) w src dt e t mj (mD he) hu;simp[execOp,DN,this]
 unfold Oper.wp;rw[aV];show N' _ _;have cP:RG c s a w.drew g:=hg.world (w':=w.drew) (S':=g.S) ⟨rfl,rfl,rfl,aY _,λ_ _=>rfl⟩ (λ_ h=>h) (λ_ h=> .inl h) hg.ba;have iS:=grownCap_ge w t.size 0 e;obtain⟨m,hm⟩:∃m,m=grownCap w t.size 0 e - t.size:=⟨_,rfl⟩;obtain⟨L,hL⟩:∃L:List Int,L=t.data.toList.map (λb=>(b.toNat:Int))++cD m 0:=⟨_,rfl⟩;have xy:(FE w e t).toList=L.map (Value.int .u8):=by
  rw[hL];simp[FE,<-hm]
 have jX:t.data.toList.map (λb=>D.int .u8 b.toNat)++cD m (.int .u8 0)=L.map (D.int .u8):=by
  rw[hL];simp
 have zh:fZ w.drew g (FE w e t) (t.data.toList.map (λb=>D.int .u8 b.toNat)++cD m (.int .u8 0)):=by
  rw[jX];refine⟨by rw[<-JM,xy];simp,λq d hq=> ?_⟩;rw[cO,Option.map_eq_some_iff]at hq;obtain⟨n,hn,rfl⟩:=hq;have h2:(FE w e t).getD q bp= .int .u8 n:=by
   rw[lJ,<-FY,xy,cO,hn];rfl
  rw[h2];exact⟨.int _ _ _,rfl⟩
 have hr:=cP.WS (t:=e) true zh;have hW:Lib.bytesWorld w e t=w.drew.alloc (.cells (FE w e t) e (pD (FE w e t).size true)):=ahs w.drew _ e _;rw[hW];have eO:grownCap w t.size 0 e=t.size + m:=ae;rw[eO];refine hN _ _ _ ⟨_,hr.put ?_ (.aN _ _ _ _ _ w.heap.size ?_)⟩ (hK m)
 ·exact hd
 ·show(g.β++[w.drew.heap.size])[s.bx.length]? =_;rw[<-hg.lβ];simp
theorem WI {c:Ctx}{src dt:TypeId}{x:Operand}{dst:Option Tmp}{N:St->Prop}{s1:St}(p1 p2 p3 p4 p5:UInt8)(q1 q2 q3 q4 q5:Int)(hd:bd s1 dst)(hs:kN c.P src=true)(e:TypeId)(he:Go.Ab.elemOf c.P dt=some e)(hu:c.P.underlying e=some (.int .u8))(hx:s1.ev x= .str ⟨#[p1,p2,p3,p4,p5]⟩)
  (h:(p1.toNat:Int)=q1/\(p2.toNat:Int)=q2/\(p3.toNat:Int)=q3/\(p4.toNat:Int)=q4/\(p5.toNat:Int)=q5)
  (hN:∀m:Nat,N (St.put {s1 with bx:=s1.bx++[.mu (.int .u8 q1:: .int .u8 q2:: .int .u8 q3:: .int .u8 q4:: .int .u8 q5::cD m (.int .u8 0))]} dst (.aN s1.bx.length 0 5 (5 + m)))):N5 c src dt x dst N s1:=by
 obtain⟨rfl,rfl,rfl,rfl,rfl⟩:=h;exact⟨hd,hs,⟨e,he,hu⟩,_,hx,λm=>hN m⟩
theorem WC (q1 q2 q3 q4 q5:Int)(m:Nat)(bx:List Bx)(rw:List Row):jy bx rw (.int .u8 q1:: .int .u8 q2:: .int .u8 q3:: .int .u8 q4:: .int .u8 q5::cD m (.int .u8 0))=some (.int .u8 q1:: .int .u8 q2:: .int .u8 q3:: .int .u8 q4:: .int .u8 q5::cD m (.int .u8 0)):=GU λd hd=>by
 simp only[eK]at hd;rcases hd with rfl|rfl|rfl|rfl|rfl|hd
 ·rfl
 ·rfl
 ·rfl
 ·rfl
 ·rfl
 ·rw[List.eq_of_mem_replicate hd];rfl
theorem ahn:ak aa 73 [i64 75310] (.agg [i64 7,i64 5,i64 3,i64 1,i64 0]):=MX 75310 aE
theorem ahm:ak aa 73 [i64 75810] (.agg [i64 7,i64 5,i64 8,i64 1,i64 0]):=MX 75810 aE
theorem aho:ak aa 73 [i64 27030] (.agg [i64 2,i64 7,i64 0,i64 3,i64 0]):=MX 27030 aE
theorem Z1:ak aa 74 [.agg [i64 7,i64 5,i64 3,i64 1,i64 0]] (.str ⟨#[55,53,51,49,48]⟩):=U' 7 5 3 1 0 aE aE aE aE aE
theorem Z2:ak aa 74 [.agg [i64 2,i64 7,i64 0,i64 3,i64 0]] (.str ⟨#[50,55,48,51,48]⟩):=U' 2 7 0 3 0 aE aE aE aE aE
abbrev kC:List D:=[.list [sI 73000 78000,sI 0 35999],ints kT,i64 1]
theorem ae5:ak aa 72 [.agg kC, .list [aX kG]] (.aF [.list [.list [i64 75310,i64 27030], .list [i64 75810,i64 27030]], .int .i64 0]):=
 Vd kF kT 1 [kG] (kL.map ints) jB afa ax aE ae3
theorem aeJ:ak aa 27 [.agg kC, .list [aX kG]] (.aF [.list [.str ⟨#[55,53,63,49,48]⟩, .str ⟨#[50,55,48,51,48]⟩], .int .i64 0]):=by
 have c1:=ae5;generalize hX:[aX kG]=X at c1⊢;refine cT func27 ntmps27 results27 call27 λw0 S0 M0=> ?_;repeat'(first|(show av _ (.loop (.seq (.region 6 _ _) _)) _ _;refine I3 8 9 1 rfl ?_;refine sn 3 ?_)|(show av _ (.loop _) _ _;refine sn 6 ?_)|(refine sJ ?_)|(show av _ (.region 8 _ _) _ _;refine oK 8 (N5 _ 9 128 (.tmp 37) (some 38)) (λ_ _ h=>aP.bytes h) rfl rfl (λK1 aA=> ?_);(refine sX (af @F6 (@F5)) ?_))|(refine aA _ (WI 55 53 51 49 48 55 53 51 49 48 (bC rfl) ax 5 ax ax rfl aE (λm=> ?_));clear aA K1;simp only[aU,Nat.reduceAdd];(refine sX (af @F6 (@F5)) ?_))|(refine aA _ (WI 50 55 48 51 48 50 55 48 51 48 (bC rfl) ax 5 ax ax rfl aE (λm=> ?_));clear aA K1;simp only[aU,Nat.reduceAdd];(refine sX (af @F6 (@F5)) ?_))|(show av _ (.region 19 _ _) _ _;refine ep (bX.freeze 1 rfl (WC _ _ _ _ _ _ _ _)) ?_;refine ep (bX.Wx 10 1 (ys:=[.int .u8 55, .int .u8 53, .int .u8 63, .int .u8 49, .int .u8 48]) (U:=cD m (.int .u8 0)) (sz:=1) rfl rfl (λy hy=>by simp only[eK,ny,or_false]at hy;rcases hy with rfl|rfl|rfl|rfl|rfl<;>rfl) (Nat.le_add_right _ _)) ?_;simp only[aU])|(show av _ (.region 19 _ _) _ _;refine ep (bX.freeze 2 rfl (WC _ _ _ _ _ _ _ _)) ?_;refine ep (bX.Wx 10 2 (ys:=[.int .u8 50, .int .u8 55, .int .u8 48, .int .u8 51, .int .u8 48]) (U:=cD m (.int .u8 0)) (sz:=1) rfl rfl (λy hy=>by simp only[eK,ny,or_false]at hy;rcases hy with rfl|rfl|rfl|rfl|rfl<;>rfl) (Nat.le_add_right _ _)) ?_;simp only[aU])|refine bh ?_|((first|refine bj λK hK=> ?_|refine bg ?_|show bb _ _ _ _ _|refine bo (c1) ?_|refine bo (ahn) ?_|refine bo (ahm) ?_|refine bo (aho) ?_|refine bo (Z1) ?_|refine bo (Z2) ?_);(refine sX (af @F6 (@F5)) ?_))|(intro hg;try exact ai)|exact fin|apply af)
 all_goals first|omega|rfl
end Go.Proofs.YtafmfhkplgapjaaGreatDoor
namespace Go.Proofs.YtafmfhkplgapjaaGreatDoor
set_option maxRecDepth 100000
set_option maxHeartbeats 4000000
open Go.Ab Go.RowKit Go
theorem Tl.Sw:Go.Proofs.Lays.n240 aa Tryz.Lr:={Tryz.Sx with}
theorem ak4 {P:Program}(w:World)(t u ty e:TypeId)(i:TypeInfo)(ht:P.underlying t=some (.slice e))(hu:P.underlying u=some .string)(hi:P.info? e=some i)(hz:i.zero=some (.int .u8 0))
  (sQ:i.size=1)(oe:i.bytes=1)(v:Value)(n:Nat)(xs:List Value)(bI:w.ownsRow 0 e 1 v n xs)(s:ByteArray)(hlen:n + s.size<=140737488355328):
  ∃v' w',(Builtin.append_ #[t,u] ty #[v, .string s]).run P w= .ok v' w'/\w'.ownsRow 0 e 1 v' (n + s.size) (xs++zY s)/\w.grownBy w' v.ownBlock/\
   (v'.ownBlock=v.ownBlock\/v'.ownBlock=some w.heap.size):=by
 have jI:n + s.size<=maxLen:=by unfold maxLen;omega
 obtain⟨v',w',hr,h2,h3,h4⟩:=Lib.run_append_own_string (P:=P) w 0 t u ty e i ht hu hi hz sQ oe v n xs bI s jI hlen (bD _);refine⟨v',w',hr,h2,h3, ?_⟩;have m_:=bI;rcases bI.2 with⟨rfl,rfl⟩|⟨g,cap,cur,rfl,UO,hg,qY,Bk,aw,amK⟩
 ·by_cases hm:s.size=0
  ·rw[h4.2 ⟨rfl,hm⟩];exact .inl rfl
  ·have cV:=run_append_nil_string (P:=P) w t u ty e i (.int .u8 0) ht hu hi hz s ae ae (by rw[oe];omega);rw[cV]at hr;cases hr
   exact .inr rfl
 ·by_cases sR:n + s.size<=cap
  ·have UK:cur.size=cap:=by simpa using aw
   have cV:=Lib.run_append_room_string (P:=P) w t u ty e i ht hu hi sQ g n cap cur hg s sR ae;rw[cV]at hr;cases hr
   exact .inl rfl
  ·have mX:xs.length=n:=by simpa using m_.1
   have holds:∀j u,xs[j]? =some u->w.cell? ((⟨g,0,none⟩:Addr).add j)=some u:=m_.cells (g:=g) rfl;have cV:=Lib.run_append_grow_string (P:=P) w t u ty e i (.int .u8 0) ht hu hi hz ⟨g,0,none⟩ n cap xs (by rw[sQ];simpa using mX) holds s ae ae (by rw[oe];exact growslice_fits ae ae);rw[cV]at hr;cases hr
   exact .inr rfl
theorem Yl {P:Program}{w:World}{ops:Array Oper}{rest:List Oper}{o:Oper}{a:Act}{Q:Exit->Act->World->Prop}(cP:o.guard=none)(sl x:Operand)(t u:TypeId)
  (ho:o.op= .call {callee:= .builtin .append,args:=#[sl,x],argTypes:=#[t,u]})
  (e:TypeId)(i:TypeInfo)(ht:P.underlying t=some (.slice e))(hu:P.underlying u=some .string)(hi:P.info? e=some i)(hz:i.zero=some (.int .u8 0))
  (sQ:i.size=1)(oe:i.bytes=1)
  (v:Value)(n:Nat)(xs:List Value)(hs:a.eval sl=v)(bI:w.ownsRow 0 e 1 v n xs)(s:ByteArray)(hx:a.eval x= .string s)(hlen:n + s.size<=140737488355328)
  (h:∀v' w',w'.ownsRow 0 e 1 v' (n + s.size) (xs++zY s)->w.grownBy w' v.ownBlock->(v'.ownBlock=v.ownBlock\/v'.ownBlock=some w.heap.size)->wpList P ops Q rest (a.put o.dst v') w'):wpList P ops Q (o::rest) a w:=by
 refine wpList_plain cP λK hK=> ?_;obtain⟨v',w',hr,h2,h3,h4⟩:=ak4 (P:=P) w t u o.type e i ht hu hi hz sQ oe v n xs bI s hlen;unfold Oper.wp execOp;simp only[ho,resolve,invoke,builtin,Sem.run_bind,Sem.run_pure,Result.andThen_ok,List.map_toArray,ib,nz,hs,hx,hr];exact hK _ _ (h v' w' h2 h3 h4)
structure Bd where
 b:Nat
 lX:List UInt8
 live:Bool
def JL (j:Bd)(T:Nat->Prop)(w:World):Prop:=j.live=true->∃p v,w.heap[j.b]? =some (.cells #[p,v] 130 (0,0))/\(p= .pointer none\/p= .pointer (some ⟨j.b,0,none⟩))/\w.ownsRow 0 5 1 v (wa j.lX).length (wa j.lX)/\v.ownBlock≠some j.b/\∀x,T x↔(x=j.b\/v.ownBlock=some x)
theorem j_:zO JL:=by
 rintro j T w w' hj hs hl;obtain⟨p,v,h1,h2,h3,h4,h5⟩:=hj hl;refine⟨p,v,(hs _ ((h5 _).2 (.inl rfl))).trans h1,h2,⟨h3.1, ?_⟩,h4,h5⟩;rcases h3.2 with hn|⟨g,cap,cur,rfl,hg,fH,rest⟩
 ·exact .inl hn
 ·exact .inr ⟨g,cap,cur,rfl,hg,(hs g ((h5 g).2 (.inr rfl))).trans fH,rest⟩
theorem aka (b:Nat)(p v:Value)(w:World)(hb:w.heap[b]? =some (.cells #[p,v] 130 (0,0)))(hp:p= .pointer none\/p= .pointer (some ⟨b,0,none⟩)):
  Calls aa 104 #[.pointer (some ⟨b,0,none⟩)] w λe w'=>e= .returned (.tuple #[])/\w'.heap[b]? =some (.cells #[.pointer (some ⟨b,0,none⟩),v] 130 (0,0))/\w'.os=w.os/\w'.tape=w.tape/\w'.output=w.output/\w'.heap.size=w.heap.size/\∀k,k≠b->w'.heap[k]? =w.heap[k]? :=by
 have hc:w.cell? ⟨b,0,none⟩=some p:=by simp[qz,hb]
 rcases hp with rfl|rfl
 ·refine(Go.Proofs.Any.Builder_copyCheck_fresh Tl.Sw Tryz.FW.toX72 b w hc (by simp[World.shape?,hb];rfl) (by simp[I6,hb])).mono ?_;rintro e w' ⟨rfl,rfl⟩;refine⟨rfl,by simp[B4,tE,hb],rfl,rfl,rfl,by simp[B4],λk hk=>by simp[B4,tE,Ne.symm hk]⟩
 ·refine(Go.Proofs.Any.Builder_copyCheck_used Tl.Sw Tryz.FW.toX72 b w hc).mono ?_;rintro e w' ⟨rfl,rfl⟩;exact⟨rfl,hb,rfl,rfl,rfl,rfl,λ_ _=>rfl⟩
theorem Yj (b:Nat)(p v:Value)(xs:List Value)(s:ByteArray)(w:World)(hb:w.heap[b]? =some (.cells #[p,v] 130 (0,0)))(hp:p= .pointer none\/p= .pointer (some ⟨b,0,none⟩))(bI:w.ownsRow 0 5 1 v xs.length xs)(bz:v.ownBlock≠some b)(hlen:xs.length + s.size<=140737488355328):
  Calls aa 69 #[.pointer (some ⟨b,0,none⟩), .string s] w λe w'=>e= .returned (.tuple #[.int .i64 s.size, .nilIface])/\∃v',w'.heap[b]? =some (.cells #[.pointer (some ⟨b,0,none⟩),v'] 130 (0,0))/\w'.ownsRow 0 5 1 v' (xs++zY s).length (xs++zY s)/\v'.ownBlock≠some b/\
   (v'.ownBlock=v.ownBlock\/v'.ownBlock=some w.heap.size)/\w'.os=w.os/\w'.tape=w.tape/\w'.output=w.output/\w.heap.size<=w'.heap.size/\∀k,k < w.heap.size->k≠b->v.ownBlock≠some k->w'.heap[k]? =w.heap[k]? :=by
 have agU:b < w.heap.size:=(bt.1 hb).1;obtain⟨i0,hi,po,qV,hz2⟩:=info_parts Tryz.FW.infoByte
 go_enter func69,ntmps69
 go_wp2_with (go_at_call 104;refine(aka b p v _ hb hp).mono ?_)
 rintro e w1 ⟨rfl,h1,rU,Hv,HE,aR,cX⟩;have agc:w1.ownsRow 0 5 1 v xs.length xs:=by
  refine⟨bI.1, ?_⟩;rcases bI.2 with hn|⟨g,cap,cur,rfl,hg,fH,rest⟩
  ·exact .inl hn
  ·exact .inr ⟨g,cap,cur,rfl,hg,(cX g (λe=>bz (by rw[e];rfl))).trans fH,rest⟩
 have c0:w1.cell? ⟨b,0,none⟩=some (.pointer (some ⟨b,0,none⟩)):=by simp[qz,h1]
 have c1:w1.cell? ⟨b,1,none⟩=some v:=by simp[qz,h1]
 have K1:Aside (∀k,k≠b->w1.heap[k]? =w.heap[k]?):=cX;have K2:Aside (w1.os=w.os/\w1.tape=w.tape/\w1.output=w.output/\w1.heap.size=w.heap.size):=⟨rU,Hv,HE,aR⟩;clear cX rU Hv HE aR
 go_wp2_with (at_builtin;refine Yl rfl _ _ 128 9 rfl 5 i0 underlying128 ia hi po qV hz2 _ _ _ rfl agc s rfl hlen ?_)
 intro v' w2 m_ Bc D1;have sc:w2.heap[b]? =some (.cells #[.pointer (some ⟨b,0,none⟩),v] 130 (0,0)):=by
  rw[Bc.block b (by rw[K2.out.2.2.2];exact agU) (λe=>bz e.symm)];exact h1
 have d0:w2.cell? ⟨b,0,none⟩=some (.pointer (some ⟨b,0,none⟩)):=by simp[qz,sc]
 have d1:w2.cell? ⟨b,1,none⟩=some v:=by simp[qz,sc]
 have f1:w2.frozen? ⟨b,1,none⟩=false:=by simp[I6,sc]
 obtain⟨ao,n',cap,rfl⟩:∃ao n' cap,v'= .slice ao n' cap:=by
  rcases m_.2 with⟨hv,_⟩|⟨g,cap,cur,hv,_⟩
  ·exact⟨_,_,_,hv⟩
  ·exact⟨_,_,_,hv⟩
 have K3:Aside ((uG ao n' cap).ownBlock=v.ownBlock\/(uG ao n' cap).ownBlock=some w1.heap.size):=D1;have K4:Aside (w1.grownBy w2 v.ownBlock):=Bc;have K5:Aside (w2.ownsRow 0 5 1 (.slice ao n' cap) (xs.length + s.size) (xs++zY s)):=m_;clear D1 Bc m_
 go_wp2
 go_ret2
 have TS:(uG ao n' cap).ownBlock≠some b:=by
  rcases K3.out with e|e
  ·rw[e];exact bz
  ·rw[e,K2.out.2.2.2];intro e2;cases e2;omega
 refine⟨rfl,_,by simp[B4,tE,sc], ?_,TS,by rw[<-K2.out.2.2.2];exact K3.out,K4.out.os.trans K2.out.1,K4.out.tape.trans K2.out.2.1,K4.out.output.trans K2.out.2.2.1, ?_,λk hk Uc HL=> ?_⟩
 ·have h9:(xs++zY s).length=xs.length + s.size:=by rw[eQ,Lib.strCells_length]
  rw[h9];refine⟨K5.out.1, ?_⟩;rcases K5.out.2 with hn|⟨g,cp,cur,e,hg,fH,rest⟩
  ·exact .inl hn
  ·have aI:g≠b:=λe2=>TS (by rw[e,e2];rfl);exact .inr ⟨g,cp,cur,e,hg,by simp[B4,tE,Ne.symm aI,fH],rest⟩
 ·have:=K4.out.size;have:=K2.out.2.2.2;simp[B4];omega
 ·have e1:=K4.out.block k (by rw[K2.out.2.2.2];exact hk) (λe=>HL e.symm);have e2:=K1.out k Uc;simp only[B4,tE,if_neg (Ne.symm Uc)];rw[e1,e2]
def E4 (x y:Operand)(dst:Option Tmp)(N:St->Bd->Prop)(s:St)(j:Bd):Prop:=
 bd s dst/\j.live=true/\s.ev x= .val (.pointer (some ⟨j.b,0,none⟩))/\∃t:ByteArray,s.ev y= .str t/\j.lX.length + t.size<=140737488355328/\
  N (s.put dst (.aF [.int .i64 t.size, .val .nilIface])) ⟨j.b,j.lX++t.data.toList,true⟩
theorem akJ (l:List UInt8)(t:ByteArray):wa l++zY t=wa (l++t.data.toList):=by
 simp[wa,zY]
theorem uH.write {c:Ctx}(hP:c.P=aa){x y:Operand}{dst:Option Tmp}{at_:Array TypeId}{ty:TypeId}{pos:String}{aft:Array Edge}{gd:Option (Nat×Bool)}{s:St}{j:Bd}{K:St->Bd->Prop}(h:E4 x y dst K s j):
  uH JL c ⟨dst, .call ⟨.value (.func 69),#[x,y],at_⟩,ty,pos,aft,gd⟩ s j K:=by
 obtain⟨hd,jr,hx,t,hy,hlen,hK⟩:=h;rintro a w N' Q' ⟨g,T,hg,hf,hj⟩ hN;obtain⟨p,v,h1,h2,h3,h4,h5⟩:=hj jr;have DN:a.eval x= .pointer (some ⟨j.b,0,none⟩):=by
  have:=hg.ev x;rw[hx]at this;generalize a.eval x=vx at this;cases this;rfl
 have hyv:a.eval y= .string t:=by
  have:=hg.ev y;rw[hy]at this;generalize a.eval y=vy at this;cases this;rfl
 have ta:∀args w,(callFunc 69 args).run aa w= .ok (.enter 69 args) w:=enters_of func69 (by kernel_rfl) rfl;have aV:(execOp a.eval ⟨dst, .call ⟨.value (.func 69),#[x,y],at_⟩,ty,pos,aft,gd⟩).run c.P w= .ok (.enter 69 #[.pointer (some ⟨j.b,0,none⟩), .string t]) w:=by
  have agD:a.eval (.func 69)= .func (.func 69) #[] #[]:=rfl;simp[execOp,resolve,agD,Deferred.ofValue,invoke,DN,hyv];rw[hP,ta]
 refine gK (by intro cl h;cases h) ?_;unfold Oper.wp;rw[aV];have bf:=Yj j.b p v (wa j.lX) t w h1 h2 h3 h4 (by simpa[wa]using hlen);rw[<-hP]at bf;refine bf.mono ?_;rintro e w' ⟨rfl,v',f1,f2,f3,f4,f5,f6,f7,f8,f9⟩;show N' (a.put dst _) w';have Ec:∀k,k < w.heap.size->¬T k->w'.heap[k]? =w.heap[k]? :=λk hk ht=>f9 k hk (λe=>ht ((h5 k).2 (.inl e))) (λe=>ht ((h5 k).2 (.inr e)));obtain⟨q1,q2⟩:=hf.rD (T':=λx=>x=j.b\/v'.ownBlock=some x) hg f5 f6 f7 f8 Ec (λb hb=>by
   rcases hb with rfl|hb
   ·exact .inl ((h5 _).2 (.inl rfl))
   ·rcases f4 with e|e
    ·exact .inl ((h5 _).2 (.inr (e▸hb)))
    ·rw[e]at hb;cases hb;exact .inr (aY _)) (λb hb=>by
   rcases hb with rfl|hb
   ·exact .inl ⟨_,_,_,f1⟩
   ·rcases f2.2 with⟨e,_⟩|⟨g2,cp,cur,e,_,fH,_⟩
    ·rw[e]at hb;simp[je]at hb
    ·rw[e]at hb;simp only[je,gE]at hb;subst hb;exact .inl ⟨_,_,_,fH⟩)
 have bw:Rel w' g (.tuple #[.int .i64 t.size, .nilIface]) (.aF [.int .i64 t.size, .val .nilIface]):= .aF _ _ _ rfl (λq d hq=>by
  match q with
  |0=>simp at hq;subst hq;exact .int _ _ _
  |1=>simp at hq;subst hq;exact .val _ _
  |q + 2=>simp at hq)
 refine hN _ ⟨j.b,j.lX++t.data.toList,true⟩ _ _ ⟨g,_,q1.put hd bw, ?_,λ_=>⟨_,v',f1, .inr rfl,by rw[akJ]at f2;exact f2,f3,λx=>Iff.rfl⟩⟩ hK;cases dst with
 |none=>exact q2
 |some n=>exact⟨q2.bx,q2.rw,q2.df,q2.sx,q2.lt⟩
theorem aad (b g cap:Nat)(p:Value)(cur:Array Value)(l:List UInt8)(w:World)(hb:w.heap[b]? =some (.cells #[p, .slice (some ⟨g,0,none⟩) l.length cap] 130 (0,0)))(bI:w.ownsRow 0 5 1 (.slice (some ⟨g,0,none⟩) l.length cap) l.length (wa l))
  (hg:w.heap[g]? =some (.cells cur 5 (0,0)))(qY:l.length<=cap)(Bk:cap<=maxLen)(aw:cur.size=cap * 1)(h0:l≠[]):
  Calls aa 70 #[.pointer (some ⟨b,0,none⟩)] w λe w'=>e= .returned (.string ⟨l.toArray⟩)/\w'=w.drew.freeze ⟨g,0,none⟩ l.length:=by
 have xh:l.length≠0:=by simpa using h0
 have c1:w.drew.cell? ⟨b,1,none⟩=some (.slice (some ⟨g,0,none⟩) l.length cap):=by
  have:w.drew.heap[b]? =some (.cells #[p, .slice (some ⟨g,0,none⟩) l.length cap] 130 (0,0)):=hb;rw[Lib.cell_of_heap this];rfl
 have hSD:(Builtin.unsafeSliceData_ #[128] 192 #[.slice (some ⟨g,0,none⟩) l.length cap]).run aa w.drew= .ok (.pointer (some ⟨g,0,none⟩)) w.drew:=
  Lib.run_unsafeSliceData_row _ _ _ _ _ _ ae
 have hUS:(Builtin.unsafeString_ #[192,3] 9 #[.pointer (some ⟨g,0,none⟩), .int .i64 l.length]).run aa w.drew= .ok (.string ⟨l.toArray⟩) (w.drew.freeze ⟨g,0,none⟩ l.length):=by
  refine Lib.run_unsafeString_row w.drew 192 3 9 5 underlying192 Tryz.FW.cellsByte g cur.size (by have gQ:w.drew.heap[g]? =some (.cells cur 5 (0,0)):=hg;simp[World.shape?,gQ]) l h0 ae (by unfold maxLen at Bk;omega) ?_;intro j x hx;exact bI.cells (g:=g) rfl j (.int .u8 x.toNat) (by simp[wa,hx])
 go_enter func70,ntmps70
 go_wp2
 go_region
 all_goals(go_wp2;go_ret;exact⟨rfl,rfl⟩)
def WD (x:Operand)(dst:Option Tmp)(N:St->Bd->Prop)(s:St)(j:Bd):Prop:=
 bd s dst/\j.live=true/\s.ev x= .val (.pointer (some ⟨j.b,0,none⟩))/\j.lX≠[]/\N (s.put dst (.str ⟨j.lX.toArray⟩)) ⟨j.b,[],false⟩
theorem uH.string {c:Ctx}(hP:c.P=aa){x:Operand}{dst:Option Tmp}{at_:Array TypeId}{ty:TypeId}{pos:String}{aft:Array Edge}{gd:Option (Nat×Bool)}{s:St}{j:Bd}{K:St->Bd->Prop}(h:WD x dst K s j):
  uH JL c ⟨dst, .call ⟨.value (.func 70),#[x],at_⟩,ty,pos,aft,gd⟩ s j K:=by
 obtain⟨hd,jr,hx,h0,hK⟩:=h;rintro a w N' Q' ⟨g,T,hg,hf,hj⟩ hN;obtain⟨p,v,h1,h2,h3,h4,h5⟩:=hj jr;have DN:a.eval x= .pointer (some ⟨j.b,0,none⟩):=by
  have:=hg.ev x;rw[hx]at this;generalize a.eval x=vx at this;cases this;rfl
 have ta:∀args w,(callFunc 70 args).run aa w= .ok (.enter 70 args) w:=enters_of func70 (by kernel_rfl) rfl;have aV:(execOp a.eval ⟨dst, .call ⟨.value (.func 70),#[x],at_⟩,ty,pos,aft,gd⟩).run c.P w= .ok (.enter 70 #[.pointer (some ⟨j.b,0,none⟩)]) w:=by
  have agC:a.eval (.func 70)= .func (.func 70) #[] #[]:=rfl;simp[execOp,resolve,agC,Deferred.ofValue,invoke,DN];rw[hP,ta]
 refine gK (by intro cl h;cases h) ?_;unfold Oper.wp;rw[aV];have vE:(wa j.lX).length=j.lX.length:=Lib.byteCells_length _;rw[vE]at h3;obtain⟨gb,cap,cur,rfl,_,fH,qY,Bk,aw⟩:∃gb cap cur,v= .slice (some ⟨gb,0,none⟩) j.lX.length cap/\0<=gb/\w.heap[gb]? =some (.cells cur 5 (0,0))/\j.lX.length<=cap/\cap<=maxLen/\cur.size=cap * 1:=by
  rcases h3.2 with⟨_,hz⟩|⟨gb,cap,cur,hv,h6,h7,h8,h9,nk,_⟩
  ·exact absurd (List.eq_nil_of_length_eq_zero hz) h0
  ·exact⟨gb,cap,cur,hv,h6,h7,h8,h9,nk⟩
 have bf:=aad j.b gb cap p cur j.lX w h1 h3 fH qY Bk aw h0;rw[<-hP]at bf;refine bf.mono ?_;rintro e w' ⟨rfl,rfl⟩;show N' (a.put dst _) _;have Ec:∀k,k < w.heap.size->¬T k->(w.drew.freeze ⟨gb,0,none⟩ j.lX.length).heap[k]? =w.heap[k]? :=λk hk ht=>by
  have bz:gb≠k:=λe=>ht ((h5 k).2 (.inr (by rw[<-e];rfl)));unfold Xi;split
  ·rfl
  ·show(w.heap.modify gb _)[k]? =_;rw[tE,if_neg bz]
 have rU:(w.drew.freeze ⟨gb,0,none⟩ j.lX.length).os=w.os/\(w.drew.freeze ⟨gb,0,none⟩ j.lX.length).tape=w.tape/\(w.drew.freeze ⟨gb,0,none⟩ j.lX.length).output=w.output/\w.heap.size<=(w.drew.freeze ⟨gb,0,none⟩ j.lX.length).heap.size:=by
  unfold Xi;split
  ·exact⟨rfl,rfl,rfl,aY _⟩
  ·refine⟨rfl,rfl,rfl, ?_⟩;show w.heap.size<=(w.heap.modify gb _).size;rw[Array.size_modify];exact aY _
 obtain⟨q1,q2⟩:=hf.rD (T':=λ_=>False) hg rU.1 rU.2.1 rU.2.2.1 rU.2.2.2 Ec (λb hb=>hb.elim) (λb hb=>hb.elim);refine hN _ ⟨j.b,[],false⟩ _ _ ⟨g,λ_=>False,q1.put hd (.str _ _), ?_,λh=>by cases h⟩ hK;cases dst with
 |none=>exact q2
 |some n=>exact⟨q2.bx,q2.rw,q2.df,q2.sx,q2.lt⟩
theorem alw {c:Ctx}(hP:c.P=aa){id:Nat}{ty:TypeId}{pos:String}{aft:Array Edge}{rest:Code}{Q:Exit->St->Prop}{s:St}(hn:8 < s.n)
  (h:∀b,fC JL c rest (λe s' _=>Q e s') (s.put (some 8) (.val (.pointer (some ⟨b,0,none⟩)))) ⟨b,[],true⟩):av c (.seq (.region id #[⟨some 8, .alloc 130,ty,pos,aft,none⟩] false) rest) Q s:=by
 unfold av;rintro a w ⟨g,hg⟩;refine wpIn_seq (wpIn_region_lit (l:=[⟨some 8, .alloc 130,ty,pos,aft,none⟩]) ?_);unfold wpListIn;rw[if_pos (by simp[Region.wanted])];refine gK (by intro cl h;cases h) ?_;have hex:(execOp a.eval ⟨some 8, .alloc 130,ty,pos,aft,none⟩).run c.P w= .ok (.value (.pointer (some ⟨w.heap.size,0,none⟩))) (w.alloc (.cells #[.pointer none, .slice none 0 0] 130)):=by
  rw[hP];simp[execOp,Instr.alloc,zeroValue130,newVar,newRow];rfl
 unfold Oper.wp;rw[hex];unfold Oper.upon;unfold wpListIn;have hb:=zI w (.cells #[.pointer none, .slice none 0 0] 130);have aK:=hg.world hb (λ_ h=>h) (λ_ h=> .inl h) (hg.ba.below hb);have lj:(w.alloc (.cells #[.pointer none, .slice none 0 0] 130)).heap[w.heap.size]? =some (.cells #[.pointer none, .slice none 0 0] 130 (0,0)):=heap_alloc_new w _;refine wpIn_mono (h w.heap.size _ _ ⟨g,λx=>x=w.heap.size,aK.put hn (.val _ _),⟨λi x b hi hl hb ht=> ?_,λr row v gb hr hl hv aI ht=> ?_,λd hd D hD ht=> ?_,λx hx ht=> ?_,λb hb=> ?_⟩,λ_=>⟨.pointer none, .slice none 0 0,lj, .inl rfl,World.ownsRow_nil _ _ _ _,by simp[je],λx=>by simp[je]⟩⟩) ?_
 ·have:=(hg.rk hi hl hb).1;rw[ht]at this;omega
 ·have:=(hg.pU hr hl hv aI).1;rw[ht]at this;omega
 ·obtain⟨D',_,e,dN⟩:=hg.df.cN.2 d hd;rw[e]at hD;cases hD
  have:=(bt.1 dN).1;rw[ht]at this;omega
 ·have:=hg.ba.lt hx;rw[ht]at this;omega
 ·subst hb;refine⟨by simp, ?_,hg.cu _ hg.below.size, .inl ⟨_,_,_,lj⟩⟩;cases hm:g.M w.heap.size with
  |none=>rfl
  |some f=>
   obtain⟨es,cl,h1,_⟩:=hg.df.bO _ f hm;have:=(bt.1 h1).1;omega
 ·rintro e a' w' ⟨s',j',⟨g',T',r,_,_⟩,q⟩;exact⟨s',⟨g',r⟩,q⟩
end Go.Proofs.YtafmfhkplgapjaaGreatDoor
namespace Go.Proofs.YtafmfhkplgapjaaGreatDoor
set_option maxRecDepth 100000
set_option maxHeartbeats 4000000
open Go.Ab
attribute[local irreducible] av dL dY ak aH cY IA ez aP fM
theorem Dq {s:aJ}{n cap:Nat}{cs:List D}(h:sv s n cap cs):∀d∈cs,Names 0 0 d:=h.2.2.2
theorem Rs (s:aJ)(h:kJ s)(hs:qB s)(t:Int):aH aa 8 [ji s] [.mu (eb s)] [] (λd aB aD=>∃cs cap,sv s s.dy.toNat cap cs/\d= .aF [.box 1 0,i64 0]/\aB=[.mu (eb s), .mu (np s s.dy.toNat cap 0 1 0), .mp [], .mu cs]/\aD=[pT t s.dy.toNat,az 0]):=by
 refine((Rq t s h hs).uw [] [] (bR:=[ji s]) (B:=[.mu (eb s)]) (RW:=[]) aO aO aO aO rfl rfl rfl (λ_ _ _ _=>bD _)).mono ?_;rintro d0 jc k_ ⟨d,cH,fF,⟨cs,cap,hM,rfl,rfl,rfl⟩,_,rfl,rfl,rfl⟩;refine⟨cs,cap,hM,rfl, ?_,rfl⟩;show[iU _ _ (.mu (eb s)),dZ _ _ (.mu (ay s s.dy.toNat cap 0)),dZ _ _ (.mp []),dZ _ _ (.mu cs)]=_;simp only[dZ,Az (Dq hM)];rfl
theorem adH (s:aJ)(h:kJ s)(hs:qB s)(t t2:Int)(ca:Nat)(csA:List D)(hA:∀d∈csA,Names 0 0 d):aH aa 8 [ji s] [.mu (eb s), .mu (np s s.dy.toNat ca 0 1 0), .mp [], .mu csA] [pT t s.dy.toNat,az 0] (λd aB aD=>∃cs cap,sv s s.dy.toNat cap cs/\d= .aF [.box 4 0,i64 0]/\aB=[.mu (eb s), .mu (np s s.dy.toNat ca 0 1 0), .mp [], .mu csA, .mu (np s s.dy.toNat cap 0 4 2), .mp [], .mu cs]/\aD=[pT t s.dy.toNat,az 0,pT t2 s.dy.toNat,az 0]):=by
 refine((Rq t2 s h hs).uw [] [] (bR:=[ji s]) (B:=[.mu (eb s), .mu (np s s.dy.toNat ca 0 1 0), .mp [], .mu csA]) (RW:=[pT t s.dy.toNat,az 0]) aO aO aO aO rfl rfl rfl (λ_ _ _ _=>bD _)).mono ?_;rintro d0 jc k_ ⟨d,cH,fF,⟨cs,cap,hM,rfl,rfl,rfl⟩,_,rfl,rfl,rfl⟩;refine⟨cs,cap,hM,rfl, ?_,rfl⟩;show[iU _ _ (.mu (eb s)),iU _ _ (.mu (np s s.dy.toNat ca 0 1 0)), .mp [],iU _ _ (.mu csA),dZ _ _ (.mu (ay s s.dy.toNat cap 0)),dZ _ _ (.mp []),dZ _ _ (.mu cs)]=_;simp only[dZ,iU,Az (Dq hM),Nw hA];rfl
abbrev jv (n:Nat):List D:=cD n .undef
theorem J1 (n:Nat):∀d∈jv n,Names 0 0 d:=λd h=>by rw[(rv.1 h).2];exact .undef
theorem Sf {s:aJ}(aR:oN s){n cap dz:Nat}{cs:List D}(h:sv s n cap cs)(hd:dz < n):(dK s (jv (dz * 4)) (jv ((cap - dz - 1) * 4)) []).length=cs.length/\∀(q:Nat) (d':D),(dK s (jv (dz * 4)) (jv ((cap - dz - 1) * 4)) [])[q]? =some d'->∃d,cs[q]? =some d/\∀(w:World) (g:Gh) (v:Value),Rel w g v d->Rel w g v d':=by
 obtain⟨h1,h2,⟨U,h3⟩,_⟩:=h;have hl:(dK s (jv (dz * 4)) (jv ((cap - dz - 1) * 4)) []).length=cs.length:=by rw[BI (n:=dz) (cap:=cap) aO ae aO,h1]
 refine⟨hl,λq d' hq=> ?_⟩;have jE:q < cs.length:=by rw[<-hl];exact(aQ.1 hq).1
 have Tm:d'= .undef->∃d,cs[q]? =some d/\∀(w:World) (g:Gh) (v:Value),Rel w g v d->Rel w g v d':=λe=>⟨_,bS jE,λw g v _=>by rw[e];exact .undef _ _⟩;rcases ft q (dz * 4)with h4|h4
 ·refine Tm ?_;rw[dK,kK,bQ (by simpa using h4)]at hq;exact(rv.1 (ey hq)).2
 ·obtain⟨j,rfl⟩:∃j,q=dz * 4 + j:=⟨q - dz * 4,ae⟩;rw[dK,kK,dX aO]at hq;simp only[uL,OJ]at hq;rcases ft j 4 with h5|h5
  ·rw[bQ (by simpa[cx]using h5)]at hq;have e:cs[dz * 4 + j]? =(jt s)[j]? :=by
    obtain⟨k,hk⟩:∃k,n=dz + 1 + k:=⟨n - dz - 1,ae⟩;have e1:lN s n=lN s dz++(jt s++lN s k):=by
     rw[hk];have e2:lN s (dz + 1 + k)=lN s (dz + 1)++lN s k:=by
      unfold lN;rw[<-List.replicate_append_replicate,Io]
     rw[e2,Sg,kK]
    rw[h3,e1,kK,dX (by rw[Hb];omega),Hb,OJ,kK,bQ (by simpa[jt]using h5)]
   rw[e];obtain⟨e1,e2⟩:=CS aR;rcases(show j=0\/j=1\/j=2\/j=3 by omega)with rfl|rfl|rfl|rfl
   ·cases hq;exact⟨_,rfl,λw g v hv=>by rw[e1];exact hv⟩
   ·cases hq;exact⟨_,rfl,λw g v hv=>by rw[e2];exact hv⟩
   ·cases hq;exact⟨_,rfl,λw g v hv=>hv⟩
   ·cases hq;exact⟨_,rfl,λw g v hv=>j9.nil w g v hv⟩
  ·refine Tm ?_;rw[dX (by simpa[cx]using h5)]at hq;exact(rv.1 (ey hq)).2
theorem Qc (t:Int){n dz:Nat}(h:dz < n):mc t n=mc t dz++ .bM (gu t dz)::(ct (n - dz - 1)).map λq=> .bM (gu t (dz + 1 + q)):=by
 obtain⟨k,rfl⟩:∃k,n=dz + (k + 1):=⟨n - dz - 1,ae⟩;have e:dz + (k + 1) - dz - 1=k:=ae;rw[e];unfold mc;rw[List.range_add,List.map_append,tA,List.range_succ_eq_map,ib,tA]
 congr 1
 congr 1
 exact List.map_congr_left λq _=>by simp only[Function.comp_apply];rw[show dz + (q.succ)=dz + 1 + q by omega]
theorem Kr {t t':Int}{j j':Nat}(h:gu t j=gu t' j'):t=t'/\j=j':=by
 have h1:=congrArg (λm:eP=>m.f []) h;simp only[gu,List.cons.injEq,and_true]at h1;omega
noncomputable def AH (F:eP):eP->Bool:=λf=> @decide (f≠F) (Classical.propDecidable _)
theorem Lb (F f:eP):AH F f=true↔f≠F:= @decide_eq_true_iff _ (Classical.propDecidable _)
theorem RH {α:Type}{f:α->eP}{F:eP}{l:List α}(h:∀x∈l,f x≠F):eE (AH F) (l.map λx=> .bM (f x))=true:=tX.2 λd hd=>by
 obtain⟨x,hx,rfl⟩:=eJ.1 hd;exact(Lb F _).2 (h x hx)
theorem sL {p:eP->Bool}{α:Type}{f:α->D}{l:List α}(h:∀x,gZ p (f x)=true):eE p (l.map f)=true:=tX.2 λd hd=>by
 obtain⟨x,_,rfl⟩:=eJ.1 hd;exact h x
theorem RF {p:eP->Bool}(n:Nat):eE p (jv n)=true:=tX.2 λd hd=>by rw[(rv.1 hd).2];rfl
theorem adT (p:eP->Bool)(s:aJ):eE p (eb s)=true:=by
 simp only[eE,gZ,c_,yg,true_and,and_true];refine⟨sL λx=> ?_,sL λx=>rfl,sL λx=>rfl,sL λx=>rfl,sL λx=>rfl,sL λx=>rfl,sL λx=>rfl⟩;simp only[eE,gZ,c_,yg,true_and,and_true];exact sL λx=>rfl
theorem RJ (p:eP->Bool)(s:aJ)(n cap:Nat)(co:Int)(i r:Nat):eE p (np s n cap co i r)=true:=by
 rw[Dj,adT];rfl
theorem RI (p:eP->Bool)(s:aJ)(a b:Nat):eE p (dK s (jv a) (jv b) [])=true:=by
 rw[dK,Dj,Dj,RF,RF];rfl
theorem aa5 {p:eP->Bool}{l:List (Nat×D)}(h:∀e∈l,gZ p e.2=true)(m:Nat):gZ p (cS l m)=true:=by
 rcases Kg l m with e|⟨q,hq,_,e⟩
 ·rw[e];rfl
 ·rw[e];exact h q hq
theorem aln {c:Ctx}{code:Code}{Q:Exit->St->Prop}{N:Nat}{l:List (Nat×D)}{s:aJ}{n ca cb dz:Nat}{t:Int}(ht:∀b (f:eP),c.M0 b=some f->∀x y,f.f []=[x,y]->x < t)(qm:dz < n)(hl:∀(p:eP->Bool),∀e∈l,gZ p e.2=true)
  (h:∀(m1 m2:Nat) (xA xB:List D) (w1:World) (S1:Addr->Prop) (M1:MM) (o1:Nat->Prop) (b1:List Nat),b1.length=8->b1[6]? =some m1->b1[7]? =some m2->xA.length=n->xB.length=n->xA[dz]? =some (.val (.map (some m1)))->xB[dz]? =some (.val (.map (some m2)))->
   av ⟨c.P,w1,S1,M1,c.l,o1,b1⟩ code Q ⟨N,cS l,qK s n ca cb 0 0 (dK s (jv (dz * 4)) (jv ((ca - dz - 1) * 4)) []) (dK s (jv (dz * 4)) (jv ((cb - dz - 1) * 4)) []) [] [],Am xA xB 0 0⟩):
  av c code Q ⟨N,cS l,[.mu (np s n ca 0 0 0), .mp [], .mu (dK s (jv (dz * 4)) (jv ((ca - dz - 1) * 4)) []), .mu (np s n cb 0 3 2), .mp [], .mu (dK s (jv (dz * 4)) (jv ((cb - dz - 1) * 4)) [])],[pT t n,az 0,pT (t + 1) n,az 0]⟩:=by
 have ed:∀t':Int,(mc t' dz).length=dz:=λt'=>Ko t' dz;have hlen:∀(t':Int) (x:D),(mc t' dz++x::(ct (n - dz - 1)).map λq=> .bM (gu t' (dz + 1 + q))).length=n:=λt' x=>by
  simp only[eQ,List.length_cons,List.length_map,List.length_range,ed];omega
 have im:∀(t':Int) (x:D),(mc t' dz++x::(ct (n - dz - 1)).map λq=> .bM (gu t' (dz + 1 + q)))[dz]? =some x:=λt' x=>by
  rw[dX (by rw[ed];exact aY _),ed,Nat.sub_self];rfl
 have HG:∀(t' t2:Int),eE (AH (gu t2 dz)) (mc t' dz)=true:=λt' t2=>RH λx hx e=>by
  have:=(Kr e).2;have:=oR.1 hx;omega
 have HH:∀(t' t2:Int),eE (AH (gu t2 dz)) ((ct (n - dz - 1)).map λq=> .bM (gu t' (dz + 1 + q)))=true:=λt' t2=>RH λx hx e=>by
  have:=(Kr e).2;omega
 have e1:pT t n=⟨true,95,1,mc t dz++ .bM (gu t dz)::(ct (n - dz - 1)).map λq=> .bM (gu t (dz + 1 + q))⟩:=by rw[<-Qc t qm]
 have e2:pT (t + 1) n=⟨true,95,1,mc (t + 1) dz++ .bM (gu (t + 1) dz)::(ct (n - dz - 1)).map λq=> .bM (gu (t + 1) (dz + 1 + q))⟩:=by rw[<-Qc (t + 1) qm]
 rw[e1,e2];have hf:∀t':Int,t<=t'->∀b,c.M0 b≠some (gu t' dz):=λt' hle b hb=>by
  have:=ht b _ hb t' dz rfl;omega
 refine alm (r1:=0) (r2:=2) (p1:=AH (gu t dz)) (p2:=AH (gu (t + 1) dz)) (λe=>by have:=(Kr e).1;omega) rfl rfl aE ⟨⟨rfl,rfl⟩,rfl,rfl⟩ (hf t (Int.le_refl _)) (hf (t + 1) ae) (Lb _) (Lb _) (λp=>⟨aa5 (hl p),λx hx=> ?_,λk row h0 h2 gO=> ?_⟩) ⟨⟨HG _ _,HH _ _,HG _ _,HH _ _⟩,HG _ _,HH _ _,HG _ _,HH _ _⟩ (λm1 m2 w1 S1 M1 o1 b1 hb h6 h7=> ?_)
 ·simp only[eK,ny,or_false]at hx;rcases hx with rfl|rfl|rfl|rfl|rfl|rfl
  ·exact RJ _ _ _ _ _ _ _
  ·rfl
  ·exact RI _ _ _ _
  ·exact RJ _ _ _ _ _ _ _
  ·rfl
  ·exact RI _ _ _ _
 ·match k,h0,h2,gO with
  |1,_,_,gO=>cases gO;rfl
  |3,_,_,gO=>cases gO;rfl
  |k + 4,_,_,gO=>cases gO
 ·exact h m1 m2 _ _ w1 S1 M1 o1 b1 hb h6 h7 (hlen t _) (hlen (t + 1) _) (im t _) (im (t + 1) _)
theorem YZ (s:aJ)(n ca cb:Nat)(coA coB:Int){csA csB:List D}(mA mB:List Int)(hA:∀d∈csA,Names 0 0 d)(hB:∀d∈csB,Names 0 0 d):a7 8 4 (qK s n ca cb coA coB csA csB mA mB)=true:=by
 have h1:∀nb nr,bN nb nr csA=true:=λnb nr=>ec λd hd=>eG (hA d hd);have h2:∀nb nr,bN nb nr csB=true:=λnb nr=>ec λd hd=>eG (hB d hd);simp only[a7,h1,h2,nH];rfl
end Go.Proofs.YtafmfhkplgapjaaGreatDoor
namespace Go.Proofs.YtafmfhkplgapjaaGreatDoor
set_option maxRecDepth 100000
set_option maxHeartbeats 4000000
open Go.Ab Go.RowKit Go
attribute[local irreducible] av dL dY ak aH IA ez aP fM fC
theorem aev (t:ByteArray):ak aa 66 [.str t] (.ag 99 [.ro [.str t]]):=by
 refine cT func66 ntmps66 results66 call66 λw0 S0 M0=> ?_;repeat'(first|(refine j6 0 _ _ rfl rfl ?_;simp only[aU,Nat.reduceAdd])|refine aq ?_|refine au λK hK=> ?_|(intro hg;try exact ai)|exact fin|apply af)
 all_goals rfl
abbrev NZ (s:aJ)(n cap:Nat)(cost:Int):List D:=eb s++[.aN 3 0 n cap, .own 0, .bu 2,i64 cost, .own 1, .bool true]
abbrev jk:List D:=[i64 (2:Nat),i64 (2:Nat),i64 100, .val (.slice none 0 0)]
theorem adE:aH aa 8 [ji cz] [.mu (eb cz)] [] (λd aB aD=>∃(cap:Nat) (U:List D) (x0:Bx),(∀d∈U,Names 0 0 d)/\8 + U.length=cap * 4/\d= .aF [.box 1 0,i64 0]/\aB=[x0, .mu (NZ cz 2 cap 0), .mp [], .mu (jk++(jk++U))]/\aD=[bG 2,az 0]):=by
 refine(Rs cz PT aab 0).mono ?_;rintro d bx rw ⟨cs,cap,⟨hl,_,⟨U,rfl⟩,hn⟩,rfl,rfl,rfl⟩;have TW:lN cz (aJ.dy cz).toNat=jk++jk:=rfl;refine⟨cap,U, .mu (eb cz),λd hd=>hn d (alI _ hd), ?_,rfl, ?_,rfl⟩
 ·rw[TW]at hl;simp[jk]at hl;omega
 ·rw[TW,kK];rfl
abbrev DF:List UInt8:=[114,101,97,100,32,48,32,48,32,52,56,48,32,49,32,55,54,48,48,48,32,48,32,48,32,48,32,48,32,48,32,48]
abbrev DE:List UInt8:=[119,105,114,101,32,49,32,48,32,55,53,51,49,48,46,50,55,48,51,48,46,57,50,56,52,48]
abbrev DB:List UInt8:=[100,114,97,119,32,48]
abbrev DA:List UInt8:=[99,111,115,116]
abbrev wU:List (List UInt8):=[DF,DE,DB,DA]
abbrev yR:List UInt8:=[111,107,10]
abbrev Hm:List UInt8:=[55,54,48,48,48,32,55,53,57,48,50,32,55,53,57,48,50,32,55,53,56,48,50]
abbrev Ly:List UInt8:=[49,51,49]
def wT:Nat->List UInt8
 |0=>[]
 |1=>yR
 |2=>yR++yR
 |3=>yR++yR++(Hm++[10])
 |_=>yR++yR++(Hm++[10])++(Ly++[10])
def DH (cap:Nat)(U:List D):Nat->List Bx
 |0=>[.mu (ay cz 2 cap 0), .mp [], .mu (dG [] U), .mu [.box 0 0]]
 |1=>[.mu (ay cz 2 cap 0), .mp [], .mu (dG nR U), .mu [.box 0 0]]
 |_=>[.mu (ay cz 2 cap 131), .mp [], .mu (dG iP U), .mu [.box 0 0]]
def Lw:Nat->List Row
 |0=>[bG 2,az 0]
 |1=>[bG 2,az 1]
 |_=>[bG 2,az 2]
theorem Lh {nb nr:Nat}:∀{l:List D},(∀d∈l,Names 0 0 d)->bN nb nr l=true
 |[],_=>rfl
 |d::l,h=>by
  simp only[bN,eG (h d (dI ..)),Lh (λx hx=>h x (dW _ hx)),Bool.and_self]
theorem afc (cap:Nat)(U:List D)(k:Nat):(DH cap U k).length=4:=by
 match k with
 |0=>rfl
 |1=>rfl
 |k + 2=>rfl
theorem afb (cap:Nat)(U:List D)(hU:∀d∈U,Names 0 0 d)(k:Nat):(⟨48,dJ,DH cap U k,Lw k⟩:St).named:=by
 have h:∀(cost:Int) (S:List aS) (r0 r1:Row),(⟨48,dJ,[.mu (ay cz 2 cap cost), .mp [], .mu (dG S U), .mu [.box 0 0]],[r0,r1]⟩:St).named:=λcost S r0 r1=>by
  refine⟨λm=> .undef,qP _ ?_⟩;have h1:bN 4 2 (dG S U)=true:=Lh (mV S hU);show a7 4 2 [.mu (ay cz 2 cap cost), .mp [], .mu (dG S U), .mu [.box 0 0]]=true;simp only[a7,h1];rfl
 match k with
 |0=>exact h _ _ _ _
 |1=>exact h _ _ _ _
 |k + 2=>exact h _ _ _ _
theorem adX {U:List D}(hU:∀d∈U,Names 0 0 d)(σ:Nat->Option Nat):ko σ (jk++(jk++U))=jk++(jk++U):=AD (λd hd=>by
 rcases fA.1 hd with h|h
 ·simp only[jk,eK,ny,or_false]at h;rcases h with rfl|rfl|rfl|rfl<;>constructor
 rcases fA.1 h with h|h
 ·simp only[jk,eK,ny,or_false]at h;rcases h with rfl|rfl|rfl|rfl<;>constructor
 ·exact hU d h)
theorem aeV {cap:Nat}{U:List D}(x0:Bx)(hU:∀d∈U,Names 0 0 d):qL [1,2,3,4] [x0, .mu (NZ cz 2 cap 0), .mp [], .mu (jk++(jk++U)), .mu [.box 1 0]]=[.mu (ay cz 2 cap 0), .mp [], .mu (jk++(jk++U)), .mu [.box 0 0]]:=by
 have h:=adX hU (pos [1,2,3,4] 0);show[nL (pos [1,2,3,4] 0) (.mu (NZ cz 2 cap 0)), .mp [], .mu (ko (pos [1,2,3,4] 0) (jk++(jk++U))),nL (pos [1,2,3,4] 0) (.mu [.box 1 0])]=_;rw[h];rfl
theorem aeQ {cap:Nat}{U:List D}:([Bx.mu (ay cz 2 cap 0), .mp [], .mu (jk++(jk++U)), .mu [.box 0 0]].set 2 (.mu ((jk++(jk++U)).set 3 (D.list [])))).set 2 (.mu (((jk++(jk++U)).set 3 (D.list [])).set 7 (D.list [])))=DH cap U 0:=rfl
theorem Hn {f:FuncId}{t:ByteArray}{c0 c1:Int}{S0 S1:List aS}{cap:Nat}{U:List D}{R0 R1 R2 R3:Row}{out:ByteArray}(hU:∀d∈U,Names 0 0 d)
  (h:aH aa f [.box 0 0, .str t] [.mu (ay cz 2 cap c0), .mp [], .mu (dG S0 U)] [R0,R1] (aT (.aF [.str out,i64 0]) [.mu (ay cz 2 cap c1), .mp [], .mu (dG S1 U)] [R2,R3])):
  aH aa f [.box 0 0, .str t] [.mu (ay cz 2 cap c0), .mp [], .mu (dG S0 U), .mu [.box 0 0]] [R0,R1] (aT (.aF [.str out,i64 0]) [.mu (ay cz 2 cap c1), .mp [], .mu (dG S1 U), .mu [.box 0 0]] [R2,R3]):=by
 have bE:∀S nb nr,bN nb nr (dG S U)=true:=λS nb nr=>Lh (mV S hU);exact gC (nr:=2) [.mu [.box 0 0]] h rfl (by simp only[a7,bE];rfl) (by simp only[a7,bE];rfl) rfl rfl rfl
theorem BX (x:UInt8)(l:List UInt8):((dV (x::l)).toList == (gJ #[]).toList)=false:=by
 rw[show(gJ #[]).toList=[]from ua [],show(dV (x::l)).toList=x::l from ua _];rfl
theorem WB:((gJ #[]).toList == (gJ #[]).toList)=true:=by
 rw[show(gJ #[]).toList=[]from ua []];rfl
theorem aeW:(dV (fT wU)).size=72:=ax
theorem ajV:ak aa 25 [ji cz, .str (dV (fT wU))] (.aF [.str (dV (wT 4)), .int .i64 0]):=by
 have c1:=adE;have c2:=aev (dV (fT wU));have aR:=aeW;generalize hTX:dV (fT wU)=TX at c2 aR⊢;refine cT func25 ntmps25 results25 call25 λw0 S0 M0=> ?_;repeat'(first|(show av _ (.region 3 _ _) _ _;refine et 1 rfl (λK1 aA=> ?_);refine aj ?_)|(refine aA _ (iK c1 (bC rfl) rfl rfl rfl rfl ?_);clear aA K1;rintro d aB aD ⟨cap,U,x0,hU,eO,rfl,rfl,rfl⟩;simp only[aU,Nat.reduceAdd];refine aj ?_)|(show av _ (.seq (.region 6 _ _) _) _ _;refine bJ ?_)|refine aq ?_|refine au λK hK=> ?_|(intro hg;try exact ai)|exact fin|apply af)
 all_goals first|omega|rfl|refine b_ ?_
 refine ep (jQ [(1, .str TX),(6, .box 4 0)] (by simp[put])) ?_;refine ep (C4 [1,2,3,4] (l':=[(1, .str TX),(6, .box 3 0)]) (aB:=[.mu (ay cz 2 cap 0), .mp [], .mu (jk++(jk++U)), .mu [.box 0 0]]) aE (λi hi=>by cases hi) (by simp[D.gX,pos]) (aeV x0 hU)) ?_;refine ep (bX.IK 2 3 rfl rfl G7) ?_;refine ep (bX.IK 2 7 rfl rfl G7) ?_;rw[aeQ];refine alw rfl (bC rfl) (λb=> ?_);refine pI ?_;refine pI ?_;refine nu j_ (λw1 S1 M1 o1 b1 gz=> ?_);show av ⟨aa,w1,S1,M1,none,o1,b1⟩ _ _ _;clear gz;repeat'(first|((refine hK _ ?_;clear hK K;show fC _ _ _ _ _ _))|refine aq ?_|refine au λK hK=> ?_|refine cA (c2) ?_|(intro hg;try exact ai)|exact fin|apply af)
 refine E' ?_;refine alk j_ (j:=λk=>⟨b,wT k,true⟩) (gf:=99) (cs:=[.ro [.str TX]]) (cm:=[.ro [.str TX]]) (xs:=wU.map λw=>[.str (dV w), .bool true]) (by try(refine aj ?_;try exact trivial)) (by try(refine aj ?_;try exact trivial)) (hTX▸aew wU aE aE) (λx hx=>by obtain⟨y,_,rfl⟩:=eJ.1 hx;rfl) aO
  (cS [(6, .box 3 0),(8, .val (.pointer (some ⟨b,0,none⟩)))]) (DH cap U) Lw 4 (Hg rfl (by try refine aj ?_;try simp) ⟨_,rfl⟩ ⟨_,rfl⟩) (uZ rfl) (λk _=>afc cap U k) (λk _=>afb cap U hU k) (bD _) ?_ ?_
 ·intro k x hx w1 S1 M1 l o1 b1 gz;rw[cO,Option.map_eq_some_iff]at hx;obtain⟨y,hy,rfl⟩:=hx;have qi:k < 4:=(aQ.1 hy).1;have hk:k=0\/k=1\/k=2\/k=3:=ae;rcases hk with rfl|rfl|rfl|rfl
  ·obtain rfl:y=DF:=(iA hy).symm;have c3:aH aa 67 [.box 0 0, .str (dV DF)] [.mu (ay cz 2 cap 0), .mp [], .mu (dG [] U), .mu [.box 0 0]] [bG 2,az 0] (aT (.aF [.str ⟨#[]⟩,i64 0]) [.mu (ay cz 2 cap 0), .mp [], .mu (dG nR U), .mu [.box 0 0]] [bG 2,az 1]):=Hn hU (ae_ cap 2 U hU eO);have bz:((dV DF).toList == (gJ #[]).toList)=false:=BX _ _;have dH:((gJ #[]).toList == (gJ #[]).toList)=true:=WB;refine nu j_ (λw3 S3 M3 o3 b3 my=> ?_);show av ⟨aa,w3,S3,M3,some l,o3,b3⟩ _ _ ⟨48,put (put (cS [(6, .box 3 0),(8, .val (.pointer (some ⟨b,0,none⟩)))]) 25 (.str (dV DF))) 26 (.bool true),[.mu (ay cz 2 cap 0), .mp [], .mu (dG [] U), .mu [.box 0 0]],[bG 2,az 0]⟩;clear my;repeat'(first|((refine hK _ ?_;clear hK K;intro w4 S4 M4 o4))|refine aq ?_|refine au λK hK=> ?_|(intro hg;try exact ai)|exact fin|apply af)
   refine E' ?_;refine pI ?_;refine nu j_ (λw5 S5 M5 o5 b5 zo=> ?_);show av ⟨aa,w5,S5,M5,some l,o5,b5⟩ _ _ _;clear zo;refine sX (af @bz (@bK)) ?_;repeat'(first|((refine hK _ ?_;clear hK K;show fC _ _ _ _ _ _;refine bJ ?_))|refine bh ?_|((first|refine bj λK hK=> ?_|refine bg ?_|show bb _ _ _ _ _);(refine sX (af @bz (@bK)) ?_))|((show fC _ _ _ _ _ _;refine bJ ?_))|(intro hg;try exact ai)|exact fin|apply af)
   refine b_ ?_;refine pI ?_;refine nu j_ (λw6 S6 M6 o6 b6 MB=> ?_);show av ⟨aa,w6,S6,M6,some l,o6,b6⟩ _ _ _;repeat'(first|(show av _ (.region 10 _ _) _ _;refine et 2 rfl (λK1 aA=> ?_);refine aj ?_)|(refine aA _ (eZ c3 ?_);simp only[aU,Nat.reduceAdd];refine aj ?_)|((refine hK _ ?_;clear hK K;show fC _ _ _ _ _ _;refine bJ ?_))|refine aq ?_|refine au λK hK=> ?_|((show fC _ _ _ _ _ _;refine bJ ?_))|(intro hg;try exact ai)|exact fin|apply af)
   refine b_ ?_;refine pI ?_;refine nu j_ (λw7 S7 M7 o7 b7 zn=> ?_);show av ⟨aa,w7,S7,M7,some l,o7,b7⟩ _ _ _;clear zn;repeat'(first|((refine hK _ ?_;clear hK K;show fC _ _ _ _ _ _;refine bJ ?_))|refine bh ?_|((first|refine bj λK hK=> ?_|refine bg ?_|show bb _ _ _ _ _);(refine sX (af @dH (@bK)) ?_))|((show fC _ _ _ _ _ _;refine bJ ?_))|(intro hg;try exact ai)|exact fin|apply af)
   refine b_ ?_;refine E_ j_ 2 (E4 (.tmp 8) (.tmp 45) (some 46)) (λ_ _ _ h=>uH.write rfl h) rfl rfl (λK1 aA=> ?_);refine aj ?_;repeat'(first|refine aq ?_|refine au λK hK=> ?_|(intro hg;try exact ai)|exact fin|apply af)
   ·decide
   refine aA _ ?_;clear aA K1;refine⟨(bC rfl),rfl,rfl,_,rfl, ?_, ?_⟩
   ·rw[OX];show(wT 0).length + _<=_;decide
   exact⟨⟨rfl,λ_=> .inl rfl,⟨[],rfl⟩,⟨[],rfl⟩⟩,(by simp only[OY];rfl)⟩
  ·obtain rfl:y=DE:=(iA hy).symm;have c3:aH aa 67 [.box 0 0, .str (dV DE)] [.mu (ay cz 2 cap 0), .mp [], .mu (dG nR U), .mu [.box 0 0]] [bG 2,az 1] (aT (.aF [.str ⟨#[]⟩,i64 0]) [.mu (ay cz 2 cap 131), .mp [], .mu (dG iP U), .mu [.box 0 0]] [bG 2,az 2]):=Hn hU (ae9 cap 2 U hU eO);have bz:((dV DE).toList == (gJ #[]).toList)=false:=BX _ _;have dH:((gJ #[]).toList == (gJ #[]).toList)=true:=WB;refine nu j_ (λw3 S3 M3 o3 b3 my=> ?_);show av ⟨aa,w3,S3,M3,some l,o3,b3⟩ _ _ ⟨48,put (put (cS [(6, .box 3 0),(8, .val (.pointer (some ⟨b,0,none⟩)))]) 25 (.str (dV DE))) 26 (.bool true),[.mu (ay cz 2 cap 0), .mp [], .mu (dG nR U), .mu [.box 0 0]],[bG 2,az 1]⟩;clear my;repeat'(first|((refine hK _ ?_;clear hK K;intro w4 S4 M4 o4))|refine aq ?_|refine au λK hK=> ?_|(intro hg;try exact ai)|exact fin|apply af)
   refine E' ?_;refine pI ?_;refine nu j_ (λw5 S5 M5 o5 b5 zo=> ?_);show av ⟨aa,w5,S5,M5,some l,o5,b5⟩ _ _ _;clear zo;refine sX (af @bz (@bK)) ?_;repeat'(first|((refine hK _ ?_;clear hK K;show fC _ _ _ _ _ _;refine bJ ?_))|refine bh ?_|((first|refine bj λK hK=> ?_|refine bg ?_|show bb _ _ _ _ _);(refine sX (af @bz (@bK)) ?_))|((show fC _ _ _ _ _ _;refine bJ ?_))|(intro hg;try exact ai)|exact fin|apply af)
   refine b_ ?_;refine pI ?_;refine nu j_ (λw6 S6 M6 o6 b6 MB=> ?_);show av ⟨aa,w6,S6,M6,some l,o6,b6⟩ _ _ _;repeat'(first|(show av _ (.region 10 _ _) _ _;refine et 2 rfl (λK1 aA=> ?_);refine aj ?_)|(refine aA _ (eZ c3 ?_);simp only[aU,Nat.reduceAdd];refine aj ?_)|((refine hK _ ?_;clear hK K;show fC _ _ _ _ _ _;refine bJ ?_))|refine aq ?_|refine au λK hK=> ?_|((show fC _ _ _ _ _ _;refine bJ ?_))|(intro hg;try exact ai)|exact fin|apply af)
   refine b_ ?_;refine pI ?_;refine nu j_ (λw7 S7 M7 o7 b7 zn=> ?_);show av ⟨aa,w7,S7,M7,some l,o7,b7⟩ _ _ _;clear zn;repeat'(first|((refine hK _ ?_;clear hK K;show fC _ _ _ _ _ _;refine bJ ?_))|refine bh ?_|((first|refine bj λK hK=> ?_|refine bg ?_|show bb _ _ _ _ _);(refine sX (af @dH (@bK)) ?_))|((show fC _ _ _ _ _ _;refine bJ ?_))|(intro hg;try exact ai)|exact fin|apply af)
   refine b_ ?_;refine E_ j_ 2 (E4 (.tmp 8) (.tmp 45) (some 46)) (λ_ _ _ h=>uH.write rfl h) rfl rfl (λK1 aA=> ?_);refine aj ?_;repeat'(first|refine aq ?_|refine au λK hK=> ?_|(intro hg;try exact ai)|exact fin|apply af)
   ·decide
   refine aA _ ?_;clear aA K1;refine⟨(bC rfl),rfl,rfl,_,rfl, ?_, ?_⟩
   ·rw[OX];show(wT 1).length + _<=_;decide
   exact⟨⟨rfl,λ_=> .inl rfl,⟨[],rfl⟩,⟨[],rfl⟩⟩,(by simp only[OY];rfl)⟩
  ·obtain rfl:y=DB:=(iA hy).symm;have c3:aH aa 67 [.box 0 0, .str (dV DB)] [.mu (ay cz 2 cap 131), .mp [], .mu (dG iP U), .mu [.box 0 0]] [bG 2,az 2] (aT (.aF [.str (dV Hm),i64 0]) [.mu (ay cz 2 cap 131), .mp [], .mu (dG iP U), .mu [.box 0 0]] [bG 2,az 2]):=Hn hU (ae8 cap 2 U hU eO);have bz:((dV DB).toList == (gJ #[]).toList)=false:=BX _ _;have dH:((dV Hm).toList == (gJ #[]).toList)=false:=BX _ _;refine nu j_ (λw3 S3 M3 o3 b3 my=> ?_);show av ⟨aa,w3,S3,M3,some l,o3,b3⟩ _ _ ⟨48,put (put (cS [(6, .box 3 0),(8, .val (.pointer (some ⟨b,0,none⟩)))]) 25 (.str (dV DB))) 26 (.bool true),[.mu (ay cz 2 cap 131), .mp [], .mu (dG iP U), .mu [.box 0 0]],[bG 2,az 2]⟩;clear my;repeat'(first|((refine hK _ ?_;clear hK K;intro w4 S4 M4 o4))|refine aq ?_|refine au λK hK=> ?_|(intro hg;try exact ai)|exact fin|apply af)
   refine E' ?_;refine pI ?_;refine nu j_ (λw5 S5 M5 o5 b5 zo=> ?_);show av ⟨aa,w5,S5,M5,some l,o5,b5⟩ _ _ _;clear zo;refine sX (af @bz (@bK)) ?_;repeat'(first|((refine hK _ ?_;clear hK K;show fC _ _ _ _ _ _;refine bJ ?_))|refine bh ?_|((first|refine bj λK hK=> ?_|refine bg ?_|show bb _ _ _ _ _);(refine sX (af @bz (@bK)) ?_))|((show fC _ _ _ _ _ _;refine bJ ?_))|(intro hg;try exact ai)|exact fin|apply af)
   refine b_ ?_;refine pI ?_;refine nu j_ (λw6 S6 M6 o6 b6 MB=> ?_);show av ⟨aa,w6,S6,M6,some l,o6,b6⟩ _ _ _;repeat'(first|(show av _ (.region 10 _ _) _ _;refine et 2 rfl (λK1 aA=> ?_);refine aj ?_)|(refine aA _ (eZ c3 ?_);simp only[aU,Nat.reduceAdd];refine aj ?_)|((refine hK _ ?_;clear hK K;show fC _ _ _ _ _ _;refine bJ ?_))|refine aq ?_|refine au λK hK=> ?_|((show fC _ _ _ _ _ _;refine bJ ?_))|(intro hg;try exact ai)|exact fin|apply af)
   refine b_ ?_;refine pI ?_;refine nu j_ (λw7 S7 M7 o7 b7 zn=> ?_);show av ⟨aa,w7,S7,M7,some l,o7,b7⟩ _ _ _;clear zn;repeat'(first|((refine hK _ ?_;clear hK K;show fC _ _ _ _ _ _;refine bJ ?_))|refine bh ?_|((first|refine bj λK hK=> ?_|refine bg ?_|show bb _ _ _ _ _);(refine sX (af @dH (@bK)) ?_))|((show fC _ _ _ _ _ _;refine bJ ?_))|(intro hg;try exact ai)|exact fin|apply af)
   refine b_ ?_;refine E_ j_ 2 (E4 (.tmp 8) (.tmp 45) (some 46)) (λ_ _ _ h=>uH.write rfl h) rfl rfl (λK1 aA=> ?_);refine aj ?_;repeat'(first|refine aq ?_|refine au λK hK=> ?_|(intro hg;try exact ai)|exact fin|apply af)
   ·decide
   refine aA _ ?_;clear aA K1;refine⟨(bC rfl),rfl,rfl,_,rfl, ?_, ?_⟩
   ·rw[OX];show(wT 2).length + _<=_;decide
   exact⟨⟨rfl,λ_=> .inl rfl,⟨[],rfl⟩,⟨[],rfl⟩⟩,(by simp only[OY];rfl)⟩
  ·obtain rfl:y=DA:=(iA hy).symm;have c3:aH aa 67 [.box 0 0, .str (dV DA)] [.mu (ay cz 2 cap 131), .mp [], .mu (dG iP U), .mu [.box 0 0]] [bG 2,az 2] (aT (.aF [.str (dV Ly),i64 0]) [.mu (ay cz 2 cap 131), .mp [], .mu (dG iP U), .mu [.box 0 0]] [bG 2,az 2]):=Hn hU (ae7 cap 2 U hU eO);have bz:((dV DA).toList == (gJ #[]).toList)=false:=BX _ _;have dH:((dV Ly).toList == (gJ #[]).toList)=false:=BX _ _;refine nu j_ (λw3 S3 M3 o3 b3 my=> ?_);show av ⟨aa,w3,S3,M3,some l,o3,b3⟩ _ _ ⟨48,put (put (cS [(6, .box 3 0),(8, .val (.pointer (some ⟨b,0,none⟩)))]) 25 (.str (dV DA))) 26 (.bool true),[.mu (ay cz 2 cap 131), .mp [], .mu (dG iP U), .mu [.box 0 0]],[bG 2,az 2]⟩;clear my;repeat'(first|((refine hK _ ?_;clear hK K;intro w4 S4 M4 o4))|refine aq ?_|refine au λK hK=> ?_|(intro hg;try exact ai)|exact fin|apply af)
   refine E' ?_;refine pI ?_;refine nu j_ (λw5 S5 M5 o5 b5 zo=> ?_);show av ⟨aa,w5,S5,M5,some l,o5,b5⟩ _ _ _;clear zo;refine sX (af @bz (@bK)) ?_;repeat'(first|((refine hK _ ?_;clear hK K;show fC _ _ _ _ _ _;refine bJ ?_))|refine bh ?_|((first|refine bj λK hK=> ?_|refine bg ?_|show bb _ _ _ _ _);(refine sX (af @bz (@bK)) ?_))|((show fC _ _ _ _ _ _;refine bJ ?_))|(intro hg;try exact ai)|exact fin|apply af)
   refine b_ ?_;refine pI ?_;refine nu j_ (λw6 S6 M6 o6 b6 MB=> ?_);show av ⟨aa,w6,S6,M6,some l,o6,b6⟩ _ _ _;repeat'(first|(show av _ (.region 10 _ _) _ _;refine et 2 rfl (λK1 aA=> ?_);refine aj ?_)|(refine aA _ (eZ c3 ?_);simp only[aU,Nat.reduceAdd];refine aj ?_)|((refine hK _ ?_;clear hK K;show fC _ _ _ _ _ _;refine bJ ?_))|refine aq ?_|refine au λK hK=> ?_|((show fC _ _ _ _ _ _;refine bJ ?_))|(intro hg;try exact ai)|exact fin|apply af)
   refine b_ ?_;refine pI ?_;refine nu j_ (λw7 S7 M7 o7 b7 zn=> ?_);show av ⟨aa,w7,S7,M7,some l,o7,b7⟩ _ _ _;clear zn;repeat'(first|((refine hK _ ?_;clear hK K;show fC _ _ _ _ _ _;refine bJ ?_))|refine bh ?_|((first|refine bj λK hK=> ?_|refine bg ?_|show bb _ _ _ _ _);(refine sX (af @dH (@bK)) ?_))|((show fC _ _ _ _ _ _;refine bJ ?_))|(intro hg;try exact ai)|exact fin|apply af)
   refine b_ ?_;refine E_ j_ 2 (E4 (.tmp 8) (.tmp 45) (some 46)) (λ_ _ _ h=>uH.write rfl h) rfl rfl (λK1 aA=> ?_);refine aj ?_;repeat'(first|refine aq ?_|refine au λK hK=> ?_|(intro hg;try exact ai)|exact fin|apply af)
   ·decide
   refine aA _ ?_;clear aA K1;refine⟨(bC rfl),rfl,rfl,_,rfl, ?_, ?_⟩
   ·rw[OX];show(wT 3).length + _<=_;decide
   exact⟨⟨rfl,λ_=> .inl rfl,⟨[],rfl⟩,⟨[],rfl⟩⟩,(by simp only[OY];rfl)⟩
 ·show fC _ _ _ _ (⟨48,cS [(6, .box 3 0),(8, .val (.pointer (some ⟨b,0,none⟩)))],DH cap U 4,Lw 4⟩:St) (⟨b,wT 4,true⟩:Bd);refine pI ?_;refine E_ j_ 0 (WD (.tmp 8) (some 47)) (λ_ _ _ h=>uH.string rfl h) rfl rfl (λK1 aA=> ?_);refine aA _ ?_;clear aA K1;refine⟨(bC rfl),rfl,rfl,(by show wT 4≠[];decide), ?_⟩;refine aj ?_;refine alj ?_
  (refine aj ?_;try exact trivial)
end Go.Proofs.YtafmfhkplgapjaaGreatDoor
namespace Go.Proofs.YtafmfhkplgapjaaGreatDoor
set_option maxRecDepth 100000
set_option maxHeartbeats 4000000
open Go.Ab
attribute[local irreducible] av dL dY ak aH cY IA ez aP fM
abbrev Lv:List UInt8:=[114,101,97,100,32,48,32,48,32,52,56,48,32,49,32,55,54,48,48,48,32,48,32,48,32,48,32,48,32,48,32,48,10,119,105,114,101,32,49,32,48,32,55,53,51,49,48,46,50,55,48,51,48,46,57,50,56,52,48,10,100,114,97,119,32,48,10,99,111,115,116,10]
theorem aeX:fT wU=Lv:=aE
theorem ajW:ak aa 25 [ji cz, .str ⟨Lv.toArray⟩] (.aF [.str ⟨#[111,107,10,111,107,10,55,54,48,48,48,32,55,53,57,48,50,32,55,53,57,48,50,32,55,53,56,48,50,10,49,51,49,10]⟩, .int .i64 0]):=by
 have h:=ajV;have e:dV (fT wU)=⟨Lv.toArray⟩:=by rw[aeX]
 rw[e]at h;exact h
theorem known20k:ak aa 27 [.agg [.list (cz.fl.map kd),ints cz.tu,i64 cz.mo], .list [.list [.str ⟨#[55,53,51,49,48]⟩, .str ⟨#[50,55,48,51,48]⟩, .str ⟨#[57,50,56,52,48]⟩]]] (.aF [.list [.str ⟨#[55,53,63,49,48]⟩, .str ⟨#[50,55,48,51,48]⟩], .int .i64 0]):=aeJ
theorem abt:ak aa 28 [.list [.str ⟨#[55,53,63,49,48]⟩, .str ⟨#[50,55,48,51,48]⟩], .list [.str ⟨#[55,53,63,49,48]⟩, .str ⟨#[50,55,48,51,48]⟩]] (.bool true):=abr [⟨#[55,53,63,49,48]⟩,⟨#[50,55,48,51,48]⟩] aE
theorem known20_ok:ak aa 7 [] (.bool true):=by
 have c1:=Yf;have c2:=ajW;have c3:=known20k;have c4:=abt;refine cT func7 ntmps7 results7 call7 λw0 S0 M0=> ?_;repeat'(first|refine bh ?_|((first|refine bj λK hK=> ?_|refine bg ?_|show bb _ _ _ _ _|refine bo (c1) ?_|refine bo (c2) ?_|refine bo (c3) ?_|refine bo (c4) ?_);simp -implicitDefEqProofs only[go_sem,j5,aU,Nat.reduceAdd,Nat.reduceSub,Nat.reduceMul,Nat.reduceLT,Nat.reduceLeDiff,Nat.reduceEqDiff,Nat.reduceBEq,Int.reduceLT,Int.reduceLE,Int.reduceToNat,Int.reduceAdd,Int.reduceSub,Int.reduceMul,Int.reduceNeg,Int.reduceEq,reduceCtorEq,eq_self,ne_eq,not_false_eq_true,if_true,reduceIte,Hi,Hh,beq_self_eq_true])|(intro hg;try exact ai)|exact fin|apply af)
 all_goals first|omega|rfl
end Go.Proofs.YtafmfhkplgapjaaGreatDoor
namespace Go.Ab
open Go.RowKit Go.ChangeShapes Go.WideShapes Go.Deep
def re (W:World):Gh:=⟨λx=>(W.cell? x).isSome=true,[],[],λ_=>none⟩
theorem Ie (W:World):Go.Ab.Good W (re W).S:=λx hx=>Option.isSome_iff_exists.1 hx
theorem PF {H:Type}{enc:TypeId×Value->H}{P:Program}{W W':World}{base:Nat}{sp:Nat->Bool}{hd:Bool}:∀{ts:List TypeId} {vs:List Value} {ds:List (DataW H)} {ps:List MemPlace},
  FT enc P W base sp hd ts vs ds ps->(∀p∈ps,W.sameAt W' p)->FT enc P W' base sp hd ts vs ds ps
 |[],[],[],_,h,_=>h
 |_::_,_::_,_::_,_,⟨p,q,⟨n,hn⟩,h2,e⟩,hs=>
  ⟨p,q,⟨n,DataW.trod_carry n _ _ _ hn (λx hx=>hs x (by rw[e];exact List.mem_append_left _ hx))⟩,PF h2 (λx hx=>hs x (by rw[e];exact alI _ hx)),e⟩
theorem akw {H:Type}{enc:TypeId×Value->H}{P:Program}{Vt:FuncId}{fn:Func}{s:ChangeSpec}{W:World}{args:Array Value}{ds gs:List (DataW H)}{before:List MemPlace}{Ds:List D}{tb:TypeId}
  (hv:s.vars=[])(iY:fn.resultTypes=#[tb])(Tn:P.underlying tb=some .bool)(q_:(s.fn H ds).results=[.lit (.bool true)]/\(s.fn H ds).args=ds/\(s.fn H ds).vars=[])
  (zb:laidOutB P=true)(d_:mapsRowed P=true)(agy:∀t e,t < P.types.size->P.underlying t=some (.slice e)->0 < P.cellsOf e)(hts:∀t∈fn.params.toList,t < P.types.size)
  (hT:lG W)(hW:DataW.Whole enc P fn.params.toList s.vars false W args.toList ds gs before)(hC:ak P Vt Ds (.bool true))(hn:args.toList.length=Ds.length)
  (hR:∀q x,Ds[q]? =some x->Rel W (re W) (args.toList.getD q bp) x):
  Calls P Vt args W λe W'=>∃v,e= .returned v/\s.post enc P fn false true false false W args v W':=by
 have H3:=hW;obtain⟨p,q,hA,hV,rfl,Uo,iR⟩:=hW;rw[hv]at hV;obtain⟨rfl,rfl⟩:=trodVars_none hV;have bf:=hC.2 (re W).S (λ_=>none) W args.toList hT (Ie W) (λb f h=>by cases h) hn hR;rw[Array.toArray_toList]at bf;refine bf.mono ?_;rintro e W' ⟨v,S',M',rfl,hg,od,bw⟩;obtain rfl:=bw.asBool;have hblk:∀k,k < W.heap.size->W'.heap[k]? =W.heap[k]? :=λk hk=>hg.below.at k hk rfl;have aG:∀x∈p++[],x.block < W.heap.size:=λx hx=>H3.lt x hx;have lh:∀x∈p,W.sameAt W' x:=λx hx=>by
  have h1:=aG x (by simpa using hx);cases x with
  |cell b off=>exact World.cell?_of_block (hblk b h1)
  |map b=>exact hblk b h1
 have ME:∀sp:Nat->Bool,(∀x∈p,sp x.block=true)->FT enc P W' 0 sp true fn.params.toList args.toList (s.fn H (ds++[])).args p:=λsp hs=>by
  rw[eu,q_.2.1];exact PF (DataW.TrodAll.respare (T:=λt=>t < P.types.size) (kids_rows zb d_) agy hts hA hs) lh
 have HC:∀(b:Nat) (sp:Nat->Bool) (hd:Bool),FT enc P W' b sp hd fn.resultTypes.toList ((Value.bool true).resultList fn.resultTypes.size) (s.fn H (ds++[])).results []:=λb sp hd=>by
  rw[eu,q_.1,iY];exact trodAll_mk1 (shut_bool Tn true)
 have wZ:∀sp:Nat->Bool,DataW.TrodVars enc P W' sp s.vars (s.fn H (ds++[])).vars []:=λsp=>by
  rw[eu,q_.2.2,hv];rfl
 have aW:∀(j:Nat) (t:TypeId) (r:Value),fn.resultTypes[j]? =some t->((Value.bool true).resultList fn.resultTypes.size)[j]? =some r->B5 P W' .any 0 t r:=ok_one iY rfl (okWide_bool_mk Tn true);have Ec:W.keptBut W' (λ_=>False):=by
  refine⟨hg.below.os,hg.below.output,λi hi=> ?_⟩;rw[hblk i hi];split
  ·rename_i h1 h2;rw[h1]at h2;simp only[gE,Obj.cells.injEq]at h2;obtain⟨rfl,rfl,rfl⟩:=h2;exact⟨rfl,rfl,rfl,λ_ _=>rfl⟩
  ·rename_i h1 h2;rw[h1]at h2;simp only[gE,Obj.map.injEq]at h2;exact Or.inr ⟨h2.1.symm,h2.2.symm⟩
  ·rfl
 have hold:∀x∈p,(λb=>decide (b < W.heap.size)) x.block=true:=λx hx=>by simpa using aG x (by simpa using hx)
 refine⟨_,rfl,ds,[],p++[],[],p,[],H3,HC _ _ _,ME _ hold,wZ _,World.keptBut_mono (λ_ h=>h.elim) Ec,λ_=> ?_⟩;refine⟨aW,_,_,([]++p)++[],⟨[]++p,[],trodAll_append (ME _ (λ_ _=>rfl)) (HC _ _ _),wZ _,rfl, ?_, ?_⟩, ?_⟩
 ·intro b off hp;have gP:MemPlace.cell b off∈p++[]:=by simpa using hp
  have h1:=Uo b off gP;have h2:b < W.heap.size:=aG _ gP;unfold I6 at h1⊢;simp only at h1⊢;rw[hblk b h2];exact h1
 ·intro ha;simpa using iR ha
 ·intro x hx _;simpa using hx
section
variable {H:Type} {enc:TypeId×Value->H} {P:Program} {W:World}
def gI (enc:TypeId×Value->H)(P:Program)(W:World)(t:TypeId)(n:Nat)(Q:List D->Prop):Prop:=
 ∀(fuel:Nat) (cs:List Value) (x:DataW H×List MemPlace),DataW.trod enc P W 0 (λ_=>true) true fuel t cs=some x->
  cs.length=n/\∃ds:List D,ds.length=n/\Q ds/\∀(q:Nat) (d:D),ds[q]? =some d->d.cells=[d]/\(cs.getD q bp).oneCell'=true/\Rel W (re W) (cs.getD q bp) d
theorem acs {t:TypeId}(ht:P.underlying t=some (.int .i64)):gI enc P W t 1 (λds=>∃n:Int,ds=[.int .i64 n]):=by
 intro fuel cs x h;obtain⟨n,rfl,_,_⟩:=DataW.trod_int ht h;refine⟨rfl,[.int .i64 n],rfl,⟨n,rfl⟩,λq d hd=> ?_⟩
 match q,hd with
 |0,hd=>cases hd;exact⟨rfl,rfl, .int _ _ _⟩
 |q + 1,hd=>simp at hd
inductive FR (enc:TypeId×Value->H)(P:Program)(W:World):Nat->List Field->Nat->(List D->Prop)->Prop
 |nil (k:Nat):FR enc P W k [] k (λds=>ds=[])
 |cons (k n m:Nat) (f:Field) (fs:List Field) (Q R:List D->Prop) (ho:f.offset=k) (hc:P.cellsOf f.type=n) (h:gI enc P W f.type n Q) (hr:FR enc P W (k + n) fs m R):
   FR enc P W k (f::fs) m (λds=>∃a b,Q a/\R b/\ds=a++b)
theorem FR.read {k m:Nat}{fs:List Field}{Q:List D->Prop}(h:FR enc P W k fs m Q):∀(fuel:Nat) (cs:List Value),cs.length=m->(∀f∈fs,∃x,DataW.trod enc P W 0 (λ_=>true) true fuel f.type ((cs.drop f.offset).take (P.cellsOf f.type))=some x)->
  ∃ds:List D,ds.length + k=m/\Q ds/\∀(q:Nat) (d:D),ds[q]? =some d->d.cells=[d]/\(cs.getD (k + q) bp).oneCell'=true/\Rel W (re W) (cs.getD (k + q) bp) d:=by
 induction h with
 |nil k=>intro fuel cs _ _;exact⟨[],by simp,rfl,λq d hd=>by simp at hd⟩
 |cons k n m f fs Q R ho hc h hr ih=>
  intro fuel cs hl hf;obtain⟨x,hx⟩:=hf f (dI ..);obtain⟨l1,a,l2,hQ,bw⟩:=h _ _ _ hx;obtain⟨b,l3,hR,af5⟩:=ih fuel cs hl (λg hg=>hf g (dW _ hg));rw[ho,hc]at bw;refine⟨a++b,by simp;omega,⟨a,b,hQ,hR,rfl⟩,λq d hd=> ?_⟩;rcases ft q a.length with hq|hq
  ·rw[bQ hq]at hd;have:=bw q d hd;have e:((cs.drop k).take n).getD q bp=cs.getD (k + q) bp:=by
    simp only[ic,List.getElem?_take,List.getElem?_drop];rw[if_pos ae]
   rw[e]at this;exact this
  ·rw[dX hq]at hd;have:=af5 _ d hd;rw[show k + n + (q - a.length)=k + q by omega]at this;exact this
theorem qM {t:TypeId}{fs:Array Field}{m:Nat}{Q:List D->Prop}(ht:P.underlying t=some (.struct fs))(hc:P.cellsOf t=m)(h:FR enc P W 0 fs.toList m Q):gI enc P W t m Q:=by
 intro fuel cs x hx;obtain⟨xs,n,rfl,_,hl,hs,hf⟩:=DataW.trod_struct ht hx;have T5:cs.length=m:=hl.trans hc;obtain⟨ds,h1,h2,h3⟩:=h.read n cs T5 (λf hm=>by
  obtain⟨i,hi,rfl⟩:=List.getElem_of_mem hm;have fj:i < fs.size:=by simpa using hi
  have:=hf i fs[i] (by simp[fj]);rw[bS ae]at this;exact⟨_,by simpa using this⟩)
 exact⟨T5,ds,ae,h2,λq d hd=>by have:=h3 q d hd;rw[Nat.zero_add]at this;exact this⟩
theorem aen {α:Type}{f:Nat->Option α}:∀{n:Nat} {l:List α},(ct n).mapM f=some l->l.length=n/\∀i,i < n->f i=l[i]? :=by
 intro n l h;refine⟨by simpa using Lib.mapM_length h,λi hi=> ?_⟩;obtain⟨b,hb,hf⟩:=Lib.mapM_at h i i (by simp[hi]);rw[hb,hf]
theorem ahv {n:Nat}:∀{xs:List D},(∀x∈xs,x.cells.length=n)->0 < n->∀{q:Nat} {d:D},(flat xs)[q]? =some d->∃x,xs[q / n]? =some x/\x.cells[q % n]? =some d:=by
 intro xs hx hn q d hd;have hl:=qq n xs hx;have hq:=(aQ.1 hd).1;rw[hl]at hq;have hi:q / n < xs.length:=Nat.div_lt_of_lt_mul (by rw[OI];exact hq);have:=Im n xs (q / n) xs[q / n] hx (bS hi) (q % n) (Nat.mod_lt _ hn);rw[show q / n * n + q % n=q by rw[OI];exact Nat.div_add_mod q n]at this;exact⟨_,bS hi,by rw[<-this];exact hd⟩
theorem alf (a:Addr)(i j:Nat):(a.add i).add j=a.add (i + j):=by
 by_cases hi:i=0<;>by_cases hj:j=0<;>simp[Addr.add,hi,hj,Nat.add_assoc]
theorem tQ {t e:TypeId}{n:Nat}{α:Type}[Inhabited α]{f:α->D}{Q:List D->Prop}(ht:P.underlying t=some (.slice e))(hn:P.cellsOf e=n)(D6:0 < n)(he:gI enc P W e n Q)(hQ:∀ds,Q ds->ds.length=n->∃a,(f a).cells=ds):
  gI enc P W t 1 (λds=>∃xs:List α,ds=[.list (xs.map f)]/\xs.length<=9223372036854775807):=by
 intro fuel cs x h;rcases open_slice ht h with⟨rfl,hx⟩|⟨a,len,cap,m,k,DD,Pl,rfl,hb,hl,hm,TV,hx,eX⟩
 ·refine⟨rfl,[.list []],rfl,⟨[],rfl,by simp⟩,λq d hd=> ?_⟩
  match q,hd with
  |0,hd=>cases hd;exact⟨rfl,rfl, .nil _ _⟩
  |q + 1,hd=>simp at hd
 ·simp only[if_true]at TV;subst TV;have each:∀i,i < len->∃y:α,(f y).cells.length=n/\∀j d,(f y).cells[j]? =some d->∃v,W.cell? (a.add (i * n + j))=some v/\d.cells=[d]/\v.oneCell'=true/\Rel W (re W) v d:=λi hi=>by
   obtain⟨cm,h1,h2⟩:=eX i ae;rw[hn]at h1;unfold World.cells? at h1;rw[if_pos (bD _)]at h1;obtain⟨g1,g2⟩:=aen h1;obtain⟨l1,ds,l2,hq,bw⟩:=he _ _ _ h2;obtain⟨y,hy⟩:=hQ ds hq l2;refine⟨y,by rw[hy,l2],λj d hd=> ?_⟩;rw[hy]at hd;have hj:j < n:=by have:=(aQ.1 hd).1;omega
   obtain⟨r1,r2,r3⟩:=bw j d hd;have hc:=g2 j hj;rw[bS ae,alf]at hc;rw[ic,bS ae,Option.getD_some]at r2 r3;exact⟨_,hc,r1,r2,r3⟩
  obtain⟨y,hy⟩:=choose_lt each;have fV:∀x∈(((ct len).map y).map f),x.cells.length=n:=λx hx=>by
   obtain⟨z,hz,rfl⟩:=eJ.1 hx;obtain⟨i,hi,rfl⟩:=eJ.1 hz;exact(hy i (oR.1 hi)).1
  have hlen:(((ct len).map y).map f).length=len:=by simp
  have fv:=qq n _ fV;rw[hlen]at fv;have key:∀(q:Nat) (d:D),(flat (((ct len).map y).map f))[q]? =some d->∃v,W.cell? (a.add q)=some v/\d.cells=[d]/\v.oneCell'=true/\Rel W (re W) v d:=λq d hd=>by
   obtain⟨x,h1,h2⟩:=ahv fV D6 hd;have hi:q / n < len:=by have:=(aQ.1 h1).1;omega
   simp only[cO,List.getElem?_range hi,Option.map_some,gE]at h1;subst h1;have:=(hy (q / n) hi).2 (q % n) d h2;rw[show q / n * n + q % n=q by rw[OI];exact Nat.div_add_mod q n]at this;exact this
  refine⟨rfl,[.list (((ct len).map y).map f)],rfl,⟨_,rfl,by simp only[maxLen]at hm;simp;omega⟩,λq d hd=> ?_⟩
  match q,hd with
  |q + 1,hd=>simp at hd
  |0,hd=>
  cases hd;refine⟨rfl,rfl, .list _ _ _ _ _ n (λq=>(W.cell? (a.add q)).getD bp) hlen.symm fV hl (λq hq=> ?_) (λq d hd=> ?_)⟩
  ·obtain⟨v,h1,_,h3,_⟩:=key q _ (bS hq);exact⟨a,rfl,by rw[h1];rfl,by show(W.cell? _).isSome=true;rw[h1];rfl,by rw[h1];exact h3⟩
  ·obtain⟨v,h1,_,_,h4⟩:=key q d hd;show Rel W _ ((W.cell? (a.add q)).getD bp) d;rw[h1];exact h4
theorem aco {t:TypeId}{fs:Array Field}{m:Nat}{Q:List D->Prop}{base:Nat}{v:Value}{d:DataW H}{ps:List MemPlace}(hr:gI enc P W t m Q)(ht:P.underlying t=some (.struct fs))
  (mh:B5 P W .any base t v)(h:sC enc P W 0 (λ_=>true) true t v d ps):∃ds,Q ds/\Rel W (re W) v (.agg ds):=by
 obtain⟨vs,rfl,_⟩:=okWide_struct ht mh;obtain⟨fuel,hf⟩:=h;obtain⟨l1,ds,l2,hq,bw⟩:=hr _ _ _ hf;have wZ:(Value.agg vs).cells.toList=vs.toList:=rfl;rw[wZ]at l1 bw;have e:∀q,vs.toList.getD q bp=vs.getD q bp:=λq=>by
  rw[ic,lJ,FY]
 refine⟨ds,hq, .agg _ _ _ (by rw[<-JM];omega) (λq hq=> ?_) (λq d hd=> ?_)⟩
 ·have:=(bw q ds[q] (bS hq)).2.1;rw[e]at this;exact this
 ·have:=(bw q d hd).2.2;rw[e]at this;exact this
theorem QK {t:TypeId}{v:Value}{d:DataW H}{ps:List MemPlace}{Q:List D->Prop}(hr:gI enc P W t 1 Q)(hv:v.cells.toList=[v])(h:sC enc P W 0 (λ_=>true) true t v d ps):∃x,Q [x]/\Rel W (re W) v x:=by
 obtain⟨fuel,hf⟩:=h;obtain⟨l1,ds,l2,hq,bw⟩:=hr _ _ _ hf
 match ds,l2 with
 |[x],_=>
  have:=(bw 0 x rfl).2.2;rw[hv]at this;exact⟨x,hq,this⟩
end
end Go.Ab
set_option maxRecDepth 100000
namespace Go.Proofs.YtafmfhkplgapjaaGreatDoor
open Go.ChangeShapes Go.WideShapes Go.ChangeAt Go.RowKit Go.Ab
theorem own:ownKnob aa.godebug=none:=ax
theorem aeI:laidOutB aa=true:=ax
theorem aei:mapsRowed aa=true:=ax
theorem ahq:∀t e,t < aa.types.size->aa.underlying t=some (.slice e)->0 < aa.cellsOf e:=slices_full_of aa ax
abbrev yM:List (String×DataW Unit):=[("math/bits.deBruijn32tab",Rows.laid_math_bits_deBruijn32tab),("math/bits.deBruijn64tab",Rows.laid_math_bits_deBruijn64tab),("internal/strconv.uint64pow10",Rows.laid_internal_strconv_uint64pow10),("unicode/utf8.acceptRanges",Rows.laid_unicode_utf8_acceptRanges),("unicode/utf8.first",Rows.laid_unicode_utf8_first)]
section
variable {H:Type} {enc:TypeId×Value->H} {W:World}
theorem fG:gI enc aa W 3 1 (λds=>∃n:Int,ds=[i64 n]):=acs xR
theorem yA:gI enc aa W 49 2 (λds=>∃p:Int×Int,ds=[i64 p.1,i64 p.2]):=by
 intro fuel cs x h;have:=qM (enc:=enc) (W:=W) (P:=aa) (t:=49) (m:=2) underlying49 ax (.cons 0 1 2 _ _ _ _ rfl ax fG (.cons 1 1 2 _ _ _ _ rfl ax fG (.nil 2))) fuel cs x h;obtain⟨l1,ds,l2,⟨_,_,⟨a,rfl⟩,⟨_,_,⟨b,rfl⟩,rfl,rfl⟩,rfl⟩,h3⟩:=this;exact⟨l1,_,l2,⟨(a,b),rfl⟩,h3⟩
theorem QL:gI enc aa W 24 1 (λds=>∃l:List Int,ds=[.list (l.map (D.int .i64))]/\l.length<=9223372036854775807):=
 tQ underlying24 ax aE fG (λds ⟨c,h⟩ _=>⟨c,h.symm⟩)
theorem acI:gI enc aa W 23 1 (λds=>∃l:List (Int×Int),ds=[.list (l.map kd)]/\l.length<=9223372036854775807):=
 tQ underlying23 ax aE yA (λds ⟨c,h⟩ _=>⟨c,h.symm⟩)
theorem acV:gI enc aa W 114 3 (λds=>∃c:Ck,ds=[i64 c.day,i64 c.lo,i64 c.hi]):=by
 intro fuel cs x h;have:=qM (enc:=enc) (W:=W) (P:=aa) (t:=114) (m:=3) underlying114 ax (.cons 0 1 3 _ _ _ _ rfl ax fG (.cons 1 2 3 _ _ _ _ rfl ax yA (.nil 3))) fuel cs x h;obtain⟨l1,ds,l2,⟨_,_,⟨a,rfl⟩,⟨_,_,⟨b,rfl⟩,rfl,rfl⟩,rfl⟩,h3⟩:=this;exact⟨l1,_,l2,⟨⟨a,b.1,b.2⟩,rfl⟩,h3⟩
theorem acU:gI enc aa W 59 1 (λds=>∃l:List Ck,ds=[.list (l.map mE)]/\l.length<=9223372036854775807):=
 tQ underlying59 ax aE acV (λds ⟨c,h⟩ _=>⟨c,h.symm⟩)
theorem acH:gI enc aa W 61 9 (λds=>∃s:b9,ds=CM s/\s.ck.length<=9223372036854775807):=by
 intro fuel cs x h;have:=qM (enc:=enc) (W:=W) (P:=aa) (t:=61) (m:=9) underlying61 ax (.cons 0 2 9 _ _ _ _ rfl ax yA (.cons 2 2 9 _ _ _ _ rfl ax yA (.cons 4 1 9 _ _ _ _ rfl ax fG (.cons 5 1 9 _ _ _ _ rfl ax fG (.cons 6 1 9 _ _ _ _ rfl ax fG (.cons 7 1 9 _ _ _ _ rfl ax fG (.cons 8 1 9 _ _ _ _ rfl ax acU (.nil 9)))))))) fuel cs x h;obtain⟨l1,ds,l2,⟨_,_,⟨a,rfl⟩,⟨_,_,⟨b,rfl⟩,⟨_,_,⟨c,rfl⟩,⟨_,_,⟨d,rfl⟩,⟨_,_,⟨e,rfl⟩,⟨_,_,⟨f,rfl⟩,⟨_,_,⟨l,rfl,hl⟩,rfl,rfl⟩,rfl⟩,rfl⟩,rfl⟩,rfl⟩,rfl⟩,rfl⟩,h3⟩:=this;exact⟨l1,_,l2,⟨⟨a.1,a.2,b.1,b.2,c,d,e,f,l⟩,rfl,hl⟩,h3⟩
abbrev BS:Type:={x:b9×Int//x.1.ck.length<=9223372036854775807}
instance:Inhabited BS:=⟨⟨(⟨0,0,0,0,0,0,0,0,[]⟩,0),bD _⟩⟩
theorem acX:gI enc aa W 63 10 (λds=>∃x:BS,ds=(mF x.1).cells):=by
 intro fuel cs x h;have:=qM (enc:=enc) (W:=W) (P:=aa) (t:=63) (m:=10) underlying63 ax (.cons 0 9 10 _ _ _ _ rfl ax acH (.cons 9 1 10 _ _ _ _ rfl ax fG (.nil 10))) fuel cs x h;obtain⟨l1,ds,l2,⟨_,_,⟨s,rfl,hl⟩,⟨_,_,⟨n,rfl⟩,rfl,rfl⟩,rfl⟩,h3⟩:=this;exact⟨l1,_,l2,⟨⟨(s,n),hl⟩,rfl⟩,h3⟩
theorem acW:gI enc aa W 22 1 (λds=>∃l:List (b9×Int),ds=[.list (l.map mF)]/\l.length<=9223372036854775807/\∀i,i < l.length->(nth l i).1.ck.length<=9223372036854775807):=by
 intro fuel cs x h;have:=tQ (enc:=enc) (W:=W) (P:=aa) (t:=22) (f:=λx:BS=>mF x.1) underlying22 ax aE acX (λds ⟨c,h⟩ _=>⟨c,h.symm⟩) fuel cs x h;obtain⟨l1,ds,l2,⟨xs,rfl,hx⟩,h3⟩:=this;refine⟨l1,_,l2,⟨xs.map Cd,by rw[tA];rfl,by simpa using hx,λi hi=> ?_⟩,h3⟩;have fj:i < xs.length:=by simpa using hi
 have e:nth (xs.map Cd) i=(xs[i]).1:=by simp[nth,fj]
 rw[e];exact(xs[i]).2
theorem acT:gI enc aa W 26 3 (λds=>∃(fl:List (Int×Int)) (tu:List Int) (mo:Int),ds=BM fl tu mo/\fl.length<=9223372036854775807/\tu.length<=9223372036854775807):=by
 intro fuel cs x h;have:=qM (enc:=enc) (W:=W) (P:=aa) (t:=26) (m:=3) underlying26 ax (.cons 0 1 3 _ _ _ _ rfl ax acI (.cons 1 1 3 _ _ _ _ rfl ax QL (.cons 2 1 3 _ _ _ _ rfl ax fG (.nil 3)))) fuel cs x h;obtain⟨l1,ds,l2,⟨_,_,⟨a,rfl,ha⟩,⟨_,_,⟨b,rfl,hb⟩,⟨_,_,⟨c,rfl⟩,rfl,rfl⟩,rfl⟩,rfl⟩,h3⟩:=this;exact⟨l1,_,l2,⟨a,b,c,rfl,ha,hb⟩,h3⟩
theorem acD:gI enc aa W 28 3 (λds=>∃a b c:Int,ds=[i64 a,i64 b,i64 c]):=by
 intro fuel cs x h;have:=qM (enc:=enc) (W:=W) (P:=aa) (t:=28) (m:=3) underlying28 ax (.cons 0 1 3 _ _ _ _ rfl ax fG (.cons 1 1 3 _ _ _ _ rfl ax fG (.cons 2 1 3 _ _ _ _ rfl ax fG (.nil 3)))) fuel cs x h;obtain⟨l1,ds,l2,⟨_,_,⟨a,rfl⟩,⟨_,_,⟨b,rfl⟩,⟨_,_,⟨c,rfl⟩,rfl,rfl⟩,rfl⟩,rfl⟩,h3⟩:=this;exact⟨l1,_,l2,⟨a,b,c,rfl⟩,h3⟩
theorem acK:gI enc aa W 119 7 (λds=>∃r:qC,ds=(mP r).cells):=by
 intro fuel cs x h;have:=qM (enc:=enc) (W:=W) (P:=aa) (t:=119) (m:=7) underlying119 ax (.cons 0 1 7 _ _ _ _ rfl ax fG (.cons 1 1 7 _ _ _ _ rfl ax fG (.cons 2 1 7 _ _ _ _ rfl ax fG (.cons 3 2 7 _ _ _ _ rfl ax yA (.cons 5 1 7 _ _ _ _ rfl ax fG (.cons 6 1 7 _ _ _ _ rfl ax fG (.nil 7))))))) fuel cs x h;obtain⟨l1,ds,l2,⟨_,_,⟨a,rfl⟩,⟨_,_,⟨b,rfl⟩,⟨_,_,⟨c,rfl⟩,⟨_,_,⟨d,rfl⟩,⟨_,_,⟨e,rfl⟩,⟨_,_,⟨f,rfl⟩,rfl,rfl⟩,rfl⟩,rfl⟩,rfl⟩,rfl⟩,rfl⟩,h3⟩:=this;exact⟨l1,_,l2,⟨⟨a,b,c,d.1,d.2,e,f⟩,rfl⟩,h3⟩
theorem acP:gI enc aa W 123 3 (λds=>∃r:qE,ds=(mU r).cells):=by
 intro fuel cs x h;have:=qM (enc:=enc) (W:=W) (P:=aa) (t:=123) (m:=3) underlying123 ax (.cons 0 1 3 _ _ _ _ rfl ax fG (.cons 1 1 3 _ _ _ _ rfl ax fG (.cons 2 1 3 _ _ _ _ rfl ax fG (.nil 3)))) fuel cs x h;obtain⟨l1,ds,l2,⟨_,_,⟨a,rfl⟩,⟨_,_,⟨b,rfl⟩,⟨_,_,⟨c,rfl⟩,rfl,rfl⟩,rfl⟩,rfl⟩,h3⟩:=this;exact⟨l1,_,l2,⟨⟨a,b,c⟩,rfl⟩,h3⟩
theorem acM:gI enc aa W 125 4 (λds=>∃r:qD,ds=(mS r).cells):=by
 intro fuel cs x h;have:=qM (enc:=enc) (W:=W) (P:=aa) (t:=125) (m:=4) underlying125 ax (.cons 0 2 4 _ _ _ _ rfl ax yA (.cons 2 1 4 _ _ _ _ rfl ax fG (.cons 3 1 4 _ _ _ _ rfl ax fG (.nil 4)))) fuel cs x h;obtain⟨l1,ds,l2,⟨_,_,⟨a,rfl⟩,⟨_,_,⟨b,rfl⟩,⟨_,_,⟨c,rfl⟩,rfl,rfl⟩,rfl⟩,rfl⟩,h3⟩:=this;exact⟨l1,_,l2,⟨⟨a.1,a.2,b,c⟩,rfl⟩,h3⟩
theorem acJ:gI enc aa W 29 1 (λds=>∃l:List qC,ds=[.list (l.map mP)]/\l.length<=9223372036854775807):=
 tQ underlying29 ax aE acK (λds ⟨c,h⟩ _=>⟨c,h.symm⟩)
theorem acO:gI enc aa W 30 1 (λds=>∃l:List qE,ds=[.list (l.map mU)]/\l.length<=9223372036854775807):=
 tQ underlying30 ax aE acP (λds ⟨c,h⟩ _=>⟨c,h.symm⟩)
theorem acL:gI enc aa W 31 1 (λds=>∃l:List qD,ds=[.list (l.map mS)]/\l.length<=9223372036854775807):=
 tQ underlying31 ax aE acM (λds ⟨c,h⟩ _=>⟨c,h.symm⟩)
theorem acC:gI enc aa W 33 9 (λds=>∃w:oM,ds=kM w/\w.rp.length<=9223372036854775807/\w.lk.length<=9223372036854775807/\w.pt.length<=9223372036854775807):=by
 intro fuel cs x h;have:=qM (enc:=enc) (W:=W) (P:=aa) (t:=33) (m:=9) underlying33 ax (.cons 0 1 9 _ _ _ _ rfl ax fG (.cons 1 1 9 _ _ _ _ rfl ax acJ (.cons 2 1 9 _ _ _ _ rfl ax acO (.cons 3 1 9 _ _ _ _ rfl ax acL (.cons 4 1 9 _ _ _ _ rfl ax fG (.cons 5 1 9 _ _ _ _ rfl ax fG (.cons 6 1 9 _ _ _ _ rfl ax fG (.cons 7 1 9 _ _ _ _ rfl ax fG (.cons 8 1 9 _ _ _ _ rfl ax fG (.nil 9)))))))))) fuel cs x h;obtain⟨l1,ds,l2,⟨_,_,⟨a,rfl⟩,⟨_,_,⟨b,rfl,hb⟩,⟨_,_,⟨c,rfl,hc⟩,⟨_,_,⟨d,rfl,hd⟩,⟨_,_,⟨e,rfl⟩,⟨_,_,⟨f,rfl⟩,⟨_,_,⟨g,rfl⟩,⟨_,_,⟨i,rfl⟩,⟨_,_,⟨j,rfl⟩,rfl,rfl⟩,rfl⟩,rfl⟩,rfl⟩,rfl⟩,rfl⟩,rfl⟩,rfl⟩,rfl⟩,h3⟩:=this;exact⟨l1,_,l2,⟨⟨a,b,c,d,e,f,g,i,j⟩,rfl,hb,hc,hd⟩,h3⟩
theorem acN:gI enc aa W 35 3 (λds=>∃a b c:Int,ds=[i64 a,i64 b,i64 c]):=by
 intro fuel cs x h;have:=qM (enc:=enc) (W:=W) (P:=aa) (t:=35) (m:=3) underlying35 ax (.cons 0 1 3 _ _ _ _ rfl ax fG (.cons 1 1 3 _ _ _ _ rfl ax fG (.cons 2 1 3 _ _ _ _ rfl ax fG (.nil 3)))) fuel cs x h;obtain⟨l1,ds,l2,⟨_,_,⟨a,rfl⟩,⟨_,_,⟨b,rfl⟩,⟨_,_,⟨c,rfl⟩,rfl,rfl⟩,rfl⟩,rfl⟩,h3⟩:=this;exact⟨l1,_,l2,⟨a,b,c,rfl⟩,h3⟩
theorem acE:gI enc aa W 37 25 (λds=>∃s:aJ,ds=eb s/\Fm s):=by
 intro fuel cs x h;have:=qM (enc:=enc) (W:=W) (P:=aa) (t:=37) (m:=25) underlying37 ax (.cons 0 1 25 _ _ _ _ rfl ax acW (.cons 1 3 25 _ _ _ _ rfl ax acT (.cons 4 3 25 _ _ _ _ rfl ax acD (.cons 7 1 25 _ _ _ _ rfl ax fG (.cons 8 1 25 _ _ _ _ rfl ax fG (.cons 9 1 25 _ _ _ _ rfl ax fG (.cons 10 9 25 _ _ _ _ rfl ax acC (.cons 19 1 25 _ _ _ _ rfl ax fG (.cons 20 1 25 _ _ _ _ rfl ax QL (.cons 21 3 25 _ _ _ _ rfl ax acN (.cons 24 1 25 _ _ _ _ rfl ax fG (.nil 25)))))))))))) fuel cs x h;obtain⟨l1,ds,l2,⟨_,_,⟨st,rfl,mi,xa⟩,⟨_,_,⟨fl,tu,mo,rfl,hf,ht⟩,⟨_,_,⟨to,tf,tm,rfl⟩,⟨_,_,⟨wd,rfl⟩,⟨_,_,⟨rw,rfl⟩,⟨_,_,⟨sl,rfl⟩,⟨_,_,⟨w,rfl,hw1,hw2,hw3⟩,⟨_,_,⟨cl,rfl⟩,⟨_,_,⟨wt,rfl,hwt⟩,⟨_,_,⟨pb,pr,pl,rfl⟩,⟨_,_,⟨dy,rfl⟩,rfl,rfl⟩,rfl⟩,rfl⟩,rfl⟩,rfl⟩,rfl⟩,rfl⟩,rfl⟩,rfl⟩,rfl⟩,rfl⟩,h3⟩:=this;exact⟨l1,_,l2,⟨⟨st,fl,tu,mo,to,tf,tm,wd,rw,sl,w,cl,wt,pb,pr,pl,dy⟩,rfl,mi,hf,ht,hw1,hw2,hw3,hwt,xa⟩,h3⟩
theorem ak0 {base:Nat}{v:Value}{d:DataW H}{ps:List MemPlace}(mh:B5 aa W .any base 37 v)(h:sC enc aa W 0 (λ_=>true) true 37 v d ps):∃s:aJ,Fm s/\Rel W (re W) v (ji s):=by
 obtain⟨ds,⟨s,rfl,hs⟩,hr⟩:=aco acE underlying37 mh h;exact⟨s,hs,hr⟩
theorem acR:gI enc aa W 51 3 (λds=>∃c:aS,ds=[i64 c.p,i64 c.lo,i64 c.hi]):=by
 intro fuel cs x h;have:=qM (enc:=enc) (W:=W) (P:=aa) (t:=51) (m:=3) underlying51 ax (.cons 0 1 3 _ _ _ _ rfl ax fG (.cons 1 2 3 _ _ _ _ rfl ax yA (.nil 3))) fuel cs x h;obtain⟨l1,ds,l2,⟨_,_,⟨a,rfl⟩,⟨_,_,⟨b,rfl⟩,rfl,rfl⟩,rfl⟩,h3⟩:=this;exact⟨l1,_,l2,⟨⟨a,b.1,b.2⟩,rfl⟩,h3⟩
theorem acQ:gI enc aa W 38 1 (λds=>∃l:List aS,ds=[.list (l.map dU)]/\l.length<=9223372036854775807):=
 tQ underlying38 ax aE acR (λds ⟨c,h⟩ _=>⟨c,h.symm⟩)
abbrev OF:Type:={x:ByteArray//x.size<=9223372036854775807}
instance:Inhabited OF:=⟨⟨⟨#[]⟩,bD _⟩⟩
abbrev OE:Type:={g:List ByteArray//g.length<=9223372036854775807/\∀k,k < g.length->(nth g k).size<=9223372036854775807}
instance:Inhabited OE:=⟨⟨[],bD _,λk hk=>absurd hk (Nat.not_lt_zero k)⟩⟩
theorem Rz {α:Type}[Inhabited α]{p:α->Prop}[Inhabited {x:α//p x}]{xs:List {x:α//p x}}{i:Nat}(hi:i < (xs.map Cd).length):p (nth (xs.map Cd) i):=by
 have fj:i < xs.length:=by simpa using hi
 have e:nth (xs.map Cd) i=(xs[i]).1:=by simp[nth,fj]
 rw[e];exact(xs[i]).2
theorem acG:gI enc aa W 9 1 (λds=>∃c:OF,ds=[.str c.1]):=by
 intro fuel cs x h;obtain⟨s,rfl,_,hs⟩:=DataW.trod_string ia h;refine⟨rfl,[.str s],rfl,⟨⟨s,hs⟩,rfl⟩,λq d hd=> ?_⟩
 match q,hd with
 |0,hd=>cases hd;exact⟨rfl,rfl, .str _ _⟩
 |q + 1,hd=>simp at hd
theorem acF:gI enc aa W 79 1 (λds=>∃g:OE,ds=[aX g.1]):=by
 intro fuel cs x h;have:=tQ (enc:=enc) (W:=W) (P:=aa) (t:=79) (f:=λx:OF=>D.str x.1) underlying79 ax aE acG (λds ⟨c,h⟩ _=>⟨c,h.symm⟩) fuel cs x h;obtain⟨l1,ds,l2,⟨xs,rfl,hx⟩,h3⟩:=this;refine⟨l1,_,l2,⟨⟨xs.map Cd,by simpa using hx,λi hi=>Rz hi⟩, ?_⟩,h3⟩;simp only[aX,tA];rfl
theorem acS:gI enc aa W 39 1 (λds=>∃C:List (List ByteArray),ds=[.list (C.map aX)]/\JA C):=by
 intro fuel cs x h;have:=tQ (enc:=enc) (W:=W) (P:=aa) (t:=39) (f:=λx:OE=>aX x.1) underlying39 ax aE acF (λds ⟨c,h⟩ _=>⟨c,h.symm⟩) fuel cs x h;obtain⟨l1,ds,l2,⟨xs,rfl,hx⟩,h3⟩:=this;refine⟨l1,_,l2,⟨xs.map Cd, ?_,by simpa using hx,λi hi=>Rz hi⟩,h3⟩;rw[tA];rfl
theorem ak1 {base:Nat}{v:Value}{d:DataW H}{ps:List MemPlace}(mh:B5 aa W .any base 38 v)(h:sC enc aa W 0 (λ_=>true) true 38 v d ps):∃l:List aS,l.length<=9223372036854775807/\Rel W (re W) v (.list (l.map dU)):=by
 obtain⟨a0,l0,c0,rfl⟩:=okWide_slice underlying38 mh;obtain⟨x,⟨l,hx,hl⟩,hr⟩:=QK acQ rfl h;cases hx;exact⟨l,hl,hr⟩
theorem ak2 {base:Nat}{v:Value}{d:DataW H}{ps:List MemPlace}(mh:B5 aa W .any base 39 v)(h:sC enc aa W 0 (λ_=>true) true 39 v d ps):∃C:List (List ByteArray),JA C/\Rel W (re W) v (.list (C.map aX)):=by
 obtain⟨a0,l0,c0,rfl⟩:=okWide_slice underlying39 mh;obtain⟨x,⟨l,hx,hl⟩,hr⟩:=QK acS rfl h;cases hx;exact⟨l,hl,hr⟩
theorem IT {base:Nat}{v:Value}{d:DataW H}{ps:List MemPlace}(mh:B5 aa W .any base 3 v)(h:sC enc aa W 0 (λ_=>true) true 3 v d ps):∃n:Int,Rel W (re W) v (i64 n):=by
 obtain⟨n,rfl,_⟩:=open_int xR mh h;exact⟨n, .int _ _ _⟩
theorem ak_ (os:Os)(args:Array Value):laidMetH aa yM ((World.laidAll aa os yM).forCall (λ_ _=>0) ⟨#[],args,[]⟩).memory:=by
 rw[MakeChecks.laidMetH_plain _ _ _ ax];exact laidMet_laidAll _ ax ax
theorem ZY {W:World}(h:laidMetH aa yM W):lG W:=by
 rw[MakeChecks.laidMetH_plain _ _ _ ax]at h;obtain⟨ps,⟨g0,t0,iy,f0,p0,q0,hg0,ht0,mY,i_,⟨g1,t1,IE,f1,p1,q1,aK,ht1,LY,ng,⟨g2,t2,eF,f2,p2,q2,fk,ht2,ku,dQ,_,_⟩,_⟩,_⟩,_,_⟩:=h;have gN:aa.globalNamed "internal/strconv.uint64pow10" =some 1:=ax;obtain rfl:=iA (gN.symm.trans fk);have hT:∃t n e,(aa.globals[1]?).map (·.type)=some t/\aa.underlying t=some (.array n e)/\aa.underlying e=some (.int .u64)/\aa.cellsOf e=1/\aa.cellsOf t=n:=⟨315,20,269,ax,ax,ax,ax,ax⟩;obtain⟨t,n,e,a1,a2,a3,a4,a5⟩:=hT;obtain rfl:=iA (a1.symm.trans ht2);have aw:=Lib.cells_of_tab (zs:=Lib.pow10Tab) a2 a3 a4 a5 dQ;intro b vs hv;unfold CK at hv;split at hv
 ·cases hv;unfold World.var? at ku;rw[gN]at ku;simp only[Option.bind_some]at ku;split at ku
  ·rename_i cs tt fz hh;cases ku;refine⟨tt,fz, ?_⟩;rw[hh,<-aw]
  ·cases ku
 ·cases hv
end
end Go.Proofs.YtafmfhkplgapjaaGreatDoor
namespace Go.Proofs.YtafmfhkplgapjaaGreatDoor
set_option maxRecDepth 100000
set_option maxHeartbeats 4000000
open Go.Ab
attribute[local irreducible] av dL dY ak aH cY IA ez aP fM
theorem jR {ds:List D}(h:bN 0 0 ds=true):∀x∈ds,Names 0 0 x:=yJ ds h
theorem wP {ds:List D}{nb nr:Nat}(h:bN nb nr ds=true):∀x∈ds,cq nb nr x=true:=λx hx=>by
 induction ds with
 |nil=>cases hx
 |cons d ds ih=>
  simp only[bN,c_]at h;rcases eK.1 hx with rfl|hx
  ·exact h.1
  ·exact ih h.2 hx
theorem Ys (s:aJ)(aW:kJ s)(n cap na m dz:Nat)(st dy:Int)(C:List (List ByteArray))(f_:sq C)(xs P U:List D)(S:List aS)(A:List Int)(hS:S.length<=6)(iq:dB s.wd.toNat s.rw.toNat s.sl S)(mr:na<=6)(hP:∀d∈P,Names 0 0 d)(hU:∀d∈U,Names 0 0 d)(lz:P.length=dz * 4)(Ex:U.length=(cap - dz - 1) * 4)(hz:(0<=dy/\dy<=s.dy - 1)->dz=dy.toNat)(qm:dz < n)(iR:(n:Int)=s.dy)(hn:n<=cap):
  (∃code:Int,code≠0/\cY aa 3 m 10 [.box 0 0,i64 st,i64 dy, .list (C.map aX)] [.mu (ay s n cap 0), .mp [], .mu (dK s P U S), .mp (db A)] [dC xs,az na] (aT (i64 code) [.mu (ay s n cap 0), .mp [], .mu (dK s P U S), .mp (db A)] [dC xs,az na]))\/
  ((0<=st/\st<=(s.aL.length:Int) - 1)/\(0<=dy/\dy<=s.dy - 1)/\ja s C=0/\fp s.wd.toNat s.sl (S++[⟨(nth s.aL st.toNat).2,(bW (dM s C) (dM s C).length).1,(bW (dM s C) (dM s C).length).2⟩])):=by
 have aw:∀d∈dK s P U S,Names 0 0 d:=ow hP hU;have dS:=aW.2.1;have kW:∀x∈[D.box 0 0,i64 st,i64 dy, .list (C.map aX)],cq 3 2 x=true:=wP rfl;have ga:(∃code:Int,(code=2\/code=7)/\aH aa 10 [.box 0 0,i64 st,i64 dy, .list (C.map aX)] [.mu (ay s n cap 0), .mp [], .mu (dK s P U S)] [dC xs,az na] (aT (i64 code) [.mu (ay s n cap 0), .mp [], .mu (dK s P U S)] [dC xs,az na]))->
   ∃code:Int,code≠0/\cY aa 3 m 10 [.box 0 0,i64 st,i64 dy, .list (C.map aX)] [.mu (ay s n cap 0), .mp [], .mu (dK s P U S), .mp (db A)] [dC xs,az na] (aT (i64 code) [.mu (ay s n cap 0), .mp [], .mu (dK s P U S), .mp (db A)] [dC xs,az na]):=by
  rintro⟨code,h1,h2⟩;exact⟨code,ae,xD m A h2 aw aw kW (.int _ _)⟩
 by_cases aM:0<=st/\st<=(s.aL.length:Int) - 1
 ·by_cases hr:0<=dy/\dy<=s.dy - 1
  ·have qV:=hz hr;have zg:(dK s P U S).drop (dy.toNat * 4)=cx s.wd.toNat s.rw.toNat s.sl S++U:=ET (by rw[lz,qV]);have hlen:(dK s P U S).length=cap * 4:=BI lz ae Ex;by_cases he:ja s C=0
   ·by_cases hc:fp s.wd.toNat s.sl (S++[⟨(nth s.aL st.toNat).2,(bW (dM s C) (dM s C).length).1,(bW (dM s C) (dM s C).length).2⟩])
    ·exact .inr ⟨aM,hr,he,hc⟩
    ·exact .inl (ga (Pe s aW (dC xs) n cap na st 0 dy _ C aw f_ ae U S aM hr zg hlen hn ae ae ae iq (.inr ⟨he,λl hl=>by rw[hl];exact hc⟩)))
   ·exact .inl (ga (Pe s aW (dC xs) n cap na st 0 dy _ C aw f_ ae U S aM hr zg hlen hn ae ae ae iq (.inl he)))
  ·exact .inl (ga (Pf s aW (dC xs) n cap na st 0 dy _ C aw f_ ae (.inr hr)))
 ·exact .inl (ga (Pf s aW (dC xs) n cap na st 0 dy _ C aw f_ ae (.inl aM)))
abbrev yn (s:aJ)(st:Int)(C:List (List ByteArray)):aS:=⟨(nth s.aL st.toNat).2,(bW (dM s C) (dM s C).length).1,(bW (dM s C) (dM s C).length).2⟩
theorem Pd (s:aJ)(aW:kJ s)(n cap na m dz:Nat)(st dy:Int)(C:List (List ByteArray))(f_:sq C)(xs P U:List D)(S:List aS)(A:List Int)(hS:S.length<=6)(iq:dB s.wd.toNat s.rw.toNat s.sl S)(mr:na<=6)(hP:∀d∈P,Names 0 0 d)(hU:∀d∈U,Names 0 0 d)(lz:P.length=dz * 4)(Ex:U.length=(cap - dz - 1) * 4)(hz:(0<=dy/\dy<=s.dy - 1)->dz=dy.toNat)(qm:dz < n)(iR:(n:Int)=s.dy)(hn:n<=cap)
  (aM:0<=st/\st<=(s.aL.length:Int) - 1)(hr:0<=dy/\dy<=s.dy - 1)(he:ja s C=0)(hc:fp s.wd.toNat s.sl (S++[yn s st C])):
  cY aa 3 m 10 [.box 0 0,i64 st,i64 dy, .list (C.map aX)] [.mu (ay s n cap 0), .mp [], .mu (dK s P U S), .mp (db A)] [dC xs,az na] (aT (i64 0) [.mu (ay s n cap (ox s.to s.tf s.tm (s.fl.length + 1) C.length)), .mp [], .mu (dK s P U (S++[yn s st C])), .mp (db A)] [dC xs,az (na + 1)]):=by
 have aw:∀d∈dK s P U S,Names 0 0 d:=ow hP hU;have dS:=aW.2.1;have kW:∀x∈[D.box 0 0,i64 st,i64 dy, .list (C.map aX)],cq 3 2 x=true:=wP rfl;have qV:=hz hr;have zg:(dK s P U S).drop (dy.toNat * 4)=cx s.wd.toNat s.rw.toNat s.sl S++U:=ET (by rw[lz,qV]);have hlen:(dK s P U S).length=cap * 4:=BI lz ae Ex;have h:=Pc s aW (dC xs) n cap na st 0 dy _ C aw f_ ae U S aM hr zg hlen hn ae ae ae iq ae he _ rfl hc;rw[V2 (by rw[lz,qV]),Int.zero_add]at h;exact xD m A h aw (ow hP hU) kW (.int _ _)
theorem Sh {s:aJ}(aW:kJ s){S:List aS}{st:Int}{C:List (List ByteArray)}(iq:dB s.wd.toNat s.rw.toNat s.sl S)(hS:S.length<=6)(aM:0<=st/\st<=(s.aL.length:Int) - 1)(he:ja s C=0):dB s.wd.toNat s.rw.toNat s.sl (S++[yn s st C]):=by
 refine Ln iq ae ⟨?_,aaZ aW he⟩;rw[(CS aW.2.2.1).1,(CS aW.2.2.1).2];exact(aW.2.2.2.1 st.toNat ae).1
theorem acd (s:aJ)(hs:Fm s)(SH:List aS)(hSH:SH.length<=9223372036854775807)(st dy:Int)(C:List (List ByteArray))(hC:JA C)(pt lv:Int)(c7:ak aa 7 [] (.bool true)):
  ak aa 3 [ji s, .list (SH.map dU),i64 st,i64 dy, .list (C.map aX),i64 pt,i64 lv] (.bool true):=by
 have c1:=aa4 s hs;have c3:=akL C hC;have MP:=hC.1;by_cases dw:qB s/\kJ s/\SH.length<=6/\tD C/\1<=C.length
 ·obtain⟨Hx,aW,H7,lx,By⟩:=dw;have c2:=Qt s Hx hs;rw[decide_eq_true Hx]at c1;rw[decide_eq_true aW]at c2;rw[decide_eq_true lx]at c3;have dS:=aW.2.1;have aR:=aW.2.2.1;obtain⟨n,hn⟩:∃n:Nat,n=s.dy.toNat:=⟨_,rfl⟩;have iR:(n:Int)=s.dy:=ae;obtain⟨dz,qm,hz⟩:∃dz:Nat,dz < n/\((0<=dy/\dy<=s.dy - 1)->dz=dy.toNat):=by
   by_cases h:0<=dy/\dy<=s.dy - 1
   ·exact⟨dy.toNat,ae,λ_=>rfl⟩
   ·exact⟨0,ae,λh'=>absurd h' h⟩
  refine cT Jj ntmps3 results3 call3 λw0 S0 M0=> ?_;refine alo (λt ht=> ?_);have cQ:=Rs s aW Hx t;rw[<-hn]at cQ;repeat'(first|(show av _ (.region 3 _ _) _ _;refine et 1 rfl (λK1 aA=> ?_);refine aj ?_)|(refine aA _ (iK cQ (bC rfl) rfl rfl rfl rfl ?_);clear aA K1;rintro d aB aD ⟨csA,ca,ED,rfl,rfl,rfl⟩;simp only[aU,Nat.reduceAdd];refine aj ?_)|(show av _ (.region 4 _ _) _ _;refine bJ ?_)|refine aq ?_|refine au λK hK=> ?_|refine cA (c1) ?_|refine cA (c2) ?_|refine cA (c3) ?_|(intro hg;try exact ai)|exact fin|apply af)
  refine b_ ?_;have cB:=adH s aW Hx t (t + 1) ca csA (Dq ED);rw[<-hn]at cB;repeat'(first|(show av _ (.region 4 _ _) _ _;refine et 1 rfl (λK1 aA=> ?_);refine aj ?_)|(refine aA _ (iK cB (bC rfl) rfl rfl rfl rfl ?_);clear aA K1;rintro d aB aD ⟨csB,cb,H5,rfl,rfl,rfl⟩;simp only[aU,Nat.reduceAdd];refine aj ?_)|(show av _ (.seq (.seq (.region 7 _ _) _) _) _ _;refine bJ ?_)|refine aq ?_|refine au λK hK=> ?_|(intro hg;try exact ai)|exact fin|apply af)
  refine b_ ?_;have HX:=ED.2.1;have zk:=H5.2.1;refine ep (jQ [(1, .list (SH.map dU)),(2,i64 st),(3,i64 dy),(4, .list (C.map aX)),(5,i64 pt),(6,i64 lv),(15, .box 1 0),(17, .box 4 0)] (by simp[put])) ?_;refine ep (C4 [1,2,3,4,5,6] (l':=[(1, .list (SH.map dU)),(2,i64 st),(3,i64 dy),(4, .list (C.map aX)),(5,i64 pt),(6,i64 lv),(15, .box 0 0),(17, .box 3 0)]) (aB:=[.mu (np s n ca 0 0 0), .mp [], .mu csA, .mu (np s n cb 0 3 2), .mp [], .mu csB]) aE (λi hi=>by cases hi) rfl ?_) ?_
  ·have e1:ko (pos [1,2,3,4,5,6] 0) csA=csA:=AD (Dq ED);have e2:ko (pos [1,2,3,4,5,6] 0) csB=csB:=AD (Dq H5);simp only[qL,ib,nz,List.getElem?_cons_zero,List.getElem?_cons_succ,nL,e1,e2];rfl
  obtain⟨Px,Pw⟩:=Sf aR ED qm;obtain⟨Pv,Pu⟩:=Sf aR H5 qm;refine ep (bX.Wm 2 rfl Px Pw) ?_;refine ep (bX.Wm 5 rfl Pv Pu) ?_;refine aln ht qm (λp e he=> ?_) (λm1 m2 xA xB w1 S1 M1 o1 b1 hb8 h6 h7 hxA hxB agX agW=> ?_)
  ·simp only[eK,ny,or_false]at he;rcases he with rfl|rfl|rfl|rfl|rfl|rfl|rfl|rfl<;>first|rfl|exact sL (λx=>rfl)|exact sL (λx=>sL (λy=>rfl))
  clear Px Pw Pv Pu ED H5 cQ cB c1 c2 c3;have nj:=J1 (dz * 4);have lz:(jv (dz * 4)).length=dz * 4:=uL;generalize jv (dz * 4)=P at *;have xu:=J1 ((ca - dz - 1) * 4);have MG:(jv ((ca - dz - 1) * 4)).length=(ca - dz - 1) * 4:=uL;generalize jv ((ca - dz - 1) * 4)=UA at *;have vF:=J1 ((cb - dz - 1) * 4);have H4:(jv ((cb - dz - 1) * 4)).length=(cb - dz - 1) * 4:=uL;generalize jv ((cb - dz - 1) * 4)=UB at *;repeat'(first|(show av _ (.loop _) _ _;refine bJ ?_)|refine aq ?_|refine au λK hK=> ?_|(intro hg;try exact ai)|exact fin|apply af)
  refine b_ ?_;refine dn (ι:=Nat) (λi=>[(1, .list (SH.map dU)),(2,i64 st),(3,i64 dy),(4, .list (C.map aX)),(5,i64 pt),(6,i64 lv),(15, .box 0 0),(17, .box 3 0),(19,i64 (i:Nat))]) (λi=>qK s n ca cb 0 0 (dK s P UA (dO s dy SH i).1) (dK s P UB (dO s dy SH i).1) (dO s dy SH i).2 (dO s dy SH i).2) (λi=>Am xA xB (dO s dy SH i).1.length (dO s dy SH i).1.length) (λi=>i<=SH.length) (λi=>SH.length - i) (λi _=>⟨rfl,YZ s n ca cb 0 0 _ _ (ow nj xu) (ow nj vF)⟩) 0 (bD _) (br rfl (by try refine aj ?_;try simp[fN,gk,put]) ⟨[],rfl⟩ ⟨[],rfl⟩) (λi hi=> ?_);by_cases aG:i < SH.length
  ·have hA:=EI (cb:=cb) (nB:=(dO s dy SH i).1.length) (coB:=0) (csB:=dK s P UB (dO s dy SH i).1) (xB:=xB) (B:=(dO s dy SH i).2) (P' s aW n ca m1 dy SH xA P UA i 0 dz ae nj xu lz MG hz qm iR HX hxA agX) (ow nj xu) (ow nj xu) (ow nj vF) (jR rfl) (.int _ _);have hB:=BB (ca:=ca) (nA:=(dO s dy SH (i + 1)).1.length) (coA:=0) (csA:=dK s P UA (dO s dy SH (i + 1)).1) (xA:=xA) (A:=(dO s dy SH (i + 1)).2) (P' s aW n cb m2 dy SH xB P UB i 0 dz ae nj vF lz H4 hz qm iR zk hxB agW) (ow nj xu) (ow nj vF) (ow nj vF) (jR rfl) (.int _ _);refine aj ?_;repeat'(first|(show av _ (.region 10 _ true) _ _;refine bJ ?_)|refine aq ?_|refine au λK hK=> ?_|(intro hg;try exact ai)|exact fin|apply af)
   refine b_ ?_;refine ep (jQ [(1, .list (SH.map dU)),(2,i64 st),(3,i64 dy),(4, .list (C.map aX)),(5,i64 pt),(6,i64 lv),(15, .box 0 0),(17, .box 3 0),(19,i64 (i:Nat))] (by simp[put])) ?_;refine acf (by rfl) w1 S1 M1 o1 b1 m1 h6 SH i aG H7 st dy pt lv _ 0 C _ _ _ _ rfl hA _ ?_;simp only[e_,cond_true,cj,bH];repeat'(first|(show av _ (.region 11 _ true) _ _;refine bJ ?_)|refine aq ?_|refine au λK hK=> ?_|(intro hg;try exact ai)|exact fin|apply af)
   refine b_ ?_;refine ep (jQ [(1, .list (SH.map dU)),(2,i64 st),(3,i64 dy),(4, .list (C.map aX)),(5,i64 pt),(6,i64 lv),(15, .box 0 0),(17, .box 3 0),(19,i64 (i:Nat)),(20,i64 (u3 s dy SH i))] (by simp[put,fN,gk])) ?_;refine ace (by rfl) w1 S1 M1 o1 b1 m2 h7 SH i aG H7 st dy pt lv _ (u3 s dy SH i) C _ _ _ _ rfl hB _ ?_;simp only[e_,cond_true,cj,bH];repeat'(first|refine aq ?_|refine au λK hK=> ?_|(intro hg;try exact ai)|exact fin|apply af)
   all_goals first|exact⟨i + 1,ae,ae,bY⟩
  ·obtain rfl:i=SH.length:=ae;obtain⟨hS6,_,_⟩:=Gz s dy SH SH.length;have iq:=Kq aR dy SH SH.length ae;generalize(dO s dy SH SH.length).1=S at *;generalize(dO s dy SH SH.length).2=A at *;have Mv:=ow (s:=s) (S:=S) nj xu;have Mu:=ow (s:=s) (S:=S) nj vF;rcases Ys s aW n cb S.length m2 dz st dy C (Ks lx By) xB P UB S A ae iq ae nj vF lz H4 hz qm iR zk with⟨code,td,hw⟩|⟨aM,hr,he,hc⟩
   ·have cw:=BB (ca:=ca) (nA:=S.length) (coA:=0) (xA:=xA) (A:=A) hw Mv Mu Mu (jR rfl) (.int _ _);refine aj ?_;repeat'(first|(show av _ (.region 14 _ _) _ _;refine oL 7 m2 4 rfl (λK1 aA=> ?_);refine aj ?_)|(refine aA _ (jL h7 cw (bC rfl) rfl rfl rfl rfl ?_);clear aA K1;rintro d aB aD ⟨rfl,rfl,rfl⟩;simp only[aU,Nat.reduceAdd];refine aj ?_)|refine aq ?_|refine au λK hK=> ?_|refine cA (c7) ?_|(intro hg;try exact ai)|exact fin|apply af)
    all_goals first|omega
   ·obtain⟨Er,vE⟩:=akK lx By;have UC:=ahQ he;obtain⟨afX,afW⟩:=aaY he;have Mb:xY (S++[yn s st (C.take 1)]) (S++[yn s st C]):=ad4 afX afW;have vB:=adU Mb hc;have HJ:=Sh (C:=C.take 1) aW iq ae aM UC;have HI:=Sh aW iq ae aM he;have Me:=Qi HJ HI hc Mb pt lv false;have HP:=Qi HJ HI hc Mb pt lv true;have amQ:=ajQ (n:=(s.fl.length:Int) + 1) (k:=C.length) aW.2.2.2.2.2.1 (by have:=aW.2.2.2.2.1.2.2.1;omega) (by have:=lx.1;omega);have wB:=Pd s aW n cb S.length m2 dz st dy C (Ks lx By) xB P UB S A ae iq ae nj vF lz H4 hz qm iR zk aM hr he hc;have wA:=Pd s aW n ca S.length m1 dz st dy (C.take 1) (Ks Er ae) xA P UA S A ae iq ae nj xu lz MG hz qm iR HX aM hr UC vB;rw[vE]at wA;have qV:=hz hr;generalize S++[yn s st C]=SB at *;generalize S++[yn s st (C.take 1)]=SA at *;generalize ox s.to s.tf s.tm (s.fl.length + 1) C.length=coB at *;generalize ox s.to s.tf s.tm (s.fl.length + 1) (1:Nat)=coA at *;have mw:=ow (s:=s) (S:=SA) nj xu;have lS:=ow (s:=s) (S:=SB) nj vF;have UI:(dK s P UA SA).drop (dy.toNat * 4)=cx s.wd.toNat s.rw.toNat s.sl SA++UA:=ET (by rw[lz,qV]);have UH:(dK s P UB SB).drop (dy.toNat * 4)=cx s.wd.toNat s.rw.toNat s.sl SB++UB:=ET (by rw[lz,qV]);have T_:(dK s P UA SA).length=ca * 4:=BI lz ae MG;have T9:(dK s P UB SB).length=cb * 4:=BI lz ae H4;have cwB:=BB (ca:=ca) (nA:=S.length) (coA:=0) (xA:=xA) (A:=A) wB Mv lS Mu (jR rfl) (.int _ _);have cwA:=EI (cb:=cb) (nB:=S.length + 1) (coB:=coB) (csB:=dK s P UB SB) (xB:=xB) (B:=A) wA Mv mw lS (jR rfl) (.int _ _);have lA:=EI (cb:=cb) (nB:=S.length + 1) (coB:=coB) (csB:=dK s P UB SB) (xB:=xB) (B:=A) (xD m1 A (Si s n ca coA dy _ UA _ _ _ SA (dC xA) (S.length + 1) pt lv mw ae hr UI T_ HX ae ae HJ vB) mw mw (wP rfl) (.aF _ (jR rfl))) mw mw lS (jR rfl) (.aF _ (jR rfl));have lB:=BB (ca:=ca) (nA:=S.length + 1) (coA:=coA) (csA:=dK s P UA SA) (xA:=xA) (A:=A) (xD m2 A (Si s n cb coB dy _ UB _ _ _ SB (dC xB) (S.length + 1) pt lv lS ae hr UH T9 zk ae ae HI hc) lS lS (wP rfl) (.aF _ (jR rfl))) mw lS lS (jR rfl) (.aF _ (jR rfl));have gA:=EI (cb:=cb) (nB:=S.length + 1) (coB:=coB) (csB:=dK s P UB SB) (xB:=xB) (B:=A) (xD m1 A (Uh s n ca coA dy _ UA _ _ _ SA (dC xA) (S.length + 1) pt lv mw ae hr UI T_ HX ae ae HJ vB) mw mw (wP rfl) (.aF _ (jR rfl))) mw mw lS (jR rfl) (.aF _ (jR rfl));have gB:=BB (ca:=ca) (nA:=S.length + 1) (coA:=coA) (csA:=dK s P UA SA) (xA:=xA) (A:=A) (xD m2 A (Uh s n cb coB dy _ UB _ _ _ SB (dC xB) (S.length + 1) pt lv lS ae hr UH T9 zk ae ae HI hc) lS lS (wP rfl) (.aF _ (jR rfl))) mw lS lS (jR rfl) (.aF _ (jR rfl));have oA:=EI (cb:=cb) (nB:=S.length + 1) (coB:=coB) (csB:=dK s P UB SB) (xB:=xB) (B:=A) (ds:=[]) (xD m1 A (NK s (.aN 2 0 n ca) (.own 0) (.bu 1) coA (.own 1) [.mp [], .mu (dK s P UA SA)] [dC xA,az (S.length + 1)]) mw mw (wP rfl) (.aF _ (jR rfl))) mw mw lS (jR rfl) (.aF _ (jR rfl));have oB:=BB (ca:=ca) (nA:=S.length + 1) (coA:=coA) (csA:=dK s P UA SA) (xA:=xA) (A:=A) (ds:=[]) (xD m2 A (NK s (.aN 2 0 n cb) (.own 0) (.bu 1) coB (.own 1) [.mp [], .mu (dK s P UB SB)] [dC xB,az (S.length + 1)]) lS lS (wP rfl) (.aF _ (jR rfl))) mw lS lS (jR rfl) (.aF _ (jR rfl));obtain⟨eN,kU⟩:=Me;obtain⟨fk,aK⟩:=HP;rw[eN]at lA;rw[fk]at gA;generalize(iE s.wd.toNat s.rw.toNat s.sl SA pt lv false).1=v at *;generalize(iE s.wd.toNat s.rw.toNat s.sl SB pt lv false).1=w at *;generalize(iE s.wd.toNat s.rw.toNat s.sl SA pt lv true).1=x at *;generalize(iE s.wd.toNat s.rw.toNat s.sl SB pt lv true).1=y at *;generalize(iE s.wd.toNat s.rw.toNat s.sl SB pt lv false).2=ee at *;generalize(iE s.wd.toNat s.rw.toNat s.sl SB pt lv true).2=ff at *;have agO:∀d∈C.map aX,d.cells.length=1:=λd hd=>by obtain⟨g,_,rfl⟩:=eJ.1 hd;rfl
    have kD:List.take 1 (List.map aX C)=(C.take 1).map aX:=List.map_take.symm;refine sX (@kD) ?_;repeat'(first|(exact agO)|(show av _ (.region 14 _ _) _ _;refine oL 7 m2 4 rfl (λK1 aA=> ?_);(refine sX (@kD) ?_))|(refine aA _ (jL h7 cwB (bC rfl) rfl rfl rfl rfl ?_);clear aA K1;rintro d aB aD ⟨rfl,rfl,rfl⟩;simp only[aU,Nat.reduceAdd];(refine sX (@kD) ?_))|(show av _ (.region 16 _ _) _ _;refine oL 6 m1 5 rfl (λK1 aA=> ?_);(refine sX (@kD) ?_))|(refine aA _ (jL h6 cwA (bC rfl) rfl rfl rfl rfl ?_);clear aA K1;rintro d aB aD ⟨rfl,rfl,rfl⟩;simp only[aU,Nat.reduceAdd];(refine sX (@kD) ?_))|(show av _ (.region 18 _ _) _ _;refine oL 6 m1 4 rfl (λK1 aA=> ?_);(refine sX (@kD) ?_))|(refine aA _ (jL h6 lA (bC rfl) rfl rfl rfl rfl ?_);clear aA K1;rintro d aB aD ⟨rfl,rfl,rfl⟩;simp only[aU,Nat.reduceAdd];(refine sX (@kD) ?_))|(show av _ (.region 19 _ _) _ _;refine oL 7 m2 4 rfl (λK1 aA=> ?_);(refine sX (@kD) ?_))|(refine aA _ (jL h7 lB (bC rfl) rfl rfl rfl rfl ?_);clear aA K1;rintro d aB aD ⟨rfl,rfl,rfl⟩;simp only[aU,Nat.reduceAdd];(refine sX (@kD) ?_))|(show av _ (.region 20 _ _) _ _;refine oL 6 m1 4 rfl (λK1 aA=> ?_);(refine sX (@kD) ?_))|(refine aA _ (jL h6 gA (bC rfl) rfl rfl rfl rfl ?_);clear aA K1;rintro d aB aD ⟨rfl,rfl,rfl⟩;simp only[aU,Nat.reduceAdd];(refine sX (@kD) ?_))|(show av _ (.region 21 _ _) _ _;refine oL 7 m2 4 rfl (λK1 aA=> ?_);(refine sX (@kD) ?_))|(refine aA _ (jL h7 gB (bC rfl) rfl rfl rfl rfl ?_);clear aA K1;rintro d aB aD ⟨rfl,rfl,rfl⟩;simp only[aU,Nat.reduceAdd];(refine sX (@kD) ?_))|(show av _ (.region 22 _ _) _ _;refine oL 6 m1 1 rfl (λK1 aA=> ?_);(refine sX (@kD) ?_))|(refine aA _ (jL h6 oA (bC rfl) rfl rfl rfl rfl ?_);clear aA K1;rintro d aB aD ⟨rfl,rfl,rfl⟩;simp only[aU,Nat.reduceAdd];(refine sX (@kD) ?_))|(show av _ (.region 23 _ _) _ _;refine oL 7 m2 1 rfl (λK1 aA=> ?_);(refine sX (@kD) ?_))|(refine aA _ (jL h7 oB (bC rfl) rfl rfl rfl rfl ?_);clear aA K1;rintro d aB aD ⟨rfl,rfl,rfl⟩;simp only[aU,Nat.reduceAdd];(refine sX (@kD) ?_))|(show av _ (.region 24 _ _) _ _;refine bJ ?_)|refine bh ?_|((first|refine bj λK hK=> ?_|refine bg ?_|show bb _ _ _ _ _);(refine sX (@kD) ?_))|(intro hg;try exact ai)|exact fin|apply af)
    refine b_ ?_;have hv:v=2\/(v≠2/\v=w):=ae;have hx:x=2\/(x≠2/\x=y):=ae;rcases hv with rfl|⟨hv,rfl⟩
    ·rcases hx with rfl|⟨hx,rfl⟩
     ·skip
      repeat'(first|refine bh ?_|((first|refine bj λK hK=> ?_|refine bg ?_|show bb _ _ _ _ _|refine bo (c7) ?_);(refine sX (@kD) ?_))|(intro hg;try exact ai)|exact fin|apply af)
      all_goals first|omega
     ·skip
      repeat'(first|refine bh ?_|((first|refine bj λK hK=> ?_|refine bg ?_|show bb _ _ _ _ _|refine bo (c7) ?_);(refine sX (@kD) ?_))|(intro hg;try exact ai)|exact fin|apply af)
      all_goals first|omega
    ·rcases hx with rfl|⟨hx,rfl⟩
     ·skip
      repeat'(first|refine bh ?_|((first|refine bj λK hK=> ?_|refine bg ?_|show bb _ _ _ _ _|refine bo (c7) ?_);(refine sX (@kD) ?_))|(intro hg;try exact ai)|exact fin|apply af)
      all_goals first|omega
     ·skip
      repeat'(first|refine bh ?_|((first|refine bj λK hK=> ?_|refine bg ?_|show bb _ _ _ _ _|refine bo (c7) ?_);(refine sX (@kD) ?_))|(intro hg;try exact ai)|exact fin|apply af)
      all_goals first|omega
 ·refine cT Jj ntmps3 results3 call3 λw0 S0 M0=> ?_;repeat'(first|(show av _ (.region 3 _ _) _ _;refine bJ ?_)|refine aq ?_|refine au λK hK=> ?_|refine cA (c1) ?_|refine cA (Qt s ‹qB s› hs) ?_|refine cA (c3) ?_|refine cA (c7) ?_|(intro hg;try exact ai)|exact fin|apply af)
  all_goals refine b_ ?_
  exact absurd ⟨‹qB s›,‹kJ s›,ae,‹tD C›,ae⟩ dw
end Go.Proofs.YtafmfhkplgapjaaGreatDoor
namespace Go.Proofs.YtafmfhkplgapjaaGreatDoor
set_option maxRecDepth 100000
theorem Zq:((Rows.topRepeatsRow.inPlace == aa.inPlace 3))=true:=by kernel_rfl
end Go.Proofs.YtafmfhkplgapjaaGreatDoor
namespace Go.Proofs.YtafmfhkplgapjaaGreatDoor
set_option maxRecDepth 100000
theorem ZS:((Rows.topRepeatsRow.unfollowed == aa.unfollowed 3))=true:=by kernel_rfl
end Go.Proofs.YtafmfhkplgapjaaGreatDoor
namespace Go.Proofs.YtafmfhkplgapjaaGreatDoor
set_option maxRecDepth 100000
theorem ZR:((Rows.topRepeatsRow.recurses == aa.recurses 3))=true:=by kernel_rfl
end Go.Proofs.YtafmfhkplgapjaaGreatDoor
namespace Go.Proofs.YtafmfhkplgapjaaGreatDoor
set_option maxRecDepth 100000
theorem ZQ:((Rows.topRepeatsRow.named == aa.varsNamed 3))=true:=by kernel_rfl
end Go.Proofs.YtafmfhkplgapjaaGreatDoor
namespace Go.Proofs.YtafmfhkplgapjaaGreatDoor
set_option maxRecDepth 100000
theorem ZU:(Rows.topRepeatsRow.wf (OpenSpec.ofChange Rows.topRepeatsSpec))=true:=by kernel_rfl
theorem ZT:(laidOutB aa)=true:=by kernel_rfl
theorem ZI:(mapsRowed aa)=true:=by kernel_rfl
theorem Zy:(iW.params.all (aa.readableRec ·))=true:=by kernel_rfl
theorem Zv:(namedTie aa Rows.topRepeatsRow.named Rows.topRepeatsSpec.vars)=true:=by kernel_rfl
theorem Zu:((Rows.topRepeatsRow.stops == []))=true:=by kernel_rfl
theorem Zt:((aa.stops == []))=true:=by kernel_rfl
theorem Zs:((Rows.topRepeatsRow.knobs == []))=true:=by kernel_rfl
theorem Zr:((aa.stopKnobs == []))=true:=by kernel_rfl
theorem ZP:((Rows.topRepeatsRow.maps == (iW.params.toList++Rows.topRepeatsSpec.plain.varTypes aa).any (aa.mapsRec ·)))=true:=by kernel_rfl
theorem ZO:((Rows.topRepeatsRow.ifaces == (iW.params.toList++Rows.topRepeatsSpec.plain.varTypes aa).any (aa.ifacesRec ·)))=true:=by kernel_rfl
theorem ZN:((Rows.topRepeatsRow.mapsOut == aa.mapsAmong iW.resultTypes.toList))=true:=by kernel_rfl
theorem ZM:((Rows.topRepeatsRow.loops == (iW.params.toList++Rows.topRepeatsSpec.plain.varTypes aa).any (aa.loopsFrom ·)))=true:=by kernel_rfl
theorem ZL:((Rows.topRepeatsRow.wideKeys == (iW.params.toList++Rows.topRepeatsSpec.plain.varTypes aa++iW.resultTypes.toList).any (aa.wideKeysFrom ·)))=true:=by kernel_rfl
theorem ZK:(Rows.topRepeatsSpec.vars.all (aa.varReadable ·))=true:=by kernel_rfl
theorem ZJ:(iW.resultTypes.all (λt=>aa.readableRec t&&decide (t < aa.types.size)))=true:=by kernel_rfl
end Go.Proofs.YtafmfhkplgapjaaGreatDoor
