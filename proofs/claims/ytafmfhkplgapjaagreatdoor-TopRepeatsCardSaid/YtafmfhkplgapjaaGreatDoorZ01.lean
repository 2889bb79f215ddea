import Derived.Laws.BytesArg
import Derived.WalkKit
import Derived.MapKept
import Derived.RangeFuncNested
import Derived.RangeFuncLeaves
import Derived.LoopNIn
import Derived.OrdersIn
import Derived.TacticsIn
import Derived.Maps.AppendAt
import Derived.Deep.AppendLies
import Derived.Laws.OwnMore
import Derived.Lib.LaidTab
import Derived.Lib.ItoaNum
set_option linter.unusedVariables false
set_option linter.unusedSimpArgs false
open Array renaming getElem?_eq_some_iff->bt,getElem?_toList->FY
open BitVec renaming ofInt->pP,toNat_ofInt->alU
open Go.Builtin renaming len_->JH
open Go renaming undef->bp
open Go.Instr renaming fill->FK,indexAt->XH,slice->XG,sliceAt->OS,sliceBound->OR,sliceBounds->Aa,sureAddr->Ct
open Go.IntKind renaming i64->z7,u64->XF
open List renaming append_assoc->kK,eq_nil_of_length_eq_zero->Cp,ext_getElem->OM,flatMap_cons->XD,getElem?_append_left->bQ,getElem?_append_right->dX,getElem?_drop->tB,getElem?_eq_getElem->bS,getElem?_eq_some_iff->aQ,getElem?_map->cO,getElem?_take->iM,length_append->eQ,length_cons->lV,length_drop->zU,length_take->mH,map_cons->ib,map_map->tA,mem_cons_of_mem->dW,mem_cons_self->dI,mem_of_getElem?->ey,mem_of_mem_drop->Fy,mem_of_mem_take->x9,range->ct,replicate->cD
open Nat renaming add_comm->zR,add_mul->ru,le_refl->aY,le_trans->fu,lt_of_lt_of_le->uJ,lt_or_ge->ft,zero_add->fK
open Go.Op renaming equal->Ft,equalIn->OH,intArith->Jq,intCmp->Fq
open Option renaming isSome_iff_exists->xV,map_eq_some_iff->cv,map_some->eH
open Option.some renaming inj->iA,injEq->gE
open Go.Program renaming cellsOf->zP
open Go.Result renaming andThen_ok->sr
open Go.Sem renaming run_bind->pL
open Go.Value renaming cells->Xj,int->k7
open Go.World renaming cell?_of_block->pJ,putObj_heap_other->j7
section
namespace Go.Ab
theorem ae {p:Prop}(h:p:=by omega):p:=h
theorem aO {p:Prop}(h:p:=by simp):p:=h
theorem aE {p:Prop}(h:p:=by decide):p:=h
open Go.RowKit
def CK:Nat->Option (Array Value)
 |1=>some (Lib.pow10Tab.map λz=>k7 .u64 z).toArray
 |_=>none
def lG (w:World):Prop:=∀b vs,CK b=some vs->∃t fz,w.heap[b]? =some (.cells vs t fz)
inductive VK where|num|arr|yes
 deriving Inhabited,DecidableEq
structure eP where
 ka:Bool
 va:VK
 n:Nat
 f:List Int->List Int
 uB:List (List Int)
 deriving Inhabited
inductive D where
 |undef
 |int (k:IntKind)(n:Int)
 |bool (b:Bool)
 |str (s:ByteArray)
 |list (xs:List D)
 |agg (cs:List D)
 |aF (ds:List D)
 |box (i off:Nat)
 |ro (cs:List D)
 |own (r:Nat)
 |ag (f:FuncId)(cs:List D)
 |val (v:Value)
 |bM (f:eP)
 |aN (i off n c:Nat)
 |cL (f:FuncId)(cs:List D)
 |skp
 |any
 |bu (i:Nat)
 deriving Inhabited
def D.cells:D->List D
 | .agg cs=>cs
 |d=>[d]
def flat (xs:List D):List D:=xs.flatMap D.cells
abbrev MM:=Nat->Option eP
structure Gh where
 S:Addr->Prop
 β:List Nat
 ρ:List Value
 M:MM
def Gh.er (g:Gh):Gh:=⟨g.S,[],[],g.M⟩
inductive Rel (w:World):Gh->Value->D->Prop
 |undef (g:Gh) (v:Value):Rel w g v .undef
 |int (g:Gh) (k:IntKind) (n:Int):Rel w g (.int k n) (.int k n)
 |bool (g:Gh) (b:Bool):Rel w g (.bool b) (.bool b)
 |str (g:Gh) (s:ByteArray):Rel w g (.string s) (.str s)
 |val (g:Gh) (v:Value):Rel w g v (.val v)
 |list (g:Gh) (A:Option Addr) (n c:Nat) (xs:List D) (sz:Nat) (u:Nat->Value) (hn:n=xs.length) (aR:∀x∈xs,x.cells.length=sz) (hc:n<=c)
   (hm:∀q,q < (flat xs).length->∃ad,A=some ad/\w.cell? (ad.add q)=some (u q)/\g.S (ad.add q)/\(u q).oneCell'=true)
   (hr:∀q d,(flat xs)[q]? =some d->Rel w g.er (u q) d):Rel w g (.slice A n c) (.list xs)
 |agg (g:Gh) (vs:Array Value) (cs:List D) (hl:vs.size=cs.length) (h1:∀q,q < cs.length->(vs.getD q undef).oneCell'=true)
   (hr:∀q d,cs[q]? =some d->Rel w g (vs.getD q undef) d):Rel w g (.agg vs) (.agg cs)
 |aF (g:Gh) (vs:Array Value) (ds:List D) (hl:vs.size=ds.length)
   (hr:∀q d,ds[q]? =some d->Rel w g (vs.getD q undef) d):Rel w g (.tuple vs) (.aF ds)
 |box (g:Gh) (i off b:Nat) (hb:g.β[i]? =some b):Rel w g (.pointer (some ⟨b,off,none⟩)) (.box i off)
 |ro (g:Gh) (a:Addr) (cs:List D) (u:Nat->Value)
   (hm:∀q,q < cs.length->w.cell? (a.add q)=some (u q)/\g.S (a.add q)/\(u q).oneCell'=true)
   (hr:∀q d,cs[q]? =some d->Rel w g.er (u q) d):Rel w g (.pointer (some a)) (.ro cs)
 |own (g:Gh) (r:Nat) (v:Value) (h:g.ρ[r]? =some v):Rel w g v (.own r)
 |ag (g:Gh) (f:FuncId) (vs:Array Value) (cs:List D) (hl:vs.size=cs.length)
   (hr:∀q d,cs[q]? =some d->Rel w g (vs.getD q undef) d):Rel w g (.func (.func f) #[] vs) (.ag f cs)
 |bM (g:Gh) (b:Nat) (f:eP) (h:g.M b=some f):Rel w g (.map (some b)) (.bM f)
 |skp (g:Gh):Rel w g bp .skp
 |any (g:Gh) (v:Value) (h1:v.oneCell'=true):Rel w g v .any
 |bu (g:Gh) (i b:Nat) (hb:g.β[i]? =some b):Rel w g (.map (some b)) (.bu i)
 |aN (g:Gh) (i off n c b:Nat) (hb:g.β[i]? =some b):Rel w g (.slice (some ⟨b,off,none⟩) n c) (.aN i off n c)
 |cL (g:Gh) (f:FuncId) (vs:Array Value) (cs:List D) (hl:vs.size=cs.length)
   (hr:∀q d,cs[q]? =some d->Rel w g (vs.getD q undef) d):Rel w g (.func (.func f) vs #[]) (.cL f cs)
structure fL (w:World)(g:Gh)(w':World)(g':Gh):Prop where
 cell:∀x,g.S x->w'.cell? x=w.cell? x
 S:∀x,g.S x->g'.S x
 β:∀(i b:Nat),g.β[i]? =some b->g'.β[i]? =some b
 ρ:∀(i:Nat) (b:Value),g.ρ[i]? =some b->g'.ρ[i]? =some b
 M:∀(b:Nat) (f:eP),g.M b=some f->g'.M b=some f
theorem fL.er {w w':World}{g g':Gh}(h:fL w g w' g'):fL w g.er w' g'.er:=
 ⟨h.cell,h.S,λ_ _ h=>h,λ_ _ h=>h,h.M⟩
theorem Rel.aZ {w w':World}{g:Gh}{v:Value}{d:D}(h:Rel w g v d):∀{g':Gh},fL w g w' g'->Rel w' g' v d:=by
 induction h with
 |undef g v=>intros;exact .undef _ _
 |int g k n=>intros;exact .int _ _ _
 |bool g b=>intros;exact .bool _ _
 |str g s=>intros;exact .str _ _
 |val g v=>intros;exact .val _ _
 |list g A n c xs sz u hn aR eO hm hr ih=>
  intro g' k;refine .list _ A n c xs sz u hn aR eO (λq hq=> ?_) (λq d hd=>ih q d hd k.er);obtain⟨ad,rfl,hc,hS,h1⟩:=hm q hq;exact⟨ad,rfl,(k.cell _ hS).trans hc,k.S _ hS,h1⟩
 |agg g vs cs hl h1 hr ih=>intro g' k;exact .agg _ vs cs hl h1 (λq d hd=>ih q d hd k)
 |aF g vs ds hl hr ih=>intro g' k;exact .aF _ vs ds hl (λq d hd=>ih q d hd k)
 |box g i off b hb=>intro g' k;exact .box _ i off b (k.β _ _ hb)
 |ro g a cs u hm hr ih=>
  intro g' k;refine .ro _ a cs u (λq hq=> ?_) (λq d hd=>ih q d hd k.er);obtain⟨hc,hS,h1⟩:=hm q hq;exact⟨(k.cell _ hS).trans hc,k.S _ hS,h1⟩
 |own g r v h=>intro g' k;exact .own _ r v (k.ρ _ _ h)
 |ag g f vs cs hl hr ih=>intro g' k;exact .ag _ f vs cs hl (λq d hd=>ih q d hd k)
 |bM g b f h=>intro g' k;exact .bM _ b f (k.M _ _ h)
 |aN g i off n c b hb=>intro g' k;exact .aN _ i off n c b (k.β _ _ hb)
 |skp g=>intros;exact .skp _
 |any g v h1=>intros;exact .any _ v h1
 |bu g i b hb=>intro g' k;exact .bu _ i b (k.β _ _ hb)
 |cL g f vs cs hl hr ih=>intro g' k;exact .cL _ f vs cs hl (λq d hd=>ih q d hd k)
end Go.Ab
end
section
namespace Go.Ab
open Go.RowKit
structure Row where
 live:Bool
 e:TypeId
 sz:Nat
 xs:List D
 deriving Inhabited
inductive Bx where
 |dead
 |mu (cs:List D)
 |fz (cs:List D)
 |mp (es:List (D×D))
 deriving Inhabited
structure St where
 n:Nat
 sl:Nat->D
 bx:List Bx
 rw:List Row
def put (s:Nat->D)(n:Nat)(v:D):Nat->D:=λm=>if m=n then v else s m
def dJ:Nat->D:=λ_=> .undef
theorem kO (s:Nat->D)(n:Nat)(v:D):put s n v n=v:=by simp[put]
theorem QV (s:Nat->D)(n m:Nat)(v:D)(h:(m == n)=false):put s n v m=s m:=by
 have:m≠n:=by simpa using h
 simp[put,this]
structure Ctx where
 P:Program
 w0:World
 S0:Addr->Prop
 M0:MM
 l:Option Nat
 own:Nat->Prop
 β0:List Nat
def Ctx.F (c:Ctx):Fence:={Fence.wide with round:=c.l}
def eT:Bool->List Int->Value
 |true,xs=> .agg (xs.map (k7 .i64)).toArray
 |false,xs=> .int .i64 (xs.headD 0)
def Dm:Bool->List Int->D
 |true,xs=> .agg (xs.map (D.int .i64))
 |false,xs=> .int .i64 (xs.headD 0)
def ub:VK->List Int->Value
 | .arr,xs=>eT true xs
 | .num,xs=>eT false xs
 | .yes,xs=> .bool (xs.headD 0 !=0)
def wQ:VK->List Int->D
 | .arr,xs=>Dm true xs
 | .num,xs=>Dm false xs
 | .yes,xs=> .bool (xs.headD 0 !=0)
def aef (w:World)(b:Nat)(f:eP):Prop:=∃es clock,w.heap[b]? =some (.map es clock)/\(∀e∈es.toList,∃xs:List Int,xs.length=f.n/\e.key=eT f.ka xs/\e.val=ub f.va (f.f xs))/\(∀k∈f.uB,∃e∈es.toList,e.key=eT f.ka k)/\(f.ka=false->f.n=0->es=#[])
def jf (w:World)(M:MM):Prop:=∀b f,M b=some f->aef w b f
structure oV (p:Nat->Prop)(B:Nat)(w w':World):Prop where
 os:w'.os=w.os
 tape:w'.tape=w.tape
 output:w'.output=w.output
 size:w.heap.size<=w'.heap.size
 block:∀k,k < B->¬p k->w'.heap[k]? =w.heap[k]?
abbrev sE (M:MM):Nat->World->World->Prop:=oV λk=>M k≠none
def Ctx.may (c:Ctx):Nat->Prop:=λk=>c.own k\/c.M0 k≠none
theorem sE.at {M:MM}{B:Nat}{w w':World}(h:sE M B w w')(k:Nat)(hk:k < B)(hn:M k=none):w'.heap[k]? =w.heap[k]? :=h.block k hk (λh=>h hn)
theorem oV.of {p:Nat->Prop}{B:Nat}{w w':World}(h:Below B w w'):oV p B w w':=⟨h.os,h.tape,h.output,h.size,λk hk _=>h.block k hk⟩
theorem oV.trans {p q:Nat->Prop}{B B':Nat}{a b c:World}(h:oV p B a b)(k:oV q B' b c)(hB:B<=B')(hq:∀i,i < B->q i->p i):oV p B a c:=
 ⟨k.os.trans h.os,k.tape.trans h.tape,k.output.trans h.output,fu h.size k.size,λi hi hn=>(k.block i ae (λh=>hn (hq i hi h))).trans (h.block i hi hn)⟩
theorem tn {w:World}{x:Addr}{u:Value}(h:w.cell? x=some u):∃cs t fz,w.heap[x.block]? =some (.cells cs t fz):=by
 unfold World.cell? at h;split at h
 ·exact⟨_,_,_,‹_›⟩
 ·cases h
theorem jf.ve {w:World}{M:MM}(h:jf w M){b:Nat}{cs:Array Value}{t:TypeId}{fz:Nat×Nat}(hb:w.heap[b]? =some (.cells cs t fz)):M b=none:=by
 cases hm:M b with
 |none=>rfl
 |some f=>
  obtain⟨es,cl,h1,_⟩:=h b f hm;rw[hb]at h1;cases h1
theorem jf.wO {w:World}{M:MM}(h:jf w M){b:Nat}{ds:Option (List Deferred)}(hb:w.heap[b]? =some (.deferred ds)):M b=none:=by
 cases hm:M b with
 |none=>rfl
 |some f=>
  obtain⟨es,cl,h1,_⟩:=h b f hm;rw[hb]at h1;cases h1
def Cv (own:Nat->Prop)(w:World)(l:List Deferred):Prop:=l.Nodup/\∀d∈l,∃D,own D/\d={target:= .collected D,args:=#[]}/\w.heap[D]? =some (.deferred (some []))
structure Grow (w:World)(S:Addr->Prop)(M:MM)(w':World)(S':Addr->Prop)(M':MM):Prop where
 below:sE M w.heap.size w w'
 s1:∀x,S x->S' x
 s2:∀x,S' x->S x\/w.heap.size<=x.block
 m1:∀b f,M b=some f->M' b=some f
 m2:∀b f,M' b=some f->M b=some f\/w.heap.size<=b
 bO:jf w' M'
structure zN (w0:World)(may:Nat->Prop):Prop where
 tb:lG w0
 no:∀b vs,CK b=some vs->¬may b
theorem zN.at {w0 w:World}{may:Nat->Prop}(h:zN w0 may)(hb:oV may w0.heap.size w0 w):lG w:=λb vs hv=>by
 obtain⟨t,fz,e⟩:=h.tb b vs hv;exact⟨t,fz,(hb.block b (bt.1 e).1 (h.no b vs hv)).trans e⟩
theorem lG.tY {w:World}{M:MM}(h:lG w)(hM:jf w M):∀b vs,CK b=some vs->M b=none:=λb vs hv=>by
 obtain⟨t,fz,e⟩:=h b vs hv;exact hM.ve e
theorem lG.lt {w:World}(h:lG w):∀b vs,CK b=some vs->b < w.heap.size:=λb vs hv=>by
 obtain⟨t,fz,e⟩:=h b vs hv;exact(bt.1 e).1
theorem zN.own {w0 w:World}{may own:Nat->Prop}{M:MM}(h:zN w0 may)(hb:oV may w0.heap.size w0 w)(hM:jf w M)(ho:∀b,own b->w.heap.size<=b\/may b):zN w (λk=>own k\/M k≠none):=
 ⟨h.at hb,λb vs hv hm=>hm.elim (λhm=>(ho b hm).elim (λhl=>absurd ((h.at hb).lt b vs hv) (Nat.not_lt.2 hl)) (h.no b vs hv)) (λhm=>hm ((h.at hb).tY hM b vs hv))⟩
theorem lG.fresh {w:World}{M:MM}(h:lG w)(hM:jf w M):zN w (λk=>w.heap.size<=k\/M k≠none):=
 ⟨h,λb vs hv hm=>hm.elim (λhl=>absurd (h.lt b vs hv) (Nat.not_lt.2 hl)) (λhm=>hm (h.tY hM b vs hv))⟩
structure Ext (c:Ctx)(a:Act)(w:World)(g:Gh):Prop where
 cN:Cv c.own w a.defers
 bO:jf w g.M
 m0:∀b f,c.M0 b=some f->g.M b=some f
 gw:∀b f,g.M b=some f->c.M0 b=some f\/c.w0.heap.size<=b
 gD:∀(i b:Nat),c.β0[i]? =some b->g.β[i]? =some b
 jA:∀x,c.S0 x->w.cell? x=c.w0.cell? x
 fD:zN c.w0 c.may
theorem Ext.aZ {c:Ctx}{a:Act}{w w':World}{g:Gh}(h:Ext c a w g)(hk:∀(k:Nat) (o:Obj),w.heap[k]? =some o->o.isCells=false->w'.heap[k]? =some o)(hs:∀x,c.S0 x->w'.cell? x=w.cell? x):Ext c a w' g where
 cN:=⟨h.cN.1,λd hd=>by
  obtain⟨D,hB,e,hD⟩:=h.cN.2 d hd;exact⟨D,hB,e,hk D _ hD rfl⟩⟩
 bO b f hb:=by
  obtain⟨es,cl,h1,h2⟩:=h.bO b f hb;exact⟨es,cl,hk b _ h1 rfl,h2⟩
 m0:=h.m0
 gw:=h.gw
 gD:=h.gD
 jA x hx:=(hs x hx).trans (h.jA x hx)
 fD:=h.fD
theorem Ext.gh {c:Ctx}{a:Act}{w:World}{g g':Gh}(h:Ext c a w g)(e:g'.M=g.M)(hβ:∀(i b:Nat),c.β0[i]? =some b->g.β[i]? =some b->g'.β[i]? =some b:=by exact λ_ _ _ h=>h):Ext c a w g':=⟨h.cN,e▸h.bO,e▸h.m0,e▸h.gw,λi b hb=>hβ i b hb (h.gD i b hb),h.jA,h.fD⟩
theorem Ext.put {c:Ctx}{a:Act}{w:World}{g:Gh}(h:Ext c a w g)(dst:Option Tmp)(v:Value):Ext c (a.put dst v) w g:=⟨by cases dst<;>exact h.cN,h.bO,h.m0,h.gw,h.gD,h.jA,h.fD⟩
def Good (w:World)(S:Addr->Prop):Prop:=∀x,S x->∃u,w.cell? x=some u
theorem Good.lt {w:World}{S:Addr->Prop}(h:Good w S){x:Addr}(hx:S x):x.block < w.heap.size:=by
 obtain⟨u,hu⟩:=h x hx;exact World.block_lt_of_cell? w x hu
def fZ (w:World)(g:Gh)(vs:Array Value)(cs:List D):Prop:=
 vs.size=cs.length/\∀q d,cs[q]? =some d->Rel w g (vs.getD q undef) d/\(vs.getD q undef).oneCell'=true
theorem fZ.aZ {w w':World}{g g':Gh}{vs:Array Value}{cs:List D}(h:fZ w g vs cs)(k:fL w g w' g'):fZ w' g' vs cs:=
 ⟨h.1,λq d hd=>⟨(h.2 q d hd).1.aZ k,(h.2 q d hd).2⟩⟩
def pD (n:Nat):Bool->Nat×Nat
 |false=>(0,0)
 |true=>(n,n + 1)
structure XQ (c:Ctx)(w:World)(g:Gh)(i:Nat)(mu:Bool)(cs:List D):Prop where
 ex:∃(b:Nat) (vs:Array Value) (t:TypeId×Bool),g.β[i]? =some b/\w.heap[b]? =some (.cells vs t.1 (pD vs.size t.2))/\fZ w (if mu then g else g.er) vs cs/\c.own b/\
  (mu=true->∀x,g.S x->x.block≠b)/\(mu=false->∀q,q < cs.length->g.S ⟨b,q,none⟩)
structure Xv (c:Ctx)(w:World)(g:Gh)(r:Nat)(row:Row):Prop where
 ex:∃v,g.ρ[r]? =some v/\Rel w g v (.list row.xs)/\
  (row.live=true->(∃vals,w.ownsRow 0 row.e row.sz v row.xs.length vals)/\(∀x∈row.xs,x.cells.length=row.sz)/\
   ∀gb,v.ownBlock=some gb->c.own gb/\∀x,g.S x->x.block=gb->x.off < row.xs.length * row.sz)
def Gh.mg (g:Gh):Gh:=⟨g.S,g.β,[],g.M⟩
theorem fL.mg {w w':World}{g g':Gh}(k:fL w g w' g'):fL w g.mg w' g'.mg:=⟨k.cell,k.S,k.β,λ_ _ h=>h,k.M⟩
structure oP (c:Ctx)(w:World)(g:Gh)(i b:Nat)(es:List (D×D)):Prop where
 β:g.β[i]? =some b
 ex:∃ms cl,w.heap[b]? =some (.map ms cl)/\ms.size=es.length/\∀(q:Nat) (p:D×D) (m:MapEntry),es[q]? =some p->ms[q]? =some m->Rel w g.mg m.key p.1/\Rel w g.mg m.val p.2
 nm:g.M b=none
 own:c.own b
 lU:∀ms cl,w.heap[b]? =some (.map ms cl)->(∀(p q:Nat) (m m':MapEntry),ms[p]? =some m->ms[q]? =some m'->m.key=m'.key->p=q)/\∀m∈ms.toList,m.born < cl
theorem oP.Hk {c:Ctx}{w w':World}{g g':Gh}{i b:Nat}{es:List (D×D)}(h:oP c w g i b es)(k:fL w g.mg w' g'.mg)(hb:w'.heap[b]? =w.heap[b]?)(hm:g'.M b=none):oP c w' g' i b es:=
 ⟨k.β _ _ h.β,by
  obtain⟨ms,cl,h1,h2,h3⟩:=h.ex;exact⟨ms,cl,hb.trans h1,h2,λq p m hp hq=>⟨(h3 q p m hp hq).1.aZ k,(h3 q p m hp hq).2.aZ k⟩⟩,hm,h.own,λms cl hh=>h.lU ms cl (hb▸hh)⟩
theorem oP.aZ {c:Ctx}{w w':World}{g g':Gh}{i b:Nat}{es:List (D×D)}(h:oP c w g i b es)(k:fL w g w' g')(hb:w'.heap[b]? =w.heap[b]?)(hm:g'.M b=none):oP c w' g' i b es:=h.Hk k.mg hb hm
def dp (W:World)(b:Nat):Prop:=(∃cs t fz,W.heap[b]? =some (.cells cs t fz))\/∃ms cl,W.heap[b]? =some (.map ms cl)
theorem oP.Ea {c:Ctx}{w:World}{g:Gh}{i b:Nat}{es:List (D×D)}(h:oP c w g i b es):dp w b:=by
 obtain⟨ms,cl,h1,_⟩:=h.ex;exact .inr ⟨ms,cl,h1⟩
theorem dp.not {W:World}{b:Nat}{o:Obj}(h:W.heap[b]? =some o)(h1:o.isCells=false)(h2:∀ms cl,o≠ .map ms cl):¬dp W b:=λhh=>by
 rcases hh with⟨cs,t,fz,e⟩|⟨ms,cl,e⟩
 ·rw[h]at e;cases e;cases h1
 ·rw[h]at e;cases e;exact h2 _ _ rfl
theorem oP.lt {c:Ctx}{w:World}{g:Gh}{i b:Nat}{es:List (D×D)}(h:oP c w g i b es):b < w.heap.size:=by
 obtain⟨ms,cl,h1,_⟩:=h.ex;exact(bt.1 h1).1
theorem oP.ctx {c c':Ctx}{w:World}{g:Gh}{i b:Nat}{es:List (D×D)}(h:oP c w g i b es)(ho:c'.own b):oP c' w g i b es:=⟨h.β,h.ex,h.nm,ho,h.lU⟩
def Bx.live:Bx->Bool
 | .dead=>false
 |_=>true
def O8 (s:St)(g:Gh)(κ:Nat->Nat⊕Nat):Prop:=
 (∀(i:Nat) (x:Bx) (b:Nat),s.bx[i]? =some x->x.live=true->g.β[i]? =some b->κ b= .inl i)/\
 (∀(r:Nat) (row:Row) (v:Value) (gb:Nat),s.rw[r]? =some row->row.live=true->g.ρ[r]? =some v->v.ownBlock=some gb->κ gb= .inr r)
structure RG (c:Ctx)(s:St)(a:Act)(w:World)(g:Gh):Prop where
 df:Ext c a w g
 sz:a.tmps.size=s.n
 below:oV c.may c.w0.heap.size c.w0 w
 cu:∀b,c.w0.heap.size<=b->c.own b
 ba:Good w g.S
 en:∀x,g.S x->c.S0 x\/c.own x.block
 S0:∀x,c.S0 x->g.S x
 fJ:Good c.w0 c.S0
 lβ:g.β.length=s.bx.length
 lρ:g.ρ.length=s.rw.length
 sl:∀n,Rel w g (a.tmps.getD n undef) (s.sl n)
 bx:∀i cs,s.bx[i]? =some (.mu cs)->XQ c w g i true cs
 fz:∀i cs,s.bx[i]? =some (.fz cs)->XQ c w g i false cs
 rw:∀r row,s.rw[r]? =some row->Xv c w g r row
 ap:∃κ,O8 s g κ
 mp:∀i es,s.bx[i]? =some (.mp es)->∃b,oP c w g i b es
def R (c:Ctx)(s:St)(a:Act)(w:World):Prop:=∃g,RG c s a w g
def av (c:Ctx)(code:Code)(Q:Exit->St->Prop)(s:St):Prop:=
 ∀a w,R c s a w->code.wpIn c.F 0 c.P (λe a' w'=>∃s',R c s' a' w'/\Q e s') a w
section rules
variable {c:Ctx} {Q:Exit->St->Prop} {s:St}
theorem av.mono {code:Code}{Q':Exit->St->Prop}(h:av c code Q s)(hq:∀e s,Q e s->Q' e s):av c code Q' s:=
 λa w hr=>wpIn_mono (h a w hr) λ_ _ _ ⟨s',r,q⟩=>⟨s',r,hq _ _ q⟩
theorem W8 (h:Q .normal s):av c .skip Q s:=λ_ _ hr=>wpIn_skip ⟨s,hr,h⟩
theorem Xg {id:Nat}(h:Q (.exit id) s):av c (.exit id) Q s:=λ_ _ hr=>wpIn_exit ⟨s,hr,h⟩
theorem tp (h:Q .ret s):av c .ret Q s:=λ_ _ hr=>wpIn_ret ⟨s,hr,h⟩
def bH (K:St->Prop)(Q:Exit->St->Prop):Exit->St->Prop
 | .normal,s=>K s
 |e,s=>Q e s
def cj (id:Nat)(Q:Exit->St->Prop):Exit->St->Prop
 | .exit nS,s=>if nS=id then Q .normal s else Q (.exit nS) s
 |e,s=>Q e s
theorem W9 {x y:Code}(h:av c x (bH (av c y Q) Q) s):av c (.seq x y) Q s:=by
 intro a w hr;refine wpIn_seq (wpIn_mono (h a w hr) ?_);rintro e a' w' ⟨s',r,q⟩;cases e with
 |normal=>exact q a' w' r
 |exit id=>exact⟨s',r,q⟩
 |goto l=>exact⟨s',r,q⟩
 |ret=>exact⟨s',r,q⟩
 |panic ch=>exact⟨s',r,q⟩
 |outgrown=>exact⟨s',r,q⟩
theorem Xh {id:Nat}{x:Code}(h:av c x (cj id Q) s):av c (.block id x) Q s:=by
 intro a w hr;refine wpIn_block (wpIn_mono (h a w hr) ?_);rintro e a' w' ⟨s',r,q⟩;cases e with
 |normal=>exact⟨s',r,q⟩
 |exit nS=>
  simp only[cj]at q;simp only[Exit.inBlock];split at q
  ·rw[if_pos (by assumption)];exact⟨s',r,q⟩
  ·rw[if_neg (by assumption)];exact⟨s',r,q⟩
 |goto l=>exact⟨s',r,q⟩
 |ret=>exact⟨s',r,q⟩
 |panic ch=>exact⟨s',r,q⟩
 |outgrown=>exact⟨s',r,q⟩
end rules
end Go.Ab
end
section
namespace Go.Ab
open Go.RowKit
theorem F4 {ι:Type}{F:Fence}{n:Nat}{P:Program}{Q:Exit->Act->World->Prop}{c:Code}(I:ι->Act->World->Prop)(μ:ι->Nat)
  (round:∀i a w,I i a w->c.wpIn F n P (Exit.then (λa' w'=>∃j,I j a' w'/\μ j < μ i) Q) a w){a:Act}{w:World}(i0:ι)(h₀:I i0 a w):(Code.loop c).wpIn F n P Q a w:=by
 intro b k cs qe hb hr;have key:∀n i a w,μ i=n->I i a w->
   ∃e a' w',Q e a' w'/\ArrivesIn (Machine.fenced P F) P (lone (b.atR a (.code c:: .inLoop c::k)) cs w) b k cs e a' w':=by
  intro n;induction n using Nat.strongRecOn with
  |_ n ih=>
   intro i a w hn hI;obtain⟨e,a₁,w₁,hq,gg⟩:=round i a w hI b (.inLoop c::k) cs qe hb hr;cases e with
   |normal=>
    obtain⟨j,ag7,aG⟩:=hq;obtain⟨e₂,a₂,w₂,yY,Bo⟩:=ih (μ j) (hn▸aG) j a₁ w₁ rfl ag7;exact⟨e₂,a₂,w₂,yY, .of_steps (StepsIn.trans gg (.one (fenced_calm hb hr rfl) stepR_inLoop)) Bo⟩
   |exit id=>exact⟨_,a₁,w₁,hq, .pass (x:= .inLoop c) rfl (λ_ _=> .inl aO) gg⟩
   |goto l=>exact⟨_,a₁,w₁,hq, .pass (x:= .inLoop c) rfl (λ_ _=> .inl aO) gg⟩
   |ret=>exact⟨_,a₁,w₁,hq, .pass (x:= .inLoop c) rfl (λ_ _=> .inl aO) gg⟩
   |panic ch=>exact⟨_,a₁,w₁,hq, .pass (x:= .inLoop c) rfl (λ_ _=> .inl aO) gg⟩
   |outgrown=>exact⟨_,a₁,w₁,hq, .pass (x:= .inLoop c) rfl (λ_ _=> .inl aO) gg⟩
 obtain⟨e,a',w',hq,gg⟩:=key _ i0 a w rfl h₀;exact⟨e,a',w',hq, .of_steps (.one (fenced_calm hb hr rfl) stepR_loop) gg⟩
structure Le (s s':St):Prop where
 n:s'.n=s.n
 sl:∀m,s'.sl m= .undef\/s.sl m=s'.sl m
 bx:∃t,s.bx=s'.bx++t
 rw:∃t,s.rw=s'.rw++t
inductive Names (nb nr:Nat):D->Prop
 |undef:Names nb nr .undef
 |int (k:IntKind) (n:Int):Names nb nr (.int k n)
 |bool (b:Bool):Names nb nr (.bool b)
 |str (s:ByteArray):Names nb nr (.str s)
 |val (v:Value):Names nb nr (.val v)
 |list (xs:List D):Names nb nr (.list xs)
 |agg (cs:List D) (h:∀d∈cs,Names nb nr d):Names nb nr (.agg cs)
 |aF (cs:List D) (h:∀d∈cs,Names nb nr d):Names nb nr (.aF cs)
 |box (i off:Nat) (h:i < nb):Names nb nr (.box i off)
 |ro (cs:List D):Names nb nr (.ro cs)
 |own (r:Nat) (h:r < nr):Names nb nr (.own r)
 |ag (f:FuncId) (cs:List D) (h:∀d∈cs,Names nb nr d):Names nb nr (.ag f cs)
 |bM (f:eP):Names nb nr (.bM f)
 |aN (i off n c:Nat) (h:i < nb):Names nb nr (.aN i off n c)
 |skp:Names nb nr .skp
 |any:Names nb nr .any
 |bu (i:Nat) (h:i < nb):Names nb nr (.bu i)
 |cL (f:FuncId) (cs:List D) (h:∀d∈cs,Names nb nr d):Names nb nr (.cL f cs)
theorem Rel.cut {w:World}{g:Gh}{v:Value}{d:D}(h:Rel w g v d){nb nr:Nat}(hN:Names nb nr d):
  Rel w ⟨g.S,g.β.take nb,g.ρ.take nr,g.M⟩ v d:=by
 induction h with
 |undef g v=>exact .undef _ _
 |int g k n=>exact .int _ _ _
 |bool g b=>exact .bool _ _
 |str g s=>exact .str _ _
 |val g v=>exact .val _ _
 |list g A n c xs sz u hn aR eO hm hr ih=>exact .list _ A n c xs sz u hn aR eO hm hr
 |agg g vs cs hl h1 hr ih=>
  cases hN with
  |agg _ h=>exact .agg _ vs cs hl h1 (λq d hd=>ih q d hd (h d (ey hd)))
 |aF g vs ds hl hr ih=>
  cases hN with
  |aF _ h=>exact .aF _ vs ds hl (λq d hd=>ih q d hd (h d (ey hd)))
 |box g i off b hb=>
  cases hN with
  |box _ _ h=>exact .box _ i off b (by simp only[iM,h,if_true];exact hb)
 |ro g a cs u hm hr ih=>exact .ro _ a cs u hm hr
 |own g r v h=>
  cases hN with
  |own _ h'=>exact .own _ r v (by simp only[iM,h',if_true];exact h)
 |ag g f vs cs hl hr ih=>
  cases hN with
  |ag _ _ h=>exact .ag _ f vs cs hl (λq d hd=>ih q d hd (h d (ey hd)))
 |bM g b f h=>exact .bM _ b f h
 |skp g=>exact .skp _
 |any g v h1=>exact .any _ v h1
 |bu g i b hb=>
  cases hN with
  |bu _ h=>exact .bu _ i b (by simp only[iM,h,if_true];exact hb)
 |cL g f vs cs hl hr ih=>
  cases hN with
  |cL _ _ h=>exact .cL _ f vs cs hl (λq d hd=>ih q d hd (h d (ey hd)))
 |aN g i off n c b hb=>
  cases hN with
  |aN _ _ _ _ h=>exact .aN _ i off n c b (by simp only[iM,h,if_true];exact hb)
def Bx.Ld (nb nr:Nat):Bx->Prop
 | .mu cs=>∀d∈cs,Names nb nr d
 | .mp es=>∀p∈es,Names nb 0 p.1/\Names nb 0 p.2
 |_=>True
def St.named (s:St):Prop:=
 (∀m,Names s.bx.length s.rw.length (s.sl m))/\∀(i:Nat) (x:Bx),s.bx[i]? =some x->x.Ld s.bx.length s.rw.length
theorem RG.le {c:Ctx}{s s':St}{a:Act}{w:World}{g:Gh}(h:RG c s a w g)(hl:Le s s')(hn:s'.named)(h0:c.β0.length<=s'.bx.length):RG c s' a w ⟨g.S,g.β.take s'.bx.length,g.ρ.take s'.rw.length,g.M⟩:=by
 obtain⟨tb,hb⟩:=hl.bx;obtain⟨tr,hr⟩:=hl.rw;have fQ:∀(i:Nat) (x:Bx),s'.bx[i]? =some x->s.bx[i]? =some x:=λi x hx=>by
  rw[hb,bQ (by have:=(aQ.1 hx).1;omega)];exact hx
 have ml:∀(i:Nat) (x:Row),s'.rw[i]? =some x->s.rw[i]? =some x:=λi x hx=>by
  rw[hr,bQ (by have:=(aQ.1 hx).1;omega)];exact hx
 have lb:s'.bx.length<=g.β.length:=by rw[h.lβ,hb];simp
 have lr:s'.rw.length<=g.ρ.length:=by rw[h.lρ,hr];simp
 have hβ:∀(i b:Nat),i < s'.bx.length->g.β[i]? =some b->(g.β.take s'.bx.length)[i]? =some b:=λi b hi hb=>by
  simp only[iM,hi,if_true];exact hb
 have hρ:∀(i:Nat) (b:Value),i < s'.rw.length->g.ρ[i]? =some b->(g.ρ.take s'.rw.length)[i]? =some b:=λi b hi hb=>by
  simp only[iM,hi,if_true];exact hb
 refine⟨h.df.gh rfl (λi b hc hb=>hβ i b (uJ (aQ.1 hc).1 h0) hb),by rw[h.sz,hl.n],h.below,h.cu,h.ba,h.en,h.S0,h.fJ,by simp;omega,by simp;omega, ?_, ?_, ?_, ?_, ?_, ?_⟩
 ·intro m;rcases hl.sl m with e|e
  ·rw[e];exact .undef _ _
  ·have:=h.sl m;rw[e]at this;exact this.cut (hn.1 m)
 ·intro i cs hi;obtain⟨b,vs,t,e1,e2,e3,e4,e5,e6⟩:=(h.bx i cs (fQ i _ hi)).ex;have eg:=(aQ.1 hi).1;exact⟨b,vs,t,hβ i b eg e1,e2,⟨e3.1,λq d hd=>⟨(e3.2 q d hd).1.cut (hn.2 i _ hi d (ey hd)),(e3.2 q d hd).2⟩⟩,e4,e5,e6⟩
 ·intro i cs hi;obtain⟨b,vs,t,e1,e2,e3,e4,e5,e6⟩:=(h.fz i cs (fQ i _ hi)).ex;have eg:=(aQ.1 hi).1;exact⟨b,vs,t,hβ i b eg e1,e2,e3,e4,e5,e6⟩
 ·intro r row hi;obtain⟨v,e1,e2,e3⟩:=(h.rw r row (ml r _ hi)).ex;have eg:=(aQ.1 hi).1;exact⟨v,hρ r v eg e1,e2.cut (.list _),e3⟩
 ·obtain⟨κ,k1,k2⟩:=h.ap;refine⟨κ,λi x b hi hx hb=>k1 i x b (fQ i _ hi) hx ?_,λr row v gb hi hl hv=>k2 r row v gb (ml r _ hi) hl ?_⟩
  ·have eg:=(aQ.1 hi).1;simp only[iM,eg,if_true]at hb;exact hb
  ·have eg:=(aQ.1 hi).1;simp only[iM,eg,if_true]at hv;exact hv
 ·intro i es hi;obtain⟨b,hm⟩:=h.mp i es (fQ i _ hi);refine⟨b, ?_⟩;have eg:=(aQ.1 hi).1;obtain⟨ms,cl,h1,h2,h3⟩:=hm.ex;have V1:∀{v:Value} {d:D},Rel w g.mg v d->Names s'.bx.length 0 d->Rel w (Gh.mg ⟨g.S,g.β.take s'.bx.length,g.ρ.take s'.rw.length,g.M⟩) v d:=λhr hn=>hr.cut hn;exact⟨hβ i b eg hm.β,⟨ms,cl,h1,h2,λq p m hp hq=>⟨V1 (h3 q p m hp hq).1 (hn.2 i _ hi p (ey hp)).1,V1 (h3 q p m hp hq).2 (hn.2 i _ hi p (ey hp)).2⟩⟩,hm.nm,hm.own,hm.lU⟩
theorem R.le {c:Ctx}{s s':St}{a:Act}{w:World}(h:R c s a w)(hl:Le s s')(hn:s'.named)(h0:c.β0.length<=s'.bx.length):R c s' a w:=by
 obtain⟨g,h⟩:=h;exact⟨_,h.le hl hn h0⟩
theorem nv {c:Ctx}{code:Code}{Q:Exit->St->Prop}{s:St}(s':St)(hl:Le s s')(hn:s'.named)(h0:c.β0.length<=s'.bx.length)(h:av c code Q s'):av c code Q s:=
 λa w hr=>h a w (hr.le hl hn h0)
theorem alr {c:Ctx}{body:Code}{Q:Exit->St->Prop}{s:St}{ι:Type}(I:ι->St)(p:ι->Prop)(μ:ι->Nat)(hn:∀i,p i->(I i).named)(hβ:∀i,p i->c.β0.length<=(I i).bx.length)
  (i0:ι)(h0:p i0)(hle:Le s (I i0))
  (round:∀i,p i->av c body (bH (λs'=>∃j,p j/\μ j < μ i/\Le s' (I j)) Q) (I i)):av c (.loop body) Q s:=by
 intro a w hr;refine F4 (λi a w=>p i/\R c (I i) a w) μ (λi a w ⟨hp,hr⟩=> ?_) i0 ⟨h0,hr.le hle (hn i0 h0) (hβ i0 h0)⟩;refine wpIn_mono (round i hp a w hr) ?_;rintro e a' w' ⟨s',r,q⟩;cases e with
 |normal=>obtain⟨j,hj,aG,hl⟩:=q;exact⟨j,⟨hj,r.le hl (hn j hj) (hβ j hj)⟩,aG⟩
 |exit id=>exact⟨s',r,q⟩
 |goto l=>exact⟨s',r,q⟩
 |ret=>exact⟨s',r,q⟩
 |panic ch=>exact⟨s',r,q⟩
 |outgrown=>exact⟨s',r,q⟩
theorem Rel.asBool {w:World}{g:Gh}{v:Value}{b:Bool}(h:Rel w g v (.bool b)):v= .bool b:=by cases h;rfl
def vK:Value->D
 | .int k n=> .int k n
 | .bool b=> .bool b
 | .string s=> .str s
 |v=> .val v
theorem GN (w:World)(g:Gh)(v:Value):Rel w g v (vK v):=by
 cases v<;>first|exact .int _ _ _|exact .bool _ _|exact .str _ _|exact .val _ _
def St.ev (s:St):Operand->D
 | .tmp t=>s.sl t
 | .const v=>vK v
 | .global g=> .val (.pointer (some ⟨g,0,none⟩))
 | .func f=> .ag f []
theorem RG.ev {c:Ctx}{s:St}{a:Act}{w:World}{g:Gh}(h:RG c s a w g)(x:Operand):Rel w g (a.eval x) (s.ev x):=by
 cases x with
 |tmp t=>exact h.sl t
 |const v=>exact GN _ _ _
 |global g=>exact .val _ _
 |func f=>exact .ag _ f #[] [] rfl (λq d hd=>by simp at hd)
theorem alv {c:Ctx}{x:Operand}{t e:Code}{Q:Exit->St->Prop}{s:St}(b:Bool)(hb:s.ev x= .bool b)
  (ht:b=true->av c t Q s)(he:b=false->av c e Q s):av c (.cond x t e) Q s:=by
 intro a w hr;have hg:=hr;obtain⟨g,hg⟩:=hg;have hv:=hg.ev x;rw[hb]at hv;have:=hv.asBool;exact wpIn_cond_split this (λh=>ht h a w hr) (λh=>he h a w hr)
end Go.Ab
end
section
namespace Go.Ab
open Go.RowKit
def nC:IntKind->Int->Prop
 | .i8,n=> -128<=n/\n<=127
 | .i16,n=> -32768<=n/\n<=32767
 | .i32,n=> -2147483648<=n/\n<=2147483647
 | .i64,n=> -9223372036854775808<=n/\n<=9223372036854775807
 | .u8,n=>0<=n/\n<=255
 | .u16,n=>0<=n/\n<=65535
 | .u32,n=>0<=n/\n<=4294967295
 | .u64,n=>0<=n/\n<=18446744073709551615
theorem nC.wrap {k:IntKind}{n:Int}(h:nC k n):k.wrap n=n:=by
 cases k<;>simp only[nC]at h<;>simp[IntKind.wrap,IntKind.bits,IntKind.signed]<;>omega
def jT:List D->Option (List Int)
 |[]=>some []
 | .int .i64 n::cs=>(jT cs).map (n::·)
 |_=>none
def o0 (d:D)(k:Bool->Prop):Prop:=match d with| .bool b=>k b|_=>False
def kc (d:D)(k:IntKind->Int->Prop):Prop:=match d with| .int a n=>k a n|_=>False
def jh (x y:D)(k:IntKind->Int->Int->Prop):Prop:=kc x λa n=>kc y λb m=>a=b/\k a n m
def wz (d:D)(k:List D->Prop):Prop:=match d with| .agg cs=>k cs|_=>False
def tI (d:D)(k:List D->Prop):Prop:=match d with| .aF cs=>k cs|_=>False
def a_ {α:Type}(x:Option α)(k:α->Prop):Prop:=match x with|some a=>k a|none=>False
def XN (P:Program)(t:TypeId)(n:Nat):Prop:=P.eqGuardType P.depth t=false/\∀(xs ys:List Int) (w:World),xs.length=n->ys.length=n->
 (binOp .eql t (.agg (xs.map (k7 .i64)).toArray) (.agg (ys.map (k7 .i64)).toArray)).run P w= .ok (.bool (decide (xs=ys))) w/\
 (binOp .neq t (.agg (xs.map (k7 .i64)).toArray) (.agg (ys.map (k7 .i64)).toArray)).run P w= .ok (.bool (!decide (xs=ys))) w
def BF (P:Program)(t:TypeId):Bool:=match P.underlying t with|some (.slice _)=>true|_=>false
def yS (P:Program)(t:TypeId):Bool:=match P.underlying t with|some (.pointer _)=>true|_=>false
theorem LC {P:Program}{t:TypeId}(h:yS P t=true):∃e,P.underlying t=some (.pointer e):=by
 unfold yS at h;split at h
 ·exact⟨_,by assumption⟩
 ·cases h
def pR (P:Program)(t:TypeId)(x y:D)(k:Bool->Prop):Prop:=match x,y with
 | .int a n, .int b m=>a=b/\k (decide (n=m))
 | .bool a, .bool b=>P.underlying t=some .bool/\k (a == b)
 | .str a, .str b=>k (a.toList == b.toList)
 | .list xs, .val (.slice none 0 0)=>BF P t=true/\xs≠[]/\(∀x∈xs,x.cells≠[])/\k false
 | .val (.slice none 0 0), .val (.slice none 0 0)=>BF P t=true/\k true
 | .box _ _, .val (.pointer none)=>yS P t=true/\k false
 | .ro _, .val (.pointer none)=>yS P t=true/\k false
 | .val (.pointer none), .val (.pointer none)=>yS P t=true/\k true
 | .agg cs, .agg ds=>a_ (jT cs) λxs=>a_ (jT ds) λys=>xs.length=ys.length/\XN P t xs.length/\k (decide (xs=ys))
 |_,_=>False
def nE (bx:List Bx)(i:Nat)(k:List D->Prop):Prop:=match bx[i]? with
 |some (.mu cs)=>k cs
 |some (.fz cs)=>k cs
 |_=>False
def oY (rw:List Row)(d:D)(k:List D->Prop):Prop:=match d with
 | .list xs=>k xs
 | .own r=>match rw[r]? with|some row=>k row.xs|none=>False
 |_=>False
def ry (xs:List D)(n:Int)(k:D->Prop):Prop:=0<=n/\∃d,xs[n.toNat]? =some d/\k d
def aC (P:Program)(t:TypeId):Nat:=P.cellsOf t
def cI (P:Program)(t:TypeId):Option Bool:=match P.underlying t with|some (.struct _)=>some true|some (.array _ _)=>some true|some _=>some false|none=>none
def bc (P:Program)(t:TypeId)(f:Nat):Option (Nat×TypeId):=match P.underlying t with
 |some (.struct fs)=>match fs[f]? with
  |some fd=>if P.cellsOf fd.type=0 then none else some (fd.offset,fd.type)
  |none=>none
 |_=>none
def elemOf (P:Program)(t:TypeId):Option TypeId:=match P.underlying t with|some (.slice e)=>some e|_=>none
def rl (P:Program)(t:TypeId):Option (Nat×TypeId):=match P.underlying t with|some (.array n e)=>some (n,e)|_=>none
def qU (P:Program)(t:TypeId):Option IntKind:=match P.underlying t with|some (.int k)=>some k|_=>none
def bL (P:Program)(t:TypeId):Option (List D):=match P.info? t with
 |some i=>match i.zero with
  |some z=>if z.cells.all (·.oneCell')&&z.cells.size == i.size then some (z.cells.toList.map vK)else none
  |none=>none
 |none=>none
def tJ (cs:List D)(k:D->Prop):Prop:=match cs with|d::_=>k d|[]=>False
def sF (P:Program)(t:TypeId)(cs:List D)(k:D->Prop):Prop:=a_ (cI P t) λb=>match b with
 |true=>aC P t≠0/\aC P t<=cs.length/\k (.agg (cs.take (aC P t)))
 |false=>tJ cs k
def k9 (P:Program)(bx:List Bx)(t:TypeId)(x:D)(k:D->Prop):Prop:=match x with
 | .box i off=>nE bx i λcs=>sF P t (cs.drop off) k
 | .ro cs=>sF P t cs k
 |_=>False
def sG (x:D)(o:Nat)(k:D->Prop):Prop:=match x with
 | .box i off=>k (.box i (off + o))
 | .ro cs=>k (.ro (cs.drop o))
 |_=>False
def yv (x y:D)(k:D->Prop):Prop:=match x with
 | .str a=>(match y with
  | .str b=>a.size + b.size<=9223372036854775807/\k (.str (a++b))
  |_=>False)
 |x=>jh x y λa n m=>nC a (n + m)/\k (.int a (n + m))
def BY (n m:Int):Int:=if m=2 then(if n < 2 then 0 else 2)else n % (m + 1)
def wy (P:Program)(t:TypeId)(op:BinOp)(x y:D)(k:D->Prop):Prop:=match op with
 | .add=>yv x y k
 | .sub=>jh x y λa n m=>nC a (n - m)/\k (.int a (n - m))
 | .mul=>jh x y λa n m=>nC a (n * m)/\k (.int a (n * m))
 | .quo=>jh x y λa n m=>m≠0/\nC a (n.tdiv m)/\k (.int a (n.tdiv m))
 | .rem=>jh x y λa n m=>m≠0/\k (.int a (n.tmod m))
 | .lss=>jh x y λ_ n m=>k (.bool (decide (n < m)))
 | .leq=>jh x y λ_ n m=>k (.bool (decide (n<=m)))
 | .gtr=>jh x y λ_ n m=>k (.bool (decide (m < n)))
 | .geq=>jh x y λ_ n m=>k (.bool (decide (m<=n)))
 | .eql=>pR P t x y λb=>k (.bool b)
 | .neq=>pR P t x y λb=>k (.bool (!b))
 | .shr=>kc x λa n=>kc y λ_ m=>0<=m/\m < a.bits/\k (.int a (n.fdiv (2 ^ m.toNat)))
 | .shl=>kc x λa n=>kc y λ_ m=>0<=m/\m < a.bits/\nC a (n * 2 ^ m.toNat)/\k (.int a (n * 2 ^ m.toNat))
 | .and=>jh x y λa n m=>(a= .i64\/a= .u64)/\0<=n/\n<=9223372036854775807/\(m=1\/m=4294967295\/m=2/\n < 4)/\k (.int a (BY n m))
 |_=>False
def wu (op:UnOp)(x:D)(k:D->Prop):Prop:=match op with
 | .not=>o0 x λb=>k (.bool (!b))
 | .neg=>kc x λa n=>nC a (-n)/\k (.int a (-n))
 |_=>False
def uU (P:Program)(rw:List Row)(t:TypeId)(x ix:D)(k:D->Prop):Prop:=match elemOf P t with
 |some e=>match x with
  | .aN i off m _=>kc ix λ_ n=>aC P e≠0/\0<=n/\n < m/\k (.box i (off + n.toNat * aC P e))
  |x=>oY rw x λxs=>kc ix λ_ n=>ry xs n λd=>aC P e≠0/\d.cells.length=aC P e/\k (.ro d.cells)
 |none=>a_ (rl P t) λne=>kc ix λ_ n=>aC P ne.2≠0/\0<=n/\n < ne.1/\sG x (n.toNat * aC P ne.2) k
def Ag (P:Program)(t:TypeId)(cs:List D)(off:Nat)(k:D->Prop):Prop:=a_ (cI P t) λb=>match b with
 |true=>aC P t≠0/\off + aC P t<=cs.length/\k (.agg ((cs.drop off).take (aC P t)))
 |false=>a_ cs[off]? k
def Ai (P:Program)(t:TypeId)(x ix:D)(k:D->Prop):Prop:=a_ (rl P t) λne=>wz x λcs=>kc ix λ_ n=>aC P ne.2≠0/\0<=n/\n < ne.1/\Ag P ne.2 cs (n.toNat * aC P ne.2) k
def wx (P:Program)(t:TypeId)(x:D)(f:Nat)(k:D->Prop):Prop:=a_ (bc P t f) λot=>wz x λcs=>Ag P ot.2 cs ot.1 k
def GX (t:Bool)(a b:D):D:=match t with|true=>a|false=>b
def kN (P:Program)(t:TypeId):Bool:=match P.underlying t with|some .string=>true|_=>false
def zG:List D->Option (List UInt8)
 |[]=>some []
 | .int .u8 n::l=>(zG l).map (UInt8.ofNat n.toNat::·)
 |_=>none
def tK (P:Program)(s t:TypeId)(x:D)(k:D->Prop):Prop:=match x with
 | .list xs=>kN P t=true/\a_ (elemOf P s) λe=>a_ (qU P e) λq=>q= .u8/\a_ (zG xs) λb=>k (.str ⟨b.toArray⟩)
 |d=>a_ (qU P s) λ_=>a_ (qU P t) λq=>kc d λ_ n=>nC q n/\k (.int q n)
def mK (d:Option D)(ES y:Nat)(k:Nat->Prop):Prop:=match d with|none=>k ES|some d=>kc d λ_ m=>0<=m/\m<=y/\k m.toNat
def uR (P:Program)(t:TypeId)(x:D)(lo hi:Option D)(k:D->Prop):Prop:=match x with
 | .box i off=>a_ (rl P t) λne=>mK hi ne.1 ne.1 λh=>mK lo 0 h λl=>aC P ne.2≠0/\k (.aN i (if ne.1=l then off else off + l * aC P ne.2) (h - l) (ne.1 - l))
 | .aN i off n c=>a_ (elemOf P t) λe=>mK hi n c λh=>mK lo 0 h λl=>aC P e≠0/\k (.aN i (if c=l then off else off + l * aC P e) (h - l) (c - l))
 | .str s=>kN P t=true/\mK hi s.size s.size λh=>mK lo 0 h λl=>k (.str (s.extract l h))
 | .list xs=>a_ (elemOf P t) λe=>mK hi xs.length xs.length λh=>mK lo 0 h λl=>aC P e≠0/\(∀d∈xs,d.cells.length=aC P e)/\k (.list ((xs.drop l).take (h - l)))
 |_=>False
def uT (P:Program)(t:TypeId)(rw:List Row)(x:D)(k:D->Prop):Prop:=match elemOf P t with
 |some _=>match x with
  | .list xs=>k (.int .i64 xs.length)
  | .own r=>a_ rw[r]? λrow=>k (.int .i64 row.xs.length)
  | .val (.slice none 0 0)=>k (.int .i64 0)
  | .aN _ _ n _=>k (.int .i64 n)
  |_=>False
 |none=>kN P t=true/\match x with
  | .str s=>k (.int .i64 s.size)
  |_=>False
end Go.Ab
end
section
namespace Go.Ab
open Go.RowKit
def Yields (P:Program)(o:Oper)(a:Act)(w:World)(g:Gh)(k:D->Prop):Prop:=
 ∃v d,(execOp a.eval o).run P w= .ok (.value v) w/\Rel w g v d/\k d
section
variable {P:Program} {o:Oper} {a:Act} {w:World} {g:Gh} {k:D->Prop}
theorem O9 {x:Operand}{d:D}(ho:o.op= .move x\/o.op= .assign x)(h:Rel w g (a.eval x) d)(hk:k d):Yields P o a w g k:=by
 refine⟨a.eval x,d, ?_,h,hk⟩;rcases ho with ho|ho<;>simp[execOp,ho]
theorem J0 {v:Value}{d:D}{kb:Bool->Prop}(h:Rel w g v d)(hk:o0 d kb):∃b,v= .bool b/\d= .bool b/\kb b:=by
 cases h<;>simp only[o0]at hk
 exact⟨_,rfl,rfl,hk⟩
theorem oZ {v:Value}{d:D}{kb:IntKind->Int->Prop}(h:Rel w g v d)(hk:kc d kb):∃q n,v= .int q n/\d= .int q n/\kb q n:=by
 cases h<;>simp only[kc]at hk
 exact⟨_,_,rfl,rfl,hk⟩
theorem pQ {v v':Value}{d d':D}{kb:IntKind->Int->Int->Prop}(h:Rel w g v d)(h':Rel w g v' d')(hk:jh d d' kb):
  ∃q n m,v= .int q n/\v'= .int q m/\kb q n m:=by
 obtain⟨q,n,rfl,rfl,cX⟩:=oZ h hk;obtain⟨q',m,rfl,rfl,rfl,lp⟩:=oZ h' cX;exact⟨_,_,_,rfl,rfl,lp⟩
theorem Rel.uF {v:Value}{cs:List D}(h:Rel w g v (.agg cs)):∃vs:List Value,v= .agg vs.toArray/\vs.length=cs.length/\
  ∀q d,cs[q]? =some d->Rel w g (vs.getD q bp) d/\(vs.getD q bp).oneCell'=true:=by
 cases h with
 |agg _ vs _ hl h1 hr=>
  obtain⟨vs⟩:=vs;refine⟨vs,rfl,by simpa using hl,λq d hd=>⟨by simpa using hr q d hd, ?_⟩⟩;have:=h1 q (aQ.1 hd).1;simpa using this
theorem ak9 (q:IntKind)(hq:q= .i64\/q= .u64)(n m:Int)(h0:0<=n)(h1:n<=9223372036854775807)(hm:m=1\/m=4294967295\/m=2/\n < 4):
  q.wrap ((pP q.bits n&&&pP q.bits m).toNat:Int)=BY n m:=by
 by_cases h2:m=2/\n < 4
 ·obtain⟨rfl,hn⟩:=h2;have:n=0\/n=1\/n=2\/n=3:=ae;rcases hq with rfl|rfl<;>rcases this with rfl|rfl|rfl|rfl<;>decide
 replace hm:m=1\/m=4294967295:=ae
 have h_:BY n m=n % (m + 1):=by unfold BY;rw[if_neg ae]
 rw[h_];obtain⟨k,rfl⟩:∃k:Nat,n=k:=⟨n.toNat,ae⟩;have hk:k < 2 ^ 64:=ae;have key:∀e:Nat,e < 64->(pP 64 (k:Int)&&&pP 64 ((2 ^ e - 1:Nat):Int)).toNat=k % 2 ^ e:=by
  intro e he;rw[BitVec.toNat_and,alU,alU];have e1:((k:Int) % ((2 ^ 64:Nat):Int)).toNat=k:=ae;have e3:2 ^ e - 1 < 2 ^ 64:=Nat.lt_of_le_of_lt (Nat.sub_le _ _) (Nat.pow_lt_pow_right aE he);have e2:(((2 ^ e - 1:Nat):Int) % ((2 ^ 64:Nat):Int)).toNat=2 ^ e - 1:=by
   rw[<-Int.natCast_emod,Int.toNat_natCast,Nat.mod_eq_of_lt e3]
  rw[e1,e2,Nat.and_two_pow_sub_one_eq_mod]
 have k1:(pP 64 (k:Int)&&&pP 64 1).toNat=k % 2:=key 1 aE;have k2:(pP 64 (k:Int)&&&pP 64 4294967295).toNat=k % 4294967296:=key 32 aE;have w1:∀j:Nat,j<=9223372036854775807->z7.wrap (j:Int)=j:=λj hj=>nC.wrap (k:= .i64) (by simp only[nC];omega);have w2:∀j:Nat,j<=9223372036854775807->XF.wrap (j:Int)=j:=λj hj=>nC.wrap (k:= .u64) (by simp only[nC];omega);rcases hq with rfl|rfl<;>rcases hm with rfl|rfl
 ·show z7.wrap (((pP 64 (k:Int)&&&pP 64 1).toNat:Nat):Int)=_;rw[k1,w1 _ ae];omega
 ·show z7.wrap (((pP 64 (k:Int)&&&pP 64 4294967295).toNat:Nat):Int)=_;rw[k2,w1 _ ae];omega
 ·show XF.wrap (((pP 64 (k:Int)&&&pP 64 1).toNat:Nat):Int)=_;rw[k1,w2 _ ae];omega
 ·show XF.wrap (((pP 64 (k:Int)&&&pP 64 4294967295).toNat:Nat):Int)=_;rw[k2,w2 _ ae];omega
theorem AS:∀(cs:List D) (vs:List Value) (xs:List Int),jT cs=some xs->vs.length=cs.length->(∀q d,cs[q]? =some d->Rel w g (vs.getD q bp) d)->vs=xs.map (k7 .i64)
 |[],vs,xs,h,hl,_=>by
  simp only[jT,gE]at h;subst h;simpa using hl
 |d::cs,vs,xs,h,hl,hr=>by
  cases vs with
  |nil=>simp at hl
  |cons v vs=>
   have h0:=hr 0 d rfl;simp only[List.getD_cons_zero]at h0;cases d with
   |int q n=>
    cases q<;>simp only[jT,cv,reduceCtorEq]at h
    obtain⟨ys,hy,rfl⟩:=h;cases h0;have:=AS cs vs ys hy (by simpa using hl) (λq d hd=>by have:=hr (q + 1) d (by simpa using hd);simpa using this);rw[this,ib]
   |_=>simp only[jT,reduceCtorEq]at h
theorem cM {α:Type}{x:Option α}{kb:α->Prop}(h:a_ x kb):∃y,x=some y/\kb y:=by
 cases x with
 |none=>exact h.elim
 |some y=>exact⟨y,rfl,h⟩
theorem Pt {v v':Value}{d d':D}{t:TypeId}{kb:Bool->Prop}(h:Rel w g v d)(h':Rel w g v' d')(hk:pR P t d d' kb):
  (∃q n m,v= .int q n/\v'= .int q m/\kb (decide (n=m)))\/(∃b b',v= .bool b/\v'= .bool b'/\P.underlying t=some .bool/\kb (b == b'))\/
  (∃s s',v= .string s/\v'= .string s'/\kb (s.toList == s'.toList))\/
  (∃xs ys:List Int,xs.length=ys.length/\XN P t xs.length/\v= .agg (xs.map (k7 .i64)).toArray/\v'= .agg (ys.map (k7 .i64)).toArray/\kb (decide (xs=ys)))\/
  (∃(b:Bool) (A:Option Addr) (n c:Nat) (e:TypeId),v= .slice A n c/\v'= .slice none 0 0/\P.underlying t=some (.slice e)/\A.isNone=b/\kb b)\/
  (∃(b:Bool) (p:Option Addr) (e:TypeId),v= .pointer p/\v'= .pointer none/\P.underlying t=some (.pointer e)/\p.isNone=b/\kb b):=by
 cases d<;>cases d'<;>simp only[pR]at hk
 case list.val xs u=>
  split at hk<;>first|exact hk.elim|skip
  all_goals(rename_i h1 h2;first|cases h1|skip)
  all_goals first|(cases h2;done)|skip
  injection h2 with h2;subst h2;obtain⟨ht,hx,hc,hk⟩:=hk;cases h';unfold BF at ht;split at ht<;>first|cases ht|skip
  rename_i e he;cases h with
  |list _ A n c _ sz u hn aR eO hm hr=>
   cases fV:xs with
   |nil=>exact absurd fV hx
   |cons d ds=>
    have h0:=hc d (by rw[fV];exact dI ..);have kS:0 < (flat xs).length:=by
     rw[fV];show 0 < (d.cells++flat ds).length;have:=List.length_pos_iff.2 h0;simp only[eQ];omega
    obtain⟨ad,rfl,_⟩:=hm 0 kS;exact .inr (.inr (.inr (.inr (.inl ⟨false,_,_,_,e,rfl,rfl,he,rfl,hk⟩))))
 case val.val u u'=>
  split at hk<;>first|exact hk.elim|skip
  all_goals(rename_i h1 h2;first|(cases h1;done)|skip)
  all_goals first|(cases h2;done)|skip
  ·injection h1 with h1;injection h2 with h2;subst h1;subst h2
   obtain⟨ht,hk⟩:=hk;cases h;cases h'
   unfold BF at ht;split at ht<;>first|cases ht|skip
   rename_i e he;exact .inr (.inr (.inr (.inr (.inl ⟨true,_,_,_,e,rfl,rfl,he,rfl,hk⟩))))
  ·injection h1 with h1;injection h2 with h2;subst h1;subst h2
   obtain⟨ht,hk⟩:=hk;obtain⟨e,he⟩:=LC ht;cases h;cases h'
   exact .inr (.inr (.inr (.inr (.inr ⟨true,_,e,rfl,rfl,he,rfl,hk⟩))))
 case box.val i off u=>
  split at hk<;>first|exact hk.elim|skip
  all_goals(rename_i h1 h2;first|(cases h1;done)|skip)
  all_goals first|(cases h2;done)|skip
  injection h2 with h2;subst h2;obtain⟨ht,hk⟩:=hk;obtain⟨e,he⟩:=LC ht;cases h;cases h'
  exact .inr (.inr (.inr (.inr (.inr ⟨false,_,e,rfl,rfl,he,rfl,hk⟩))))
 case ro.val cs u=>
  split at hk<;>first|exact hk.elim|skip
  all_goals(rename_i h1 h2;first|(cases h1;done)|skip)
  all_goals first|(cases h2;done)|skip
  injection h2 with h2;subst h2;obtain⟨ht,hk⟩:=hk;obtain⟨e,he⟩:=LC ht;cases h;cases h'
  exact .inr (.inr (.inr (.inr (.inr ⟨false,_,e,rfl,rfl,he,rfl,hk⟩))))
 ·obtain⟨rfl,hk⟩:=hk;cases h;cases h';exact .inl ⟨_,_,_,rfl,rfl,hk⟩
 ·cases h;cases h';exact .inr (.inl ⟨_,_,rfl,rfl,hk⟩)
 ·cases h;cases h';exact .inr (.inr (.inl ⟨_,_,rfl,rfl,hk⟩))
 ·obtain⟨xs,h1,hk⟩:=cM hk;obtain⟨ys,h2,hl,he,hk⟩:=cM hk;obtain⟨vs,rfl,l1,r1⟩:=h.uF;obtain⟨ie,rfl,l2,r2⟩:=h'.uF;have e1:=AS _ vs xs h1 l1 (λq d hd=>(r1 q d hd).1);have e2:=AS _ ie ys h2 l2 (λq d hd=>(r2 q d hd).1);subst e1;subst e2
  exact .inr (.inr (.inr (.inl ⟨xs,ys,hl,he,rfl,rfl,hk⟩)))
theorem Qn (P:Program)(w:World){t e:TypeId}(ht:P.underlying t=some (.pointer e))(p:Option Addr):(Ft t (.pointer p) (.pointer none)).run P w= .ok p.isNone w:=by
 show(OH (9999 + 1) t (.pointer p) (.pointer none)).run P w=_;generalize 9999=N;cases p<;>simp[OH,run_underlying ht]
theorem abR (P:Program)(w:World){t e:TypeId}(ht:P.underlying t=some (.pointer e))(p:Option Addr):(binOp .eql t (.pointer p) (.pointer none)).run P w= .ok (.bool p.isNone) w:=by
 have:=Qn P w ht p;show((do pure (.bool (<-Ft t (.pointer p) (.pointer none))):Sem Value)).run P w=_;simp[this]
theorem abP (P:Program)(w:World){t e:TypeId}(ht:P.underlying t=some (.pointer e))(p:Option Addr):(binOp .neq t (.pointer p) (.pointer none)).run P w= .ok (.bool (!p.isNone)) w:=by
 have:=Qn P w ht p;show((do pure (.bool (!(<-Ft t (.pointer p) (.pointer none)))):Sem Value)).run P w=_;simp[this]
theorem Qo (P:Program)(w:World){t e:TypeId}(ht:P.underlying t=some (.slice e))(A:Option Addr)(n c:Nat):(Ft t (.slice A n c) (.slice none 0 0)).run P w= .ok A.isNone w:=by
 show(OH (9999 + 1) t (.slice A n c) (.slice none 0 0)).run P w=_;generalize 9999=N;cases A<;>simp[OH,run_underlying ht]
theorem Qp (P:Program)(w:World){t e:TypeId}(ht:P.underlying t=some (.slice e))(A:Option Addr)(n c:Nat):(binOp .eql t (.slice A n c) (.slice none 0 0)).run P w= .ok (.bool A.isNone) w:=by
 have:=Qo P w ht A n c;show((do pure (.bool (<-Ft t (.slice A n c) (.slice none 0 0))):Sem Value)).run P w=_;simp[this]
theorem abQ (P:Program)(w:World){t e:TypeId}(ht:P.underlying t=some (.slice e))(A:Option Addr)(n c:Nat):(binOp .neq t (.slice A n c) (.slice none 0 0)).run P w= .ok (.bool (!A.isNone)) w:=by
 have:=Qo P w ht A n c;show((do pure (.bool (!(<-Ft t (.slice A n c) (.slice none 0 0)))):Sem Value)).run P w=_;simp[this]
theorem X0 {x y z:Operand}{dx dy dz:D}(ho:o.op= .pick x y z)(hx:Rel w g (a.eval x) dx)(hy:Rel w g (a.eval y) dy)(hz:Rel w g (a.eval z) dz)
  (hk:o0 dx λt=>k (GX t dy dz)):Yields P o a w g k:=by
 obtain⟨b,hv,rfl,hk⟩:=J0 hx hk;cases b
 ·exact⟨a.eval z,dz,by simp[execOp,ho,hv,asBool],hz,hk⟩
 ·exact⟨a.eval y,dy,by simp[execOp,ho,hv,asBool],hy,hk⟩
theorem Ye {op:BinOp}{x y:Operand}{xt yt:TypeId}{dx dy:D}(ho:o.op= .binOp op xt x y yt)(hx:Rel w g (a.eval x) dx)(hy:Rel w g (a.eval y) dy)
  (hk:wy P xt op dx dy k):Yields P o a w g k:=by
 cases op<;>simp only[wy]at hk
 case add=>
  unfold yv at hk;split at hk
  ·split at hk
   ·generalize h1:a.eval x=v1 at hx;generalize h2:a.eval y=v2 at hy;cases hx;cases hy
    rename_i sa _ sb;exact⟨.string (sa++sb),_,by
     have hn:¬(z7.max < ((sa.size:Int) + (sb.size:Int))):=by
      have:z7.max=9223372036854775807:=rfl;omega
     simp[execOp,ho,h1,h2,eqGuard,binOp,Op.stringOp];omega, .str _ _,hk.2⟩
   ·exact hk.elim
  obtain⟨q,n,m,h1,h2,hr,hk⟩:=pQ hx hy hk;exact⟨.int q (n + m),_,by simp[execOp,ho,h1,h2,eqGuard,binOp,Jq,hr.wrap], .int _ _ _,hk⟩
 case sub=>
  obtain⟨q,n,m,h1,h2,hr,hk⟩:=pQ hx hy hk;exact⟨.int q (n - m),_,by simp[execOp,ho,h1,h2,eqGuard,binOp,Jq,hr.wrap], .int _ _ _,hk⟩
 case mul=>
  obtain⟨q,n,m,h1,h2,hr,hk⟩:=pQ hx hy hk;exact⟨.int q (n * m),_,by simp[execOp,ho,h1,h2,eqGuard,binOp,Jq,hr.wrap], .int _ _ _,hk⟩
 case quo=>
  obtain⟨q,n,m,h1,h2,h0,hr,hk⟩:=pQ hx hy hk;exact⟨.int q (n.tdiv m),_,by simp[execOp,ho,h1,h2,eqGuard,binOp,Op.intDiv,h0,hr.wrap], .int _ _ _,hk⟩
 case rem=>
  obtain⟨q,n,m,h1,h2,h0,hk⟩:=pQ hx hy hk;exact⟨.int q (n.tmod m),_,by simp[execOp,ho,h1,h2,eqGuard,binOp,Op.intDiv,h0], .int _ _ _,hk⟩
 case lss=>
  obtain⟨q,n,m,h1,h2,hk⟩:=pQ hx hy hk;exact⟨.bool (decide (n < m)),_,by simp[execOp,ho,h1,h2,eqGuard,binOp,Fq], .bool _ _,hk⟩
 case leq=>
  obtain⟨q,n,m,h1,h2,hk⟩:=pQ hx hy hk;exact⟨.bool (decide (n<=m)),_,by simp[execOp,ho,h1,h2,eqGuard,binOp,Fq], .bool _ _,hk⟩
 case gtr=>
  obtain⟨q,n,m,h1,h2,hk⟩:=pQ hx hy hk;exact⟨.bool (decide (m < n)),_,by simp[execOp,ho,h1,h2,eqGuard,binOp,Fq], .bool _ _,hk⟩
 case geq=>
  obtain⟨q,n,m,h1,h2,hk⟩:=pQ hx hy hk;exact⟨.bool (decide (m<=n)),_,by simp[execOp,ho,h1,h2,eqGuard,binOp,Fq], .bool _ _,hk⟩
 case eql=>
  rcases Pt hx hy hk with⟨q,n,m,h1,h2,hk⟩|⟨b,b',h1,h2,ht,hk⟩|⟨s,s',h1,h2,hk⟩|⟨xs,ys,hl,he,h1,h2,hk⟩|⟨b,A,n,c,e,h1,h2,ht,hb,hk⟩|⟨b,p,e,h1,h2,ht,hb,hk⟩
  ·exact⟨.bool (decide (n=m)),_,by simp[execOp,ho,h1,h2,eqGuard,binOp,Fq];rfl, .bool _ _,hk⟩
  ·exact⟨.bool (b == b'),_,by simp[execOp,ho,h1,h2,eqGuard,run_eql_bool w _ _ _ ht], .bool _ _,hk⟩
  ·exact⟨.bool (s.toList == s'.toList),_,by simp[execOp,ho,h1,h2,eqGuard,binOp,Op.stringOp], .bool _ _,hk⟩
  ·have hr:=(he.2 xs ys w rfl hl.symm).1;exact⟨.bool (decide (xs=ys)),_,by simp[execOp,ho,h1,h2,eqGuard,he.1,hr], .bool _ _,hk⟩
  ·refine⟨.bool b,_, ?_, .bool _ _,hk⟩;subst hb;simp[execOp,ho,h1,h2,eqGuard,Qp P w ht]
  ·refine⟨.bool (b),_, ?_, .bool _ _,hk⟩;subst hb;simp[execOp,ho,h1,h2,eqGuard,abR P w ht]
 case neq=>
  rcases Pt hx hy hk with⟨q,n,m,h1,h2,hk⟩|⟨b,b',h1,h2,ht,hk⟩|⟨s,s',h1,h2,hk⟩|⟨xs,ys,hl,he,h1,h2,hk⟩|⟨b,A,n,c,e,h1,h2,ht,hb,hk⟩|⟨b,p,e,h1,h2,ht,hb,hk⟩
  ·exact⟨.bool (!decide (n=m)),_,by simp[execOp,ho,h1,h2,eqGuard,binOp,Fq];rfl, .bool _ _,hk⟩
  ·exact⟨.bool (!(b == b')),_,by simp[execOp,ho,h1,h2,eqGuard,run_neq_bool w _ _ _ ht], .bool _ _,hk⟩
  ·exact⟨.bool (!(s.toList == s'.toList)),_,by simp[execOp,ho,h1,h2,eqGuard,binOp,Op.stringOp], .bool _ _,hk⟩
  ·have hr:=(he.2 xs ys w rfl hl.symm).2;exact⟨.bool (!decide (xs=ys)),_,by simp[execOp,ho,h1,h2,eqGuard,he.1,hr], .bool _ _,hk⟩
  ·refine⟨.bool (!b),_, ?_, .bool _ _,hk⟩;subst hb;simp[execOp,ho,h1,h2,eqGuard,abQ P w ht]
  ·refine⟨.bool (!b),_, ?_, .bool _ _,hk⟩;subst hb;simp[execOp,ho,h1,h2,eqGuard,abP P w ht]
 case shr=>
  obtain⟨q,n,h1,rfl,hk⟩:=oZ hx hk;obtain⟨q',m,h2,rfl,h0,hb,hk⟩:=oZ hy hk;exact⟨.int q (n.fdiv (2 ^ m.toNat)),_,by simp[execOp,ho,h1,h2,eqGuard,binOp,Op.shift,show¬m < 0 by omega,show min m.toNat q.bits=m.toNat by omega], .int _ _ _,hk⟩
 case shl=>
  obtain⟨q,n,h1,rfl,hk⟩:=oZ hx hk;obtain⟨q',m,h2,rfl,h0,hb,hr,hk⟩:=oZ hy hk;exact⟨.int q (n * 2 ^ m.toNat),_,by simp[execOp,ho,h1,h2,eqGuard,binOp,Op.shift,show¬m < 0 by omega,show min m.toNat q.bits=m.toNat by omega,hr.wrap], .int _ _ _,hk⟩
 case and=>
  obtain⟨q,n,m,h1,h2,hq,h0,jI,hm,hk⟩:=pQ hx hy hk;refine⟨.int q (BY n m),_, ?_, .int _ _ _,hk⟩;have:=ak9 q hq n m h0 jI hm;simp[execOp,ho,h1,h2,eqGuard,binOp,Op.intBits];exact this
theorem XY {op:UnOp}{x:Operand}{xt:TypeId}{dx:D}(ho:o.op= .unOp op xt x)(hx:Rel w g (a.eval x) dx)(hk:wu op dx k):Yields P o a w g k:=by
 cases op<;>simp only[wu]at hk
 case not=>
  obtain⟨b,h1,rfl,hk⟩:=J0 hx hk;exact⟨.bool (!b),_,by simp[execOp,ho,h1,Op.unary], .bool _ _,hk⟩
 case neg=>
  obtain⟨q,n,h1,rfl,hr,hk⟩:=oZ hx hk;exact⟨.int q (-n),_,by simp[execOp,ho,h1,Op.unary,Jq,hr.wrap], .int _ _ _,hk⟩
theorem Yb {x:Operand}{i:Nat}{dx:D}(ho:o.op= .extract x i)(hx:Rel w g (a.eval x) dx)(hk:tI dx λds=>a_ ds[i]? k):Yields P o a w g k:=by
 cases dx<;>simp only[tI]at hk
 rename_i ds;obtain⟨d,hd,hk⟩:=cM hk;generalize hv:a.eval x=v at hx;cases hx with
 |aF _ vs _ hl hr=>
  have eg:i < vs.size:=by rw[hl];exact(aQ.1 hd).1
  refine⟨vs[i],d, ?_,by have:=hr i d hd;simpa[eg]using this,hk⟩;simp[execOp,ho,hv,Instr.extract,eg]
theorem Wu:∀{xs:List D} {b:List UInt8},zG xs=some b->∃ns:List Int,xs=ns.map (D.int .u8)/\b=ns.map λn=>UInt8.ofNat n.toNat
 |[],b,h=>by simp only[zG,gE]at h;subst h;exact⟨[],rfl,rfl⟩
 |d::xs,b,h=>by
  unfold zG at h;split at h
  ·rename_i e;cases e
  ·rename_i n l e;injection e with e1 e2;subst e1;subst e2
   obtain⟨b',h1,rfl⟩:=cv.1 h;obtain⟨ns,e1,rfl⟩:=Wu h1;exact⟨n::ns,by rw[e1];rfl,rfl⟩
  ·cases h
theorem Vh:∀ns:List Int,flat (ns.map (D.int .u8))=ns.map (D.int .u8)
 |[]=>rfl
 |n::ns=>by show D.cells (.int .u8 n)++flat (ns.map (D.int .u8))=_;rw[Vh ns];rfl
theorem Yc {s t:TypeId}{x:Operand}{dx:D}(ho:o.op= .convert s t x)(hx:Rel w g (a.eval x) dx)
  (hk:tK P s t dx k):Yields P o a w g k:=by
 unfold tK at hk;split at hk
 ·rename_i xs;obtain⟨aM,hk⟩:=hk;have hu:P.underlying t=some .string:=by unfold kN at aM;split at aM<;>simp_all
  obtain⟨e,he,hk⟩:=cM hk;obtain⟨q,hq,rfl,hk⟩:=cM hk;obtain⟨b,hb,hk⟩:=cM hk;have r7:P.underlying s=some (.slice e):=by unfold elemOf at he;split at he<;>simp_all
  have dP:P.underlying e=some (.int .u8):=by unfold qU at hq;split at hq<;>simp_all
  obtain⟨ns,rfl,rfl⟩:=Wu hb;generalize hv:a.eval x=v at hx;cases hx with
  |list _ A n c _ sz u hn aR hc hm hr=>
  rw[Vh]at hm hr;refine⟨.string (strOfNums ns),_, ?_, .str _ _,hk⟩;have aV:(convert s t (.slice A n c)).run P w= .ok (.string (strOfNums ns)) w:=by
   cases A with
   |none=>
    have:ns=[]:=by
     cases ns with
     |nil=>rfl
     |cons m ms=>obtain⟨ad,h,_⟩:=hm 0 aO;cases h
    subst this;rw[run_convert_bytes_nil w s e r7 dP n c t hu];rfl
   |some ad=>
    have hl:(loadCells ad n).run P w= .ok (ns.map (k7 .u8)).toArray w:=by
     have:=run_loadCells_list (P:=P) w ad (ns.map (k7 .u8)) (λj v hj=>by
      have dE:j < ns.length:=by have:=(aQ.1 hj).1;simpa using this
      obtain⟨zJ,h1,h2,_⟩:=hm j (by simpa using dE);cases h1;have h3:=hr j (.int .u8 ns[j]) (by rw[cO,bS dE];rfl);rw[cO,bS dE]at hj;simp only[eH,gE]at hj;subst hj;rw[h2];generalize u j=v' at h3;cases h3;rfl)
     have n9:n=ns.length:=by simpa using hn
     simpa[n9]using this
    rw[run_convert_bytes_string w s t e _ n c r7 dP hu,run_bytesToString w _ n c ns hl,foldl_push_bytes];simp[strOfNums,ByteArray.empty,ByteArray.emptyWithCapacity];rfl
  simp[execOp,ho,hv,aV]
 obtain⟨qs,hs,hk⟩:=cM hk;obtain⟨qt,ht,hk⟩:=cM hk;obtain⟨q,n,h1,rfl,hr,hk⟩:=oZ hx hk;have mj:P.underlying s=some (.int qs):=by
  unfold qU at hs;split at hs<;>simp_all
 have Hw:P.underlying t=some (.int qt):=by
  unfold qU at ht;split at ht<;>simp_all
 exact⟨.int qt n,_,by simp[execOp,ho,h1,convert,run_underlying mj,run_underlying Hw,Conv.intToInt,hr.wrap], .int _ _ _,hk⟩
theorem Z3 {t:TypeId}(h:aC P t≠0):∃i,P.info? t=some i/\i.size=aC P t:=by
 unfold aC zP at *;cases hi:P.info? t with
 |none=>simp[hi]at h
 |some i=>exact⟨i,rfl,by simp⟩
theorem run_sizeOf {t:TypeId}(h:aC P t≠0)(w:World):(sizeOf t).run P w= .ok (aC P t) w:=by
 obtain⟨i,hi,hs⟩:=Z3 h;simp[sizeOf,typeInfo,hi,hs]
theorem Rel.C6 {v:Value}{cs:List D}(h:Rel w g v (.ro cs)):∃(ad:Addr) (u:Nat->Value),v= .pointer (some ad)/\
  (∀q,q < cs.length->w.cell? (ad.add q)=some (u q)/\g.S (ad.add q)/\(u q).oneCell'=true)/\∀q d,cs[q]? =some d->Rel w g.er (u q) d:=by
 cases h with
 |ro _ ad _ u hm hr=>exact⟨ad,u,rfl,hm,hr⟩
theorem ud (w:World)(g:Gh):fL w g.er w g:=⟨λ_ _=>rfl,λ_ h=>h,λi b h=>by simp[Gh.er]at h,λi b h=>by simp[Gh.er]at h,λ_ _ h=>h⟩
structure Mem (w:World)(g:Gh)(bx:List Bx)(rw:List Row):Prop where
 bx:∀(i:Nat) (cs:List D),(bx[i]? =some (.mu cs)\/bx[i]? =some (.fz cs))->∃(b:Nat) (vs:Array Value) (t:TypeId×Bool),g.β[i]? =some b/\w.heap[b]? =some (.cells vs t.1 (pD vs.size t.2))/\fZ w g vs cs
 rw:∀(r:Nat) (row:Row),rw[r]? =some row->∃v,g.ρ[r]? =some v/\Rel w g v (.list row.xs)
theorem RG.mem {c:Ctx}{s:St}(h:RG c s a w g):Mem w g s.bx s.rw where
 bx i cs hi:=by
  rcases hi with hi|hi
  ·obtain⟨b,vs,t,e1,e2,e3,_⟩:=(h.bx i cs hi).ex;exact⟨b,vs,t,e1,e2,e3⟩
  ·obtain⟨b,vs,t,e1,e2,e3,_⟩:=(h.fz i cs hi).ex;exact⟨b,vs,t,e1,e2,e3.aZ (ud _ _)⟩
 rw r row hr:=by
  obtain⟨v,e1,e2,_⟩:=(h.rw r row hr).ex;exact⟨v,e1,e2⟩
theorem CD {bx:List Bx}{i:Nat}{kb:List D->Prop}(h:nE bx i kb):∃cs,(bx[i]? =some (.mu cs)\/bx[i]? =some (.fz cs))/\kb cs:=by
 unfold nE at h;split at h
 ·exact⟨_, .inl (by assumption),h⟩
 ·exact⟨_, .inr (by assumption),h⟩
 ·exact h.elim
theorem nt (b o q:Nat):(⟨b,o,none⟩:Addr).add q=⟨b,o + q,none⟩:=by
 unfold Addr.add;split<;>simp_all
theorem WW {t:TypeId}{b:Bool}(h:cI P t=some b)(w:World):(isAgg t).run P w= .ok b w:=by
 unfold cI at h;split at h<;>simp only[gE,reduceCtorEq]at h
 ·subst h;simp[isAgg,run_underlying ‹_›]
 ·subst h;simp[isAgg,run_underlying ‹_›]
 ·rename_i d h1 h2 hd;subst h;cases d<;>first|exact(h1 _ rfl).elim|exact(h2 _ _ rfl).elim|simp[isAgg,run_underlying hd]
theorem Ax {t:TypeId}{ad:Addr}{cs:List D}{u:Nat->Value}(hm:∀q,q < cs.length->w.cell? (ad.add q)=some (u q)/\(u q).oneCell'=true)
  (hr:∀q d,cs[q]? =some d->Rel w g (u q) d)(hk:sF P t cs k):∃v d,(loadVar t ad).run P w= .ok v w/\Rel w g v d/\k d:=by
 unfold sF at hk;obtain⟨b,hb,hk⟩:=cM hk;have Eu:=WW hb w;cases b with
 |true=>
  obtain⟨hz,hle,hk⟩:=hk;refine⟨.agg ((ct (aC P t)).map u).toArray, .agg (cs.take (aC P t)), ?_, ?_,hk⟩
  ·have aV:=run_loadCells (P:=P) (w:=w) ad (aC P t) u (λj hj=>(hm j ae).1);simp[loadVar,Eu,run_sizeOf hz,aV]
  ·refine .agg _ _ _ (by simp;omega) (λq hq=> ?_) (λq d hd=> ?_)
   ·simp only[mH]at hq;have h1:q < aC P t:=ae;simp[h1];exact(hm q ae).2
   ·have hq:=(aQ.1 hd).1;simp only[mH]at hq;have h1:q < aC P t:=ae;rw[iM,if_pos h1]at hd;simp[h1];exact hr q d hd
 |false=>
  cases cs with
  |nil=>exact hk.elim
  |cons d cs=>
   refine⟨u 0,d, ?_,hr 0 d rfl,hk⟩;have h0:=(hm 0 aO).1;simp only[Addr.add]at h0;simp at h0;simp[loadVar,Eu,h0]
theorem vP {b:Nat}{vs:Array Value}{t:TypeId}{fz:Nat×Nat}{cs:List D}(h:w.heap[b]? =some (.cells vs t fz))(hc:fZ w g vs cs)(off:Nat):
  (∀q,q < (cs.drop off).length->w.cell? ((⟨b,off,none⟩:Addr).add q)=some (vs.getD (off + q) bp)/\(vs.getD (off + q) bp).oneCell'=true)/\
  ∀q d,(cs.drop off)[q]? =some d->Rel w g (vs.getD (off + q) bp) d:=by
 have eX:∀q,off + q < cs.length->w.cell? ((⟨b,off,none⟩:Addr).add q)=some (vs.getD (off + q) bp):=λq hq=>by
  rw[nt,cell_of_row w b (off + q) vs t fz h];have:off + q < vs.size:=by rw[hc.1];exact hq
  simp[this]
 refine⟨λq hq=> ?_,λq d hd=> ?_⟩
 ·simp only[zU]at hq;have hl:off + q < cs.length:=ae;exact⟨eX q hl,(hc.2 (off + q) _ (bS hl)).2⟩
 ·rw[tB]at hd;exact(hc.2 _ d hd).1
theorem X6 {t:TypeId}{x:Operand}{dx:D}{bx:List Bx}{aD:List Row}(ho:o.op= .load t x)(hx:Rel w g (a.eval x) dx)(hM:Mem w g bx aD)(hk:k9 P bx t dx k):Yields P o a w g k:=by
 cases dx<;>simp only[k9]at hk
 case box i off=>
  obtain⟨cs,aw,hk⟩:=CD hk;obtain⟨b,vs,tb,e1,e2,e3⟩:=hM.bx i cs aw;generalize hv:a.eval x=v at hx;cases hx with
  |box _ _ _ b' cr=>
   obtain rfl:b'=b:=by rw[e1]at cr;exact(iA cr).symm
   obtain⟨h1,h2⟩:=vP e2 e3 off;obtain⟨v,d,aV,hr,hk⟩:=Ax (P:=P) (t:=t) (ad:=⟨b',off,none⟩) h1 h2 hk;exact⟨v,d,by simp[execOp,ho,hv,Instr.loadAt,Ct,aV],hr,hk⟩
 case ro cs=>
  obtain⟨ad,u,hv,hm,hr⟩:=hx.C6;obtain⟨v,d,aV,hr,hk⟩:=Ax (P:=P) (w:=w) (g:=g) (t:=t) (ad:=ad) (cs:=cs) (u:=u) (λq hq=>⟨(hm q hq).1,(hm q hq).2.2⟩) (λq d hd=>(hr q d hd).aZ (ud _ _)) hk;exact⟨v,d,by simp[execOp,ho,hv,Instr.loadAt,Ct,aV],hr,hk⟩
theorem I0 (a:Addr)(i j:Nat):(a.add i).add j=a.add (i + j):=by
 unfold Addr.add;by_cases hi:i=0<;>by_cases hj:j=0<;>simp[hi,hj,Nat.add_assoc]
theorem Pq {v:Value}{d:D}{q:Nat}(h:Rel w g v d)(hk:sG d q k):∃ad d',v= .pointer (some ad)/\Rel w g (.pointer (some (ad.add q))) d'/\k d':=by
 cases d<;>simp only[sG]at hk
 case box i off=>
  cases h with
  |box _ _ _ b hb=>exact⟨⟨b,off,none⟩,_,rfl,by rw[nt];exact .box _ i (off + q) b hb,hk⟩
 case ro cs=>
  obtain⟨ad,u,hv,hm,hr⟩:=h.C6;refine⟨ad,_,hv, .ro _ _ _ (λj=>u (q + j)) (λj hj=> ?_) (λj d hd=> ?_),hk⟩
  ·simp only[zU]at hj;rw[I0];exact hm (q + j) ae
  ·rw[tB]at hd;exact hr _ d hd
theorem X' {s:TypeId}{x:Operand}{f:Nat}{dx:D}(ho:o.op= .fieldAddr s x f)(hx:Rel w g (a.eval x) dx)(hk:a_ (bc P s f) λot=>sG dx ot.1 k):Yields P o a w g k:=by
 obtain⟨⟨off,tf⟩,hf,hk⟩:=cM hk;obtain⟨ad,d',hv,hr,lp⟩:=Pq hx hk;unfold bc at hf;split at hf
 ·rename_i fs hu;split at hf
  ·rename_i fd HR;split at hf
   ·cases hf
   ·rename_i hz;simp only[gE,Prod.mk.injEq]at hf;obtain⟨rfl,rfl⟩:=hf;have AW:aC P fd.type≠0:=hz;exact⟨.pointer (some (ad.add fd.offset)),d',by simp[execOp,ho,hv,Instr.fieldAt,run_underlying hu,HR,Ct,fieldPlace,run_sizeOf AW,AW],hr,lp⟩
  ·cases hf
 ·cases hf
theorem CB {v:Value}{d:D}{bx:List Bx}{aD:List Row}{kl:List D->Prop}(hM:Mem w g bx aD)(h:Rel w g v d)(hk:oY aD d kl):∃xs,Rel w g v (.list xs)/\kl xs:=by
 cases d<;>simp only[oY]at hk
 case list xs=>exact⟨xs,h,hk⟩
 case own r=>
  split at hk
  ·rename_i row gO;obtain⟨v',e1,e2⟩:=hM.rw r row gO;cases h with
   |own _ _ _ h'=>rw[e1]at h';cases h';exact⟨_,e2,hk⟩
  ·exact hk.elim
theorem qq (sz:Nat):∀(xs:List D),(∀x∈xs,x.cells.length=sz)->(flat xs).length=xs.length * sz
 |[],_=>by simp[flat]
 |x::xs,h=>by
  have:=qq sz xs (λy hy=>h y (dW _ hy));simp only[flat,XD,eQ,lV]at this⊢;rw[this,h x (dI ..),ru,Nat.one_mul,zR]
theorem Im (sz:Nat):∀(xs:List D) (i:Nat) (x:D),(∀x∈xs,x.cells.length=sz)->xs[i]? =some x->∀j,j < sz->(flat xs)[i * sz + j]? =x.cells[j]?
 |[],i,x,_,h=>by simp at h
 |y::xs,0,x,hs,h=>by
  intro j hj;simp only[List.getElem?_cons_zero,gE]at h;subst h;simp only[flat,XD,Nat.zero_mul,fK];rw[bQ (by rw[hs y (dI ..)];exact hj)]
 |y::xs,i + 1,x,hs,h=>by
  intro j hj;have ih:=Im sz xs i x (λz hz=>hs z (dW _ hz)) (by simpa using h) j hj;simp only[flat,XD]at ih⊢;have e:=hs y (dI ..);rw[dX (by rw[e,ru];omega),e];rw[show(i + 1) * sz + j - sz=i * sz + j by rw[ru];omega];exact ih
theorem Rel.sP {v:Value}{xs:List D}(h:Rel w g v (.list xs)):∃(A:Option Addr) (c sz:Nat) (u:Nat->Value),v= .slice A xs.length c/\(∀x∈xs,x.cells.length=sz)/\
  (∀q,q < (flat xs).length->∃ad,A=some ad/\w.cell? (ad.add q)=some (u q)/\g.S (ad.add q)/\(u q).oneCell'=true)/\
  ∀q d,(flat xs)[q]? =some d->Rel w g.er (u q) d:=by
 cases h with
 |list _ A n c _ sz u hn aR eO hm hr=>subst hn;exact⟨A,c,sz,u,rfl,aR,hm,hr⟩
theorem Rel.elem {A:Option Addr}{c:Nat}{xs:List D}{i:Nat}{x:D}(h:Rel w g (.slice A xs.length c) (.list xs))(hi:xs[i]? =some x)(hz:x.cells.length≠0):
  ∃ad,A=some ad/\Rel w g (.pointer (some (ad.add (i * x.cells.length)))) (.ro x.cells):=by
 obtain⟨A',c',sz,u,e,aR,hm,hr⟩:=h.sP;simp only[Value.slice.injEq]at e;obtain⟨rfl,_,rfl⟩:=e;have hx:x.cells.length=sz:=aR x (ey hi);have eg:=(aQ.1 hi).1;have fv:=qq sz xs aR;have hb:∀j,j < sz->i * sz + j < (flat xs).length:=λj hj=>by
  rw[fv]
  calc i * sz + j < i * sz + sz:=ae
   _=(i + 1) * sz:=by rw[ru];omega
   _<=xs.length * sz:=Nat.mul_le_mul_right _ eg
 obtain⟨ad,rfl,_⟩:=hm (i * sz + 0) (hb 0 ae);refine⟨ad,rfl, .ro _ _ _ (λj=>u (i * sz + j)) (λj hj=> ?_) (λj d hd=> ?_)⟩
 ·obtain⟨zJ,e,h1,h2,h3⟩:=hm (i * sz + j) (hb j ae);cases e;rw[hx,I0];exact⟨h1,h2,h3⟩
 ·have hj:j < sz:=by rw[<-hx];exact(aQ.1 hd).1
  exact hr _ d (by rw[Im sz xs i x aR hi j hj];exact hd)
theorem mD {t e:TypeId}(h:elemOf P t=some e):P.underlying t=some (.slice e):=by
 unfold elemOf at h;split at h<;>simp_all
theorem N7 {t:TypeId}{ne:Nat×TypeId}(h:rl P t=some ne):P.underlying t=some (.array ne.1 ne.2):=by
 unfold rl at h;split at h<;>simp_all;obtain⟨rfl,rfl⟩:=h;exact⟨rfl,rfl⟩
theorem X9 {t:TypeId}{x ix:Operand}{dx di:D}{bx:List Bx}{aD:List Row}(ho:o.op= .indexAddr t x ix)(hx:Rel w g (a.eval x) dx)(hi:Rel w g (a.eval ix) di)
  (hM:Mem w g bx aD)(hk:uU P aD t dx di k):Yields P o a w g k:=by
 unfold uU at hk;split at hk
 ·rename_i e he;split at hk
  ·rename_i i off m cp;obtain⟨q,n,hn,rfl,hz,h0,aG,hk⟩:=oZ hi hk;generalize hv:a.eval x=vx at hx;cases hx with
   |aN _ _ _ _ _ b hb=>
   refine⟨_,_, ?_, .box _ _ _ b hb,hk⟩;simp[execOp,ho,hv,hn,XH,asIntOf,run_underlying (mD he),h0,aG,run_sizeOf hz,Addr.add]
  obtain⟨xs,fV,hk⟩:=CB hM hx hk;obtain⟨q,n,hn,rfl,h0,d,hd,hz,hl,hk⟩:=oZ hi hk;obtain⟨A,c,_,_,hv,_⟩:=fV.sP;rw[hv]at fV;obtain⟨ad,rfl,Bh⟩:=fV.elem hd (by rw[hl];exact hz);have aG:n.toNat < xs.length:=(aQ.1 hd).1;refine⟨_,_, ?_,Bh,hk⟩;simp[execOp,ho,hv,hn,XH,asIntOf,run_underlying (mD he),h0,show n < (xs.length:Int) by omega,run_sizeOf hz,hl]
 ·obtain⟨ne,bz,hk⟩:=cM hk;obtain⟨q,n,hn,rfl,hz,h0,aG,hk⟩:=oZ hi hk;obtain⟨ad,d',hv,hr,lp⟩:=Pq hx hk;refine⟨_,_, ?_,hr,lp⟩;simp[execOp,ho,hv,hn,XH,asIntOf,run_underlying (N7 bz),Ct,h0,aG,run_sizeOf hz]
theorem X7 {x:Operand}{t:TypeId}{dx:D}{bx:List Bx}{aD:List Row}(ho:o.op= .call {callee:= .builtin .len,args:=#[x],argTypes:=#[t]})(hx:Rel w g (a.eval x) dx)
  (hM:Mem w g bx aD)(hk:uT P t aD dx k):Yields P o a w g k:=by
 unfold uT at hk;split at hk
 ·rename_i e he;have hu:=mD he;split at hk
  ·rename_i xs;obtain⟨A,c,_,_,hv,_⟩:=hx.sP;exact⟨.int .i64 xs.length,_,by simp[execOp,ho,hv,resolve,invoke,builtin,JH,run_underlying hu,goInt], .int _ _ _,hk⟩
  ·rename_i r;obtain⟨row,gO,hk⟩:=cM hk;obtain⟨v',e1,e2⟩:=hM.rw r row gO;generalize hv:a.eval x=v at hx;cases hx with
   |own _ _ _ h'=>
    rw[e1]at h';cases h'
    obtain⟨A,c,_,_,rfl,_⟩:=e2.sP;exact⟨.int .i64 row.xs.length,_,by simp[execOp,ho,hv,resolve,invoke,builtin,JH,run_underlying hu,goInt], .int _ _ _,hk⟩
  ·generalize hv:a.eval x=v at hx;cases hx;exact⟨.int .i64 0,_,by simp[execOp,ho,hv,resolve,invoke,builtin,JH,run_underlying hu,goInt], .int _ _ _,hk⟩
  ·generalize hv:a.eval x=v at hx;cases hx;rename_i n' _ _ _;exact⟨.int .i64 n',_,by simp[execOp,ho,hv,resolve,invoke,builtin,JH,run_underlying hu,goInt], .int _ _ _,hk⟩
  ·exact hk.elim
 ·obtain⟨hs,hk⟩:=hk;have hu:P.underlying t=some .string:=by unfold kN at hs;split at hs<;>simp_all
  split at hk
  ·rename_i s;generalize hv:a.eval x=v at hx;cases hx;exact⟨.int .i64 s.size,_,by simp[execOp,ho,hv,resolve,invoke,builtin,JH,run_underlying hu,goInt], .int _ _ _,hk⟩
  ·exact hk.elim
theorem X2 {x y:Operand}{at_:Array TypeId}{dx dy:D}(ho:o.op= .call {callee:= .builtin .max,args:=#[x,y],argTypes:=at_})(hx:Rel w g (a.eval x) dx)(hy:Rel w g (a.eval y) dy)
  (hk:jh dx dy λq n m=>k (.int q (max n m))):Yields P o a w g k:=by
 obtain⟨q,n,m,h1,h2,hk⟩:=pQ hx hy hk;refine⟨.int q (max n m),_, ?_, .int _ _ _,hk⟩;have:(if m > n then m else n)=max n m:=by split<;>omega
 simp[execOp,ho,h1,h2,resolve,invoke,builtin,Builtin.max_,Builtin.max2,this]
theorem X1 {x y:Operand}{at_:Array TypeId}{dx dy:D}(ho:o.op= .call {callee:= .builtin .min,args:=#[x,y],argTypes:=at_})(hx:Rel w g (a.eval x) dx)(hy:Rel w g (a.eval y) dy)
  (hk:jh dx dy λq n m=>k (.int q (min n m))):Yields P o a w g k:=by
 obtain⟨q,n,m,h1,h2,hk⟩:=pQ hx hy hk;refine⟨.int q (min n m),_, ?_, .int _ _ _,hk⟩;have:(if m < n then m else n)=min n m:=by split<;>omega
 simp[execOp,ho,h1,h2,resolve,invoke,builtin,Builtin.min_,Builtin.min2,this]
theorem X4 {f:FuncId}{cap:Array Operand}{ρ:Operand->D}(ho:o.op= .makeFunc (.func f) #[] cap)(hρ:∀x,Rel w g (a.eval x) (ρ x))(hk:k (.ag f (cap.toList.map ρ))):Yields P o a w g k:=by
 refine⟨.func (.func f) #[] (cap.map a.eval),_,by simp[execOp,ho,Instr.makeFunc], .ag _ _ _ _ aO (λq d hd=> ?_),hk⟩;simp only[cO,FY,cv]at hd;obtain⟨x,hx,rfl⟩:=hd;have:(cap.map a.eval).getD q bp=a.eval x:=by
  have hl:=(bt.1 hx).1;have he:=(bt.1 hx).2;simp[hl,he]
 rw[this];exact hρ x
theorem X3 {f:FuncId}{fs:List Operand}{ρ:Operand->D}(ho:o.op= .makeFunc (.func f) ⟨fs⟩ ⟨[]⟩)(hρ:∀x,Rel w g (a.eval x) (ρ x))(hk:k (.cL f (fs.map ρ))):Yields P o a w g k:=by
 refine⟨.func (.func f) ⟨fs.map a.eval⟩ #[],_,by simp[execOp,ho,Instr.makeFunc], .cL _ _ _ _ aO (λq d hd=> ?_),hk⟩;simp only[cO,cv]at hd;obtain⟨x,hx,rfl⟩:=hd;have:(⟨fs.map a.eval⟩:Array Value).getD q bp=a.eval x:=by
  have hl:=(aQ.1 hx).1;have he:=(aQ.1 hx).2;simp[hl,he]
 rw[this];exact hρ x
theorem yu {ρ:Operand->D}(hρ:∀x,Rel w g (a.eval x) (ρ x)){x:Option Operand}{ES y:Nat}{code:BoundsCode}{kn:Nat->Prop}(hk:mK (x.map ρ) ES y kn):
  ∃n,(match x.map a.eval with|some v=>OR v y code|none=>pure ES:Sem Nat).run P w= .ok n w/\kn n:=by
 cases x with
 |none=>exact⟨ES,rfl,hk⟩
 |some x=>
  obtain⟨q,m,hv,hd,h0,hm,hk⟩:=oZ (hρ x) hk;exact⟨m.toNat,by simp[OR,asIntOf,hv,h0,hm],hk⟩
theorem Vj (n:Nat):∀(l:Nat) (xs:List D),(∀x∈xs,x.cells.length=n)->flat (xs.drop l)=(flat xs).drop (l * n)
 |0,xs,_=>by simp
 |l + 1,[],_=>by simp[flat]
 |l + 1,x::xs,h=>by
  have ih:=Vj n l xs (λy hy=>h y (dW _ hy));show flat (xs.drop l)=(x.cells++flat xs).drop ((l + 1) * n);have hx:=h x (dI ..);rw[ih,ru,Nat.one_mul,zR,<-List.drop_drop,<-hx,List.drop_left,hx]
theorem Vi (n:Nat)(xs:List D)(h:∀x∈xs,x.cells.length=n)(l m q:Nat)(hq:q < (flat ((xs.drop l).take m)).length):
  l * n + q < (flat xs).length/\(flat ((xs.drop l).take m))[q]? =(flat xs)[l * n + q]? :=by
 have e:flat (xs.drop l)=flat ((xs.drop l).take m)++flat ((xs.drop l).drop m):=by
  unfold flat;rw[<-List.flatMap_append,List.take_append_drop]
 have e2:(flat ((xs.drop l).take m))[q]? =(flat (xs.drop l))[q]? :=by rw[e,bQ hq]
 rw[Vj n l xs h,tB]at e2;refine⟨?_,e2⟩;have:(flat xs)[l * n + q]? ≠none:=by rw[<-e2];rw[bS hq];simp
 exact Nat.lt_of_not_le λhle=>this (List.getElem?_eq_none hle)
theorem XZ {t:TypeId}{x:Operand}{lo hi:Option Operand}{ρ:Operand->D}(ho:o.op= .slice t x lo hi none)(hρ:∀x,Rel w g (a.eval x) (ρ x))(hk:uR P t (ρ x) (lo.map ρ) (hi.map ρ) k):Yields P o a w g k:=by
 have hx:=hρ x;unfold uR at hk;split at hk
 ·rename_i i off hd;obtain⟨⟨n,e⟩,bz,hk⟩:=cM hk;obtain⟨h,r1,hk⟩:=yu (P:=P) (code:= .sliceAlen) hρ hk;obtain⟨l,r2,hz,hk⟩:=yu (P:=P) (code:= .sliceB) hρ hk;rw[hd]at hx;generalize hv:a.eval x=vx at hx;cases hx with
  |box _ _ _ b hb=>
  refine⟨_,_, ?_, .aN _ i (if n=l then off else off + l * aC P e) (h - l) (n - l) b hb,hk⟩;have e1:(Aa false n n (lo.map a.eval) (hi.map a.eval) none).run P w= .ok (l,h,n) w:=by
   cases hi<;>cases lo<;>simp[Aa]at r1 r2⊢<;>simp_all
  simp[execOp,ho,OS,run_underlying (N7 bz),hv,Ct,e1,run_sizeOf hz,nt];split<;>rfl
 ·rename_i i off n c hd;obtain⟨e,he,hk⟩:=cM hk;obtain⟨h,r1,hk⟩:=yu (P:=P) (code:= .sliceAcap) hρ hk;obtain⟨l,r2,hz,hk⟩:=yu (P:=P) (code:= .sliceB) hρ hk;rw[hd]at hx;generalize hv:a.eval x=vx at hx;cases hx with
  |aN _ _ _ _ _ b hb=>
  refine⟨_,_, ?_, .aN _ i (if c=l then off else off + l * aC P e) (h - l) (c - l) b hb,hk⟩;have e1:(Aa true n c (lo.map a.eval) (hi.map a.eval) none).run P w= .ok (l,h,c) w:=by
   cases hi<;>cases lo<;>simp[Aa]at r1 r2⊢<;>simp_all
  simp[execOp,ho,OS,XG,run_underlying (mD he),hv,e1,run_sizeOf hz,nt];split<;>rfl
 ·rename_i sb hd;obtain⟨aM,hk⟩:=hk;have hu:P.underlying t=some .string:=by unfold kN at aM;split at aM<;>simp_all
  obtain⟨h,r1,hk⟩:=yu (P:=P) (code:= .sliceAlen) hρ hk;obtain⟨l,r2,hk⟩:=yu (P:=P) (code:= .sliceB) hρ hk;rw[hd]at hx;generalize hv:a.eval x=vx at hx;cases hx;refine⟨_,_, ?_, .str _ _,hk⟩;have e1:(Aa false sb.size sb.size (lo.map a.eval) (hi.map a.eval) none).run P w= .ok (l,h,sb.size) w:=by
   cases hi<;>cases lo<;>simp[Aa]at r1 r2⊢<;>simp_all
  simp[execOp,ho,OS,XG,run_underlying hu,hv,e1]
 ·rename_i xs hd;obtain⟨e,he,hk⟩:=cM hk;rw[hd]at hx;generalize hv:a.eval x=vx at hx;cases hx with
  |list _ A n c _ sz u hn aR hc hm hr=>
  have hb:∃h,(match hi.map a.eval with|some v=>OR v c .sliceAcap|none=>pure n:Sem Nat).run P w= .ok h w/\h<=n/\
    mK (lo.map ρ) 0 h λl=>aC P e≠0/\(∀d∈xs,d.cells.length=aC P e)/\k (.list ((xs.drop l).take (h - l))):=by
   cases hi with
   |none=>exact⟨n,rfl,aY _,by rw[hn];exact hk⟩
   |some y=>
    obtain⟨q,m,n4,dN,h0,nc,hk⟩:=oZ (hρ y) hk;refine⟨m.toNat, ?_,ae,hk⟩;have TZ:m<=(c:Int):=ae;simp[OR,asIntOf,n4,h0,TZ]
  obtain⟨h,r1,hhn,hk⟩:=hb;obtain⟨l,r2,hz,dw,hk⟩:=yu (P:=P) (code:= .sliceB) hρ hk;have e1:(Aa true n c (lo.map a.eval) (hi.map a.eval) none).run P w= .ok (l,h,c) w:=by
   cases hi<;>cases lo<;>simp[Aa]at r1 r2⊢<;>simp_all
  refine⟨.slice (if c=l then A else A.map (·.add (l * aC P e))) (h - l) (c - l),_, ?_, .list _ _ _ _ _ (aC P e) (λq=>u (l * aC P e + q)) ?_ ?_ ae ?_ ?_,hk⟩
  ·simp[execOp,ho,OS,XG,run_underlying (mD he),hv,e1,run_sizeOf hz]
  ·simp;omega
  ·intro y hy;exact dw y (Fy (x9 hy))
  ·intro q hq;have DP:=Vi (aC P e) xs dw l (h - l) q hq;have dP:l * aC P e + q < (flat xs).length:=DP.1;obtain⟨ad,rfl,h2,h3,h4⟩:=hm _ dP;have bf:c≠l:=λe=>by
    have:(xs.drop l).take (h - l)=[]:=by
     apply Cp;simp;omega
    rw[this]at hq;simp[flat]at hq
   refine⟨ad.add (l * aC P e),by rw[if_neg bf];rfl, ?_, ?_,h4⟩
   ·rw[I0];exact h2
   ·rw[I0];exact h3
  ·intro q d hq;have DP:=Vi (aC P e) xs dw l (h - l) q (aQ.1 hq).1;rw[DP.2]at hq;exact hr _ d hq
 ·exact hk.elim
theorem Pr {t:TypeId}{vs:List Value}{cs:List D}{off:Nat}(hl:vs.length=cs.length)(hr:∀q d,cs[q]? =some d->Rel w g (vs.getD q bp) d/\(vs.getD q bp).oneCell'=true)
  (hk:Ag P t cs off k):∃v d,(part t vs.toArray off).run P w= .ok v w/\Rel w g v d/\k d:=by
 unfold Ag at hk;obtain⟨b,hb,hk⟩:=cM hk;have Eu:=WW hb w;cases b with
 |true=>
  obtain⟨hz,hle,hk⟩:=hk;refine⟨.agg ((vs.drop off).take (aC P t)).toArray,_, ?_, ?_,hk⟩
  ·simp[part,Eu,run_sizeOf hz,List.extract_eq_take_drop]
  ·refine .agg _ _ _ (by simp;omega) (λq hq=> ?_) (λq d hd=> ?_)
   ·simp only[mH,zU]at hq;have h1:q < aC P t:=ae;have h2:off + q < cs.length:=ae;have:=(hr (off + q) _ (bS h2)).2;simpa[iM,h1]using this
   ·have hq:=(aQ.1 hd).1;simp only[mH,zU]at hq;have h1:q < aC P t:=ae;rw[iM,if_pos h1,tB]at hd;have:=(hr (off + q) d hd).1;simpa[iM,h1]using this
 |false=>
  obtain⟨d,hd,hk⟩:=cM hk;have aG:off < vs.length:=by rw[hl];exact(aQ.1 hd).1
  refine⟨vs.getD off bp,d, ?_,(hr off d hd).1,hk⟩;simp[part,Eu,aG]
theorem Ya {s:TypeId}{x:Operand}{f:Nat}{dx:D}(ho:o.op= .field s x f)(hx:Rel w g (a.eval x) dx)(hk:wx P s dx f k):Yields P o a w g k:=by
 unfold wx at hk;obtain⟨⟨off,tf⟩,hf,hk⟩:=cM hk;cases dx<;>simp only[wz]at hk
 obtain⟨vs,hv,hl,hr⟩:=hx.uF;obtain⟨v,d,aV,bw,lp⟩:=Pr hl hr hk;unfold bc at hf;split at hf
 ·rename_i fs hu;split at hf
  ·rename_i fd HR;split at hf
   ·cases hf
   ·simp only[gE,Prod.mk.injEq]at hf;obtain⟨rfl,rfl⟩:=hf;exact⟨v,d,by simp[execOp,ho,hv,Instr.field,run_underlying hu,HR,asAgg,aV],bw,lp⟩
  ·cases hf
 ·cases hf
theorem X_ {t:TypeId}{x ix:Operand}{dx di:D}(ho:o.op= .index t x ix)(hx:Rel w g (a.eval x) dx)(hi:Rel w g (a.eval ix) di)(hk:Ai P t dx di k):Yields P o a w g k:=by
 unfold Ai at hk;obtain⟨ne,bz,hk⟩:=cM hk;cases dx<;>simp only[wz]at hk
 obtain⟨vs,hv,hl,hr⟩:=hx.uF;obtain⟨q,n,hn,rfl,hz,h0,aG,hk⟩:=oZ hi hk;obtain⟨v,d,aV,bw,hk⟩:=Pr hl hr hk;exact⟨v,d,by simp[execOp,ho,hv,hn,Instr.index,asIntOf,run_underlying (N7 bz),h0,aG,run_sizeOf hz,aV],bw,hk⟩
theorem X8 {t:TypeId}{x ix:Operand}{s:ByteArray}{n:Int}{q:IntKind}(ho:o.op= .index t x ix)(hx:Rel w g (a.eval x) (.str s))(hi:Rel w g (a.eval ix) (.int q n))(ht:kN P t=true)
  (h0:0<=n)(hl:n.toNat < s.size)(hk:k (.int .u8 (s[n.toNat]'hl).toNat)):Yields P o a w g k:=by
 generalize hv:a.eval x=v at hx;generalize hn:a.eval ix=vi at hi;cases hx;cases hi
 have hu:P.underlying t=some .string:=by unfold kN at ht;split at ht<;>simp_all
 have e:s[n.toNat]? =some s[n.toNat]:=getElem?_pos s n.toNat hl;exact⟨.int .u8 (s[n.toNat]'hl).toNat,_,by simp[execOp,ho,hv,hn,Instr.index,asIntOf,run_underlying hu,h0,e], .int _ _ _,hk⟩
end
end Go.Ab
end
section
namespace Go.Ab
open Go.RowKit
def D.one:D->Bool
 | .undef=>false
 | .skp=>false
 | .agg _=>false
 | .aF _=>false
 | .val v=>v.oneCell'
 |_=>true
section
variable {c:Ctx} {s:St} {a:Act} {w:World} {g:Gh}
theorem sE.cells {w w':World}{M:MM}(hb:sE M w.heap.size w w')(hM:jf w M){b:Nat}{cs:Array Value}{t:TypeId}{fz:Nat×Nat}(h:w.heap[b]? =some (.cells cs t fz)):
  w'.heap[b]? =some (.cells cs t fz):=(hb.at b (bt.1 h).1 (hM.ve h)).trans h
theorem sE.cell {w w':World}{M:MM}(hb:sE M w.heap.size w w')(hM:jf w M){x:Addr}{u:Value}(h:w.cell? x=some u):w'.cell? x=w.cell? x:=by
 obtain⟨cs,t,fz,hx⟩:=tn h;exact pJ ((hb.cells hM hx).trans hx.symm)
theorem sE.row {w w':World}{M:MM}(hb:sE M w.heap.size w w')(hM:jf w M){base:Nat}{e:TypeId}{sz:Nat}{v:Value}{n:Nat}{xs:List Value}(h:w.ownsRow base e sz v n xs):w'.ownsRow base e sz v n xs:=by
 refine⟨h.1, ?_⟩;rcases h.2 with hn|⟨g,cap,cur,rfl,hg,fH,rest⟩
 ·exact .inl hn
 ·exact .inr ⟨g,cap,cur,rfl,hg,hb.cells hM fH,rest⟩
theorem Grow.ba {w w':World}{S S':Addr->Prop}{M M':MM}(h:Grow w S M w' S' M')(hM:jf w M)(hS:Good w S):∀x,S x->w'.cell? x=w.cell? x:=λx hx=>by
 obtain⟨u,hu⟩:=hS x hx;exact h.below.cell hM hu
theorem RG.keeps {w':World}{S':Addr->Prop}{M':MM}(h:RG c s a w g)(hb:sE g.M w.heap.size w w')(h1:∀x,g.S x->S' x)(hm:∀b f,g.M b=some f->M' b=some f):fL w g w' ⟨S',g.β,g.ρ,M'⟩:=
 ⟨λx hx=>by obtain⟨u,hu⟩:=h.ba x hx;exact hb.cell h.df.bO hu,h1,λ_ _ h=>h,λ_ _ h=>h,hm⟩
theorem RG.grow {w':World}{S':Addr->Prop}{M':MM}(h:RG c s a w g)(hg:Grow w g.S g.M w' S' M')(h3:Good w' S'):RG c s a w' ⟨S',g.β,g.ρ,M'⟩:=by
 have hb:=hg.below;have h1:=hg.s1;have h2:=hg.s2;have k:=h.keeps hb h1 hg.m1;have hM:=h.df.bO;have aR:c.w0.heap.size<=w.heap.size:=h.below.size;refine⟨⟨?_,hg.bO,λb f hf=>hg.m1 b f (h.df.m0 b f hf),λb f hf=> ?_,h.df.gD,λx hx=>(hg.ba hM h.ba x (h.S0 x hx)).trans (h.df.jA x hx),h.df.fD⟩,h.sz,h.below.trans hb aR (λi hi hn=>by
  cases hm:g.M i with
  |none=>exact(hn hm).elim
  |some f=>
        rcases h.df.gw i f hm with h1|h1
        ·exact .inr (by rw[h1];simp)
        ·omega),h.cu,h3,λx hx=> ?_,λx hx=>h1 x (h.S0 x hx),h.fJ,h.lβ,h.lρ,λn=>(h.sl n).aZ k, ?_, ?_, ?_,h.ap,λi es hi=> ?_⟩
 rotate_right
 ·obtain⟨b,hm⟩:=h.mp i es hi;refine⟨b, ?_⟩;refine hm.aZ k (hb.at b hm.lt hm.nm) ?_;cases xf:M' b with
  |none=>exact xf
  |some f=>
   rcases hg.m2 b f xf with h5|h5
   ·rw[hm.nm]at h5;cases h5
   ·exact absurd hm.lt (Nat.not_lt_of_le h5)
 ·refine⟨h.df.cN.1,λd hd=> ?_⟩;obtain⟨D,hB,e,hD⟩:=h.df.cN.2 d hd;exact⟨D,hB,e,(hb.at D (bt.1 hD).1 (hM.wO hD)).trans hD⟩
 ·rcases hg.m2 b f hf with hf|hf
  ·exact h.df.gw b f hf
  ·exact .inr (fu aR hf)
 ·rcases h2 x hx with hx|hx
  ·exact h.en x hx
  ·exact .inr (h.cu _ (fu aR hx))
 ·intro i cs hi;obtain⟨b,vs,t,e1,e2,e3,e4,e5,e6⟩:=(h.bx i cs hi).ex;have aG:b < w.heap.size:=(bt.1 e2).1;refine⟨b,vs,t,e1,hb.cells hM e2,e3.aZ k,e4,λ_ x hx=> ?_,λh=>by cases h⟩;rcases h2 x hx with hx|hx
  ·exact e5 rfl x hx
  ·omega
 ·intro i cs hi;obtain⟨b,vs,t,e1,e2,e3,e4,e5,e6⟩:=(h.fz i cs hi).ex;exact⟨b,vs,t,e1,hb.cells hM e2,e3.aZ k.er,e4,(λh=>by cases h),λ_ q hq=>h1 _ (e6 rfl q hq)⟩
 ·intro r row hr;obtain⟨v,e1,e2,e3⟩:=(h.rw r row hr).ex;refine⟨v,e1,e2.aZ k,λhl=> ?_⟩;obtain⟨⟨vals,bI⟩,bf,hS⟩:=e3 hl;refine⟨⟨vals,sE.row hb hM bI⟩,bf,λgb aI=>⟨(hS gb aI).1,λx hx iQ=> ?_⟩⟩;rcases h2 x hx with hx|hx
  ·exact(hS gb aI).2 x hx iQ
  ·have:=(bI.lt gb aI).2;omega
theorem RG.same {a':Act}{w':World}(h:RG c s a w g)(hc:∀(b:Nat) (cs:Array Value) (t:TypeId) (fz:Nat×Nat),w.heap[b]? =some (.cells cs t fz)->w'.heap[b]? =some (.cells cs t fz))
  (hm:∀(b:Nat) (es:Array MapEntry) (cl:Nat),w.heap[b]? =some (.map es cl)->w'.heap[b]? =some (.map es cl))(hb:oV c.may c.w0.heap.size c.w0 w')(ht:a'.tmps=a.tmps)(hd:Cv c.own w' a'.defers):
  RG c s a' w' g:=by
 have eX:∀x,g.S x->w'.cell? x=w.cell? x:=λx hx=>by
  obtain⟨u,hu⟩:=h.ba x hx;obtain⟨cs,t,fz,hx⟩:=tn hu;exact pJ ((hc _ _ _ _ hx).trans hx.symm)
 have k:fL w g w' g:=⟨eX,λ_ h=>h,λ_ _ h=>h,λ_ _ h=>h,λ_ _ h=>h⟩;refine⟨⟨hd,λb f hf=> ?_,h.df.m0,h.df.gw,h.df.gD,λx hx=>(eX x (h.S0 x hx)).trans (h.df.jA x hx),h.df.fD⟩,by rw[ht];exact h.sz,hb,h.cu,λx hx=> ?_,h.en,h.S0,h.fJ,h.lβ,h.lρ,λn=>by rw[ht];exact(h.sl n).aZ k, ?_, ?_, ?_,h.ap,λi es hi=>by
  obtain⟨b,h_⟩:=h.mp i es hi;refine⟨b, ?_⟩;obtain⟨ms,cl,h1,_⟩:=h_.ex;exact h_.aZ k ((hm _ _ _ h1).trans h1.symm) h_.nm⟩
 ·obtain⟨es,cl,h1,h2⟩:=h.df.bO b f hf;exact⟨es,cl,hm _ _ _ h1,h2⟩
 ·obtain⟨u,hu⟩:=h.ba x hx;exact⟨u,(eX x hx).trans hu⟩
 ·intro i cs hi;obtain⟨b,vs,t,e1,e2,e3,e4,e5,e6⟩:=(h.bx i cs hi).ex;exact⟨b,vs,t,e1,hc _ _ _ _ e2,e3.aZ k,e4,e5,e6⟩
 ·intro i cs hi;obtain⟨b,vs,t,e1,e2,e3,e4,e5,e6⟩:=(h.fz i cs hi).ex;exact⟨b,vs,t,e1,hc _ _ _ _ e2,e3.aZ k.er,e4,e5,e6⟩
 ·intro r row hr;obtain⟨v,e1,e2,e3⟩:=(h.rw r row hr).ex;refine⟨v,e1,e2.aZ k,λhl=> ?_⟩;obtain⟨⟨vals,bI⟩,bf,hS⟩:=e3 hl;refine⟨⟨vals,bI.1, ?_⟩,bf,hS⟩;rcases bI.2 with hn|⟨g,cap,cur,rfl,hg,fH,rest⟩
  ·exact .inl hn
  ·exact .inr ⟨g,cap,cur,rfl,hg,hc _ _ _ _ fH,rest⟩
theorem RG.rD {a':Act}{D:Nat}{o o':Obj}(h:RG c s a w g)(hD:w.heap[D]? =some o)(ho:o.isCells=false)(hm:∀es cl,o≠ .map es cl)(hB:c.own D)(ht:a'.tmps=a.tmps)
  (hd:Cv c.own (w.putObj D o') a'.defers):RG c s a' (w.putObj D o') g:=by
 refine h.same (λb cs t fz hb=> ?_) (λb es cl hb=> ?_) ?_ ht hd
 ·rw[j7 (λe=>by subst e;rw[hb]at hD;cases hD;cases ho)];exact hb
 ·rw[j7 (λe=>by subst e;rw[hb]at hD;cases hD;exact hm _ _ rfl)];exact hb
 ·have hg:=grownBy_putObj' w D o';exact⟨hg.os.trans h.below.os,hg.tape.trans h.below.tape,hg.output.trans h.below.output,fu h.below.size hg.size,λk hk hn=>(hg.block k (uJ hk h.below.size) (λe=>hn (.inl (by cases e;exact hB)))).trans (h.below.block k hk hn)⟩
theorem RG.world {w':World}{S':Addr->Prop}(h:RG c s a w g)(hb:Below w.heap.size w w')(h1:∀x,g.S x->S' x)(h2:∀x,S' x->g.S x\/w.heap.size<=x.block)
  (h3:Good w' S'):RG c s a w' ⟨S',g.β,g.ρ,g.M⟩:=
 h.grow ⟨.of hb,h1,h2,λ_ _ h=>h,λ_ _ h=> .inl h,λb f hf=>by
  obtain⟨es,cl,h1,h2⟩:=h.df.bO b f hf;exact⟨es,cl,(hb.block b (bt.1 h1).1).trans h1,h2⟩⟩ h3
theorem Good.below {w w':World}{S:Addr->Prop}(h:Good w S)(hb:Below w.heap.size w w'):Good w' S:=λx hx=>by
 obtain⟨u,hu⟩:=h x hx;exact⟨u,(hb.cell (h.lt hx)).trans hu⟩
theorem RG.rk (h:RG c s a w g){i:Nat}{x:Bx}{b:Nat}(hi:s.bx[i]? =some x)(hl:x.live=true)(hb:g.β[i]? =some b):b < w.heap.size/\c.own b:=by
 cases x with
 |dead=>cases hl
 |mu cs=>
  obtain⟨b',vs,t,e1,e2,_,e4,_⟩:=(h.bx i cs hi).ex;rw[e1]at hb;cases hb
  exact⟨(bt.1 e2).1,e4⟩
 |fz cs=>
  obtain⟨b',vs,t,e1,e2,_,e4,_⟩:=(h.fz i cs hi).ex;rw[e1]at hb;cases hb
  exact⟨(bt.1 e2).1,e4⟩
 |mp es=>
  obtain⟨b',hm⟩:=h.mp i es hi;rw[hm.β]at hb;cases hb
  exact⟨hm.lt,hm.own⟩
theorem RG.pU (h:RG c s a w g){r:Nat}{row:Row}{v:Value}{gb:Nat}(hr:s.rw[r]? =some row)(hl:row.live=true)(hv:g.ρ[r]? =some v)(hb:v.ownBlock=some gb):gb < w.heap.size/\c.own gb:=by
 obtain⟨v',e1,e2,e3⟩:=(h.rw r row hr).ex;rw[e1]at hv;cases hv
 obtain⟨⟨vals,bI⟩,_,ho⟩:=e3 hl;have:=bI.lt gb hb;exact⟨this.2,(ho gb hb).1⟩
theorem zI (w:World)(o:Obj):Below w.heap.size w (w.alloc o):=(Below.refl _ _).alloc (aY _) o
theorem RG.WS {vs:Array Value}{t:TypeId}{cs:List D}(fl:Bool)(h:RG c s a w g)(hc:fZ w g vs cs):
  RG c {s with bx:=s.bx++[.mu cs]} a (w.alloc (.cells vs t (pD vs.size fl))) ⟨g.S,g.β++[w.heap.size],g.ρ,g.M⟩:=by
 have hb:=zI w (.cells vs t (pD vs.size fl));have hw:=h.world hb (λ_ h=>h) (λ_ h=> .inl h) (h.ba.below hb);have k:fL (w.alloc (.cells vs t (pD vs.size fl))) ⟨g.S,g.β,g.ρ,g.M⟩ (w.alloc (.cells vs t (pD vs.size fl))) ⟨g.S,g.β++[w.heap.size],g.ρ,g.M⟩:=
  ⟨λ_ _=>rfl,λ_ h=>h,λi b hi=>by rw[bQ (aQ.1 hi).1];exact hi,λ_ _ h=>h,λ_ _ h=>h⟩
 have hold:∀(i:Nat) (x:Bx),(s.bx++[Bx.mu cs])[i]? =some x->s.bx[i]? =some x/\i < s.bx.length\/x= .mu cs/\i=s.bx.length:=λi x hi=>by
  rcases ft i s.bx.length with aG|iS
  ·rw[bQ aG]at hi;exact .inl ⟨hi,aG⟩
  ·rw[dX iS]at hi;have:i - s.bx.length=0:=by have:=(aQ.1 hi).1;simp at this;omega
   rw[this]at hi;simp at hi;exact .inr ⟨hi.symm,ae⟩
 have hβ:∀i,i < s.bx.length->∀b,(g.β++[w.heap.size])[i]? =some b->g.β[i]? =some b:=λi hi b hb=>by
  rw[bQ (by rw[h.lβ];exact hi)]at hb;exact hb
 have wW:(g.β++[w.heap.size])[s.bx.length]? =some w.heap.size:=by rw[<-h.lβ];simp
 refine⟨hw.df.gh rfl (λi b _ hi=>by show(g.β++[w.heap.size])[i]? =some b;rw[bQ (aQ.1 hi).1];exact hi),hw.sz,hw.below,hw.cu,hw.ba,hw.en,hw.S0,hw.fJ,by simp[h.lβ],hw.lρ,λn=>(hw.sl n).aZ k, ?_, ?_, ?_, ?_,λi es hi=> ?_⟩
 rotate_right
 ·rcases hold i _ hi with⟨hi,hl⟩|⟨e,_⟩
  ·obtain⟨b,hm⟩:=hw.mp i es hi;refine⟨b, ?_⟩;exact hm.aZ k rfl hm.nm
  ·cases e
 ·intro i ds hi;rcases hold i _ hi with⟨hi,hl⟩|⟨e,rfl⟩
  ·obtain⟨b,ie,t',e1,e2,e3,e4,e5,e6⟩:=(hw.bx i ds hi).ex;exact⟨b,ie,t',k.β _ _ e1,e2,e3.aZ k,e4,e5,e6⟩
  ·cases e;refine⟨w.heap.size,vs,(t,fl),wW,heap_alloc_new w _,(hc.aZ (h.keeps (.of hb) (λ_ h=>h) (λ_ _ h=>h))).aZ k,h.cu _ h.below.size,λ_ x hx=> ?_,λh=>by cases h⟩;have:=h.ba.lt hx;omega
 ·intro i ds hi;rcases hold i _ hi with⟨hi,hl⟩|⟨e,rfl⟩
  ·obtain⟨b,ie,t',e1,e2,e3,e4,e5,e6⟩:=(hw.fz i ds hi).ex;exact⟨b,ie,t',k.β _ _ e1,e2,e3,e4,e5,e6⟩
  ·cases e
 ·intro r row hr;obtain⟨v,e1,e2,e3⟩:=(hw.rw r row hr).ex;exact⟨v,e1,e2.aZ k,e3⟩
 ·obtain⟨κ,k1,k2⟩:=h.ap;refine⟨λb=>if b=w.heap.size then .inl s.bx.length else κ b,λi x b hi hx hb=> ?_,λr row v gb hr hl hv aI=> ?_⟩
  ·rcases hold i _ hi with⟨hi,hl⟩|⟨rfl,rfl⟩
   ·have cr:=hβ i hl b hb;have:=(h.rk hi hx cr).1;simp only;rw[if_neg ae];exact k1 i x b hi hx cr
   ·rw[wW]at hb;cases hb
    simp
  ·have:=(h.pU hr hl hv aI).1;simp only;rw[if_neg ae];exact k2 r row v gb hr hl hv aI
theorem RG.alloc {vs:Array Value}{t:TypeId}{cs:List D}(h:RG c s a w g)(hc:fZ w g vs cs):
  RG c {s with bx:=s.bx++[.mu cs]} a (w.alloc (.cells vs t)) ⟨g.S,g.β++[w.heap.size],g.ρ,g.M⟩:=h.WS (t:=t) false hc
def bd (s:St)(dst:Option Tmp):Prop:=match dst with|some n=>n < s.n|none=>True
def St.put (s:St)(dst:Option Tmp)(d:D):St:=match dst with|some n=>{s with sl:=Ab.put s.sl n d}|none=>s
theorem RG.put {v:Value}{d:D}{dst:Option Tmp}(h:RG c s a w g)(hd:bd s dst)(hr:Rel w g v d):RG c (s.put dst d) (a.put dst v) w g:=by
 cases dst with
 |none=>exact h
 |some n=>
  have hn:n < a.tmps.size:=by rw[h.sz];exact hd
  refine⟨h.df.put (some n) v,by simp[Act.put,St.put,h.sz],h.below,h.cu,h.ba,h.en,h.S0,h.fJ,h.lβ,h.lρ,λm=> ?_,h.bx,h.fz,h.rw,h.ap,h.mp⟩;simp only[Act.put,St.put,Ab.put];by_cases hm:m=n
  ·subst hm;simp[hn,hr]
  ·rw[if_neg hm];have:=h.sl m;simpa[Array.getElem?_setIfInBounds,Ne.symm hm]using this
theorem RG.adK (h:RG c s a w g){r:Nat}{v:Value}(hv:g.ρ[r]? =some v):∃A n q,v= .slice A n q:=by
 have hl:r < s.rw.length:=by rw[<-h.lρ];exact(aQ.1 hv).1
 obtain⟨v',e1,e2,_⟩:=(h.rw r _ (bS hl)).ex;rw[e1]at hv;cases hv
 obtain⟨A,c,_,_,rfl,_⟩:=e2.sP;exact⟨_,_,_,rfl⟩
theorem Rel.adL {v:Value}{d:D}(hρ:∀(r:Nat) (v:Value),g.ρ[r]? =some v->v.oneCell'=true)(hr:Rel w g v d)(h1:d.one=true):v.oneCell'=true:=by
 cases hr<;>first|rfl|assumption|(simp[D.one]at h1;done)|(simpa[D.one]using h1)|skip
 rename_i r hv;exact hρ r _ hv
theorem Rel.EY {v:Value}{d:D}(hρ:∀(r:Nat) (v:Value),g.ρ[r]? =some v->v.oneCell'=true)(hr:Rel w g v d)(h1:d.cells.all D.one=true):fZ w g v.cells d.cells:=by
 cases d with
 |agg cs=>
  obtain⟨vs,rfl,hl,hr⟩:=hr.uF;exact⟨by simpa[Xj,D.cells]using hl,λq d hd=>by simpa[Xj]using hr q d hd⟩
 |_=>
  have gH:=hr.adL hρ (by simpa[D.cells]using h1);have hv:v.cells=#[v]:=by cases v<;>simp_all[Xj,Value.oneCell']
  rw[hv];refine⟨rfl,λq d hd=> ?_⟩;have hq:q=0:=by have:=(aQ.1 hd).1;simp[D.cells]at this;exact this
  subst hq;simp[D.cells]at hd;subst hd;exact⟨by simpa using hr,by simpa using gH⟩
theorem RG.hρ (h:RG c s a w g):∀(r:Nat) (v:Value),g.ρ[r]? =some v->v.oneCell'=true:=λr v hv=>by
 obtain⟨A,n,q,rfl⟩:=h.adK hv;rfl
theorem ahU (g:Gh):∀(r:Nat) (v:Value),g.er.ρ[r]? =some v->v.oneCell'=true:=λr v hv=>by simp[Gh.er]at hv
end
end Go.Ab
end
section
namespace Go.Ab
open Go.RowKit
def ak (P:Program)(f:FuncId)(ds:List D)(d:D):Prop:=
 (∀(args:Array Value) (w:World),(callFunc f args).run P w= .ok (.enter f args) w)/\
 ∀(S:Addr->Prop) (M:MM) (w:World) (args:List Value),lG w->Good w S->jf w M->args.length=ds.length->(∀q x,ds[q]? =some x->Rel w ⟨S,[],[],M⟩ (args.getD q bp) x)->
  Calls P f args.toArray w λe w'=>∃v S' M',e= .returned v/\Grow w S M w' S' M'/\Good w' S'/\Rel w' ⟨S',[],[],M'⟩ v d
def pV (bx:List Bx)(rw:List Row):D->Option D
 | .own r=>match rw[r]? with|some row=>some (.list row.xs)|none=>none
 | .box i off=>match bx[i]? with|some (.fz cs)=>some (.ro (cs.drop off))|_=>none
 | .aN i off n c=>match bx[i]? with|some (.fz cs)=>if off + n<=cs.length/\cs.all D.one=true/\n<=c then some (.list ((cs.drop off).take n))else none|_=>none
 | .agg _=>none
 | .aF _=>none
 | .ag _ _=>none
 | .cL _ _=>none
 | .bu _=>some .any
 |d=>some d
def pf (bx:List Bx)(rw:List Row):List D->Option (List D)
 |[]=>some []
 |d::ds=>match pV bx rw d with|some d'=>(pf bx rw ds).map (d'::·)|none=>none
def qN (bx:List Bx)(rw:List Row):D->Option D
 | .agg cs=>(pf bx rw cs).map .agg
 |d=>pV bx rw d
def pW (bx:List Bx)(rw:List Row):List D->Option (List D)
 |[]=>some []
 |d::ds=>match qN bx rw d with|some d'=>(pW bx rw ds).map (d'::·)|none=>none
def ph (bx:List Bx)(rw:List Row):D->Option D
 | .cL f cs=>(pW bx rw cs).map (.cL f)
 | .ag f cs=>(pf bx rw cs).map (.ag f)
 |d=>pV bx rw d
def jy (bx:List Bx)(rw:List Row):List D->Option (List D)
 |[]=>some []
 |d::ds=>match ph bx rw d with|some d'=>(jy bx rw ds).map (d'::·)|none=>none
def pg (bx:List Bx)(rw:List Row):D->Option D
 | .agg cs=>(jy bx rw cs).map .agg
 | .ag f cs=>(jy bx rw cs).map (.ag f)
 | .val (.slice none 0 0)=>some (.list [])
 |d=>ph bx rw d
def gm (bx:List Bx)(rw:List Row):List D->Option (List D)
 |[]=>some []
 |d::ds=>match pg bx rw d with|some d'=>(gm bx rw ds).map (d'::·)|none=>none
section
variable {c:Ctx} {s:St} {a:Act} {w:World} {g:Gh}
theorem Rel.erase {v:Value}{d:D}(h:Rel w g v d)(hd:match d with| .box _ _| .own _| .agg _| .aF _| .ag _ _| .aN _ _ _ _| .cL _ _| .bu _=>False|_=>True):Rel w g.er v d:=by
 cases h with
 |undef g v=>exact .undef _ _
 |int g k n=>exact .int _ _ _
 |bool g b=>exact .bool _ _
 |str g s=>exact .str _ _
 |val g v=>exact .val _ _
 |bM g b f h=>exact .bM _ b f h
 |skp g=>exact .skp _
 |any g v h1=>exact .any _ v h1
 |list g A n c xs sz u hn aR eO hm hr=>exact .list _ A n c xs sz u hn aR eO hm hr
 |ro g a cs u hm hr=>exact .ro _ a cs u hm hr
 |_=>exact hd.elim
theorem Rel.nil (w:World)(g:Gh):Rel w g (.slice none 0 0) (.list []):=
 .list _ none 0 0 [] 0 (λ_=>bp) rfl aO (aY _) (λq hq=>by simp[flat]at hq) (λq d hd=>by simp[flat]at hd)
theorem GS {v:Value}{d d':D}(h:RG c s a w g)(hr:Rel w g v d)(hp:pV s.bx s.rw d=some d'):Rel w g.er v d':=by
 unfold pV at hp;split at hp
 ·rename_i r;split at hp
  ·rename_i row gO;simp only[gE]at hp;subst hp;cases hr with
   |own _ _ _ h'=>
    obtain⟨v',e1,e2,_⟩:=(h.rw r row gO).ex;rw[e1]at h';cases h'
    exact e2.erase trivial
  ·cases hp
 ·rename_i i off;split at hp
  ·rename_i cs aw;simp only[gE]at hp;subst hp;cases hr with
   |box _ _ _ b hb=>
    obtain⟨b',vs,t,e1,e2,e3,e4,_,e6⟩:=(h.fz i cs aw).ex;rw[e1]at hb;cases hb
    obtain⟨h1,h2⟩:=vP e2 e3 off;refine .ro _ _ _ (λq=>vs.getD (off + q) bp) (λq hq=> ?_) (λq d hd=>h2 q d hd);have dP:off + q < cs.length:=by simp at hq;omega
    exact⟨(h1 q hq).1,by rw[nt];exact e6 rfl _ dP,(h1 q hq).2⟩
  ·cases hp
 ·rename_i i off n cp;split at hp
  ·rename_i cs aw;split at hp
   ·rename_i hc;simp only[gE]at hp;subst hp;cases hr with
    |aN _ _ _ _ _ b hb=>
     obtain⟨b',vs,t,e1,e2,e3,e4,_,e6⟩:=(h.fz i cs aw).ex;rw[e1]at hb;cases hb
     obtain⟨h1,h2⟩:=vP e2 e3 off;have px:∀d∈cs,d.cells=[d]:=λd hd=>by
      have:=List.all_eq_true.1 hc.2.1 d hd;cases d<;>first|rfl|(simp[D.one]at this)
     have fv:∀l:List D,(∀d∈l,d.cells=[d])->flat l=l:=λl hl=>by
      induction l with
      |nil=>rfl
      |cons d l ih=>show d.cells++flat l=_;rw[hl d (dI ..),ih (λx hx=>hl x (dW _ hx))];rfl
     have A9:∀d∈(cs.drop off).take n,d∈cs:=λd hd=>Fy (x9 hd);have hf:=fv ((cs.drop off).take n) (λd hd=>px d (A9 d hd));have hlen:((cs.drop off).take n).length=n:=by simp;omega
     refine .list _ _ _ _ _ 1 (λq=>vs.getD (off + q) bp) hlen.symm (λd hd=>by rw[px d (A9 d hd)];rfl) hc.2.2 (λq hq=> ?_) (λq d hd=> ?_)
     ·rw[hf,hlen]at hq;have dP:off + q < cs.length:=ae;exact⟨_,rfl,(h1 q (by simp;omega)).1,by rw[nt];exact e6 rfl _ dP,(h1 q (by simp;omega)).2⟩
     ·rw[hf]at hd;refine h2 q d ?_;rw[iM]at hd;split at hd
      ·exact hd
      ·cases hd
   ·cases hp
  ·cases hp
 ·cases hp
 ·cases hp
 ·cases hp
 ·cases hp
 ·simp only[gE]at hp;subst hp;cases hr with
  |bu _ _ b hb=>exact .any _ _ rfl
 ·simp only[gE]at hp;subst hp;refine hr.erase ?_;split<;>first|trivial|(exact(‹∀(i off n c:Nat),D.aN _ _ _ _=D.aN i off n c->False› _ _ _ _ rfl).elim)|(simp_all;done)
theorem KK {bx:List Bx}{aD:List Row}:∀{ds bR:List D},pf bx aD ds=some bR->bR.length=ds.length/\∀(q:Nat) (d':D),bR[q]? =some d'->∃d,ds[q]? =some d/\pV bx aD d=some d'
 |[],bR,h=>by simp[pf]at h;subst h;simp
 |d::ds,bR,h=>by
  simp only[pf]at h;split at h
  ·rename_i d1 h1;simp only[cv]at h;obtain⟨l,hl,rfl⟩:=h;obtain⟨e1,e2⟩:=KK hl;refine⟨by simp[e1],λq d' hq=> ?_⟩;cases q with
   |zero=>simp at hq;subst hq;exact⟨d,rfl,h1⟩
   |succ q=>exact e2 q d' (by simpa using hq)
  ·cases h
theorem adb {v:Value}{d d':D}(h:RG c s a w g)(hr:Rel w g v d)(hp:qN s.bx s.rw d=some d'):Rel w g.er v d':=by
 unfold qN at hp;split at hp
 ·rename_i cs;simp only[cv]at hp;obtain⟨l,hl,rfl⟩:=hp;obtain⟨e1,e2⟩:=KK hl;obtain⟨vs,rfl,lR,cW⟩:=hr.uF;refine .agg _ _ _ (by simp[lR,e1]) (λq hq=> ?_) (λq x hx=> ?_)
  ·obtain⟨y,hy,_⟩:=e2 q _ (bS hq);simpa using(cW q y hy).2
  ·obtain⟨y,hy,hp⟩:=e2 q x hx;exact GS h (by simpa using(cW q y hy).1) hp
 ·exact GS h hr hp
theorem Q2 {bx:List Bx}{aD:List Row}:∀{ds bR:List D},pW bx aD ds=some bR->bR.length=ds.length/\∀(q:Nat) (d':D),bR[q]? =some d'->∃d,ds[q]? =some d/\qN bx aD d=some d'
 |[],bR,h=>by simp[pW]at h;subst h;simp
 |d::ds,bR,h=>by
  simp only[pW]at h;split at h
  ·rename_i d1 h1;simp only[cv]at h;obtain⟨l,hl,rfl⟩:=h;obtain⟨e1,e2⟩:=Q2 hl;refine⟨by simp[e1],λq d' hq=> ?_⟩;cases q with
   |zero=>simp at hq;subst hq;exact⟨d,rfl,h1⟩
   |succ q=>exact e2 q d' (by simpa using hq)
  ·cases h
theorem Dc {v:Value}{d d':D}(h:RG c s a w g)(hr:Rel w g v d)(hp:ph s.bx s.rw d=some d'):Rel w g.er v d':=by
 unfold ph at hp;split at hp
 ·simp only[cv]at hp;obtain⟨l,hl,rfl⟩:=hp;obtain⟨e1,e2⟩:=Q2 hl;cases hr with
  |cL _ f vs cs lR cW=>
   refine .cL _ _ vs l (by rw[lR,e1]) (λq x hx=> ?_);obtain⟨y,hy,hp⟩:=e2 q x hx;exact adb h (cW q y hy) hp
 ·simp only[cv]at hp;obtain⟨l,hl,rfl⟩:=hp;obtain⟨e1,e2⟩:=KK hl;cases hr with
  |ag _ f vs cs lR cW=>
   refine .ag _ _ vs l (by rw[lR,e1]) (λq x hx=> ?_);obtain⟨y,hy,hp⟩:=e2 q x hx;exact GS h (cW q y hy) hp
 ·exact GS h hr hp
theorem Db {bx:List Bx}{aD:List Row}:∀{ds bR:List D},jy bx aD ds=some bR->bR.length=ds.length/\∀(q:Nat) (d':D),bR[q]? =some d'->∃d,ds[q]? =some d/\ph bx aD d=some d'
 |[],bR,h=>by simp[jy]at h;subst h;simp
 |d::ds,bR,h=>by
  simp only[jy]at h;split at h
  ·rename_i d1 h1;simp only[cv]at h;obtain⟨l,hl,rfl⟩:=h;obtain⟨e1,e2⟩:=Db hl;refine⟨by simp[e1],λq d' hq=> ?_⟩;cases q with
   |zero=>simp at hq;subst hq;exact⟨d,rfl,h1⟩
   |succ q=>exact e2 q d' (by simpa using hq)
  ·cases h
theorem rI {v:Value}{d d':D}(h:RG c s a w g)(hr:Rel w g v d)(hp:pg s.bx s.rw d=some d'):Rel w g.er v d':=by
 unfold pg at hp;split at hp
 ·simp only[cv]at hp;obtain⟨l,hl,rfl⟩:=hp;obtain⟨e1,e2⟩:=Db hl;obtain⟨vs,rfl,lR,cW⟩:=hr.uF;refine .agg _ _ _ (by simp[lR,e1]) (λq hq=> ?_) (λq x hx=> ?_)
  ·obtain⟨y,hy,_⟩:=e2 q _ (bS hq);simpa using(cW q y hy).2
  ·obtain⟨y,hy,hp⟩:=e2 q x hx;exact Dc h (by simpa using(cW q y hy).1) hp
 ·simp only[cv]at hp;obtain⟨l,hl,rfl⟩:=hp;obtain⟨e1,e2⟩:=Db hl;cases hr with
  |ag _ f vs cs lR cW=>
   refine .ag _ _ vs l (by rw[lR,e1]) (λq x hx=> ?_);obtain⟨y,hy,hp⟩:=e2 q x hx;exact Dc h (cW q y hy) hp
 ·simp only[gE]at hp;subst hp;cases hr;exact .nil _ _
 ·exact Dc h hr hp
theorem u9 {bx:List Bx}{aD:List Row}:∀{ds bR:List D},gm bx aD ds=some bR->bR.length=ds.length/\∀(q:Nat) (d':D),bR[q]? =some d'->∃d,ds[q]? =some d/\pg bx aD d=some d'
 |[],bR,h=>by simp[gm]at h;subst h;simp
 |d::ds,bR,h=>by
  simp only[gm]at h;split at h
  ·rename_i d1 h1;simp only[cv]at h;obtain⟨l,hl,rfl⟩:=h;obtain⟨e1,e2⟩:=u9 hl;refine⟨by simp[e1],λq d' hq=> ?_⟩;cases q with
   |zero=>simp at hq;subst hq;exact⟨d,rfl,h1⟩
   |succ q=>exact e2 q d' (by simpa using hq)
  ·cases h
def dL (P:Program)(f:FuncId)(ds:List D)(k:D->Prop):Prop:=∃d,ak P f ds d/\k d
theorem EL (w:World)(S:Addr->Prop)(β:List Nat)(ρ:List Value)(M:MM):fL w ⟨S,[],[],M⟩ w ⟨S,β,ρ,M⟩:=
 ⟨λ_ _=>rfl,λ_ h=>h,λi b h=>by simp at h,λi b h=>by simp at h,λ_ _ h=>h⟩
def lW (d:D)(k:FuncId->List D->List D->Prop):Prop:=match d with| .ag f cs=>k f [] cs| .cL f fs=>k f fs []|_=>False
theorem CC {v:Value}{d:D}{k:FuncId->List D->List D->Prop}(hr:Rel w g v d)(hk:lW d k):∃f fs cs vf vc,k f fs cs/\v= .func (.func f) vf vc/\vf.size=fs.length/\vc.size=cs.length/\
  (∀q d,fs[q]? =some d->Rel w g (vf.getD q bp) d)/\∀q d,cs[q]? =some d->Rel w g (vc.getD q bp) d:=by
 cases hr<;>first|exact hk.elim|skip
 ·rename_i f vs cs hl hr;exact⟨f,[],cs,#[],vs,hk,rfl,rfl,hl,λq d hd=>by simp at hd,hr⟩
 ·rename_i f vs cs hl hr;exact⟨f,cs,[],vs,#[],hk,rfl,hl,rfl,hr,λq d hd=>by simp at hd⟩
theorem abD {o:Oper}{fx:Operand}{xs:Array Operand}{at_:Array TypeId}{K:St->Prop}{Q:Exit->Act->World->Prop}
  (ho:o.op= .call {callee:= .value fx,args:=xs,argTypes:=at_})(h:RG c s a w g)(hd:bd s o.dst)
  (hk:lW (s.ev fx) λf fs cs=>∃ds,gm s.bx s.rw (fs++xs.toList.map s.ev++cs)=some ds/\dL c.P f ds λd=>K (s.put o.dst d)):o.wp c.P a w (λa' w'=>∃s',R c s' a' w'/\K s') Q:=by
 obtain⟨f,fs,cs,⟨vf⟩,⟨vs⟩,⟨ds,hp,d,⟨ta,aw⟩,hk⟩,hv,xg,hl,yX,hr⟩:=CC (h.ev fx) hk;obtain⟨e1,e2⟩:=u9 hp;have aV:(execOp a.eval o).run c.P w= .ok (.enter f (vf++xs.toList.map a.eval++vs).toArray) w:=by
  simp[execOp,ho,resolve,hv,Deferred.ofValue,invoke];rw[ta];simp
 have hlen:(vf++xs.toList.map a.eval++vs).length=ds.length:=by
  rw[e1];simp at hl xg⊢;omega
 have um:vf.length=fs.length:=by simpa using xg
 have bf:=aw g.S g.M w (vf++xs.toList.map a.eval++vs) (h.df.fD.at h.below) h.ba h.df.bO hlen (λq x hx=>by
  obtain⟨y,hy,sU⟩:=e2 q x hx;refine rI h ?_ sU;rw[List.getD_eq_getElem?_getD];rw[kK]at hy⊢;rcases ft q fs.length with hq|hq
  ·rw[bQ hq]at hy;rw[bQ ae];have:=yX q y hy;simpa using this
  rw[dX hq]at hy;rw[dX ae,um];rcases ft (q - fs.length) (xs.toList.map s.ev).length with hq|hq
  ·rw[bQ hq]at hy;simp only[cO,cv]at hy;obtain⟨z,hz,rfl⟩:=hy;rw[bQ (by simpa using hq)];simp only[cO,hz,eH,Option.getD_some];exact h.ev z
  ·rw[dX hq]at hy;have:=hr _ y hy;rw[dX (by simpa using hq)];simpa using this)
 unfold Oper.wp;rw[aV];refine bf.mono ?_;rintro e w' ⟨v,S',M',rfl,hg,h3,bw⟩;exact⟨s.put o.dst d,⟨_,(h.grow hg h3).put hd (bw.aZ (EL _ _ _ _ _))⟩,hk⟩
theorem Ku {o:Oper}{K:St->Prop}{Q:Exit->Act->World->Prop}(h:RG c s a w g)(hd:bd s o.dst)(hy:Yields c.P o a w g λd=>K (s.put o.dst d)):
  o.wp c.P a w (λa' w'=>∃s',R c s' a' w'/\K s') Q:=by
 obtain⟨v,d,aV,hr,hk⟩:=hy;unfold Oper.wp;rw[aV];exact⟨s.put o.dst d,⟨_,h.put hd hr⟩,hk⟩
end
end Go.Ab
end
section
namespace Go.Ab
open Go.RowKit
section
variable {c:Ctx} {s:St} {a:Act} {w:World} {g:Gh}
theorem Ve:∀(l:List Value) (k off:Nat) (arr:Array Value),
  ((l.zipIdx k).foldl (λcs (p:Value×Nat)=>cs.setIfInBounds (off + p.2) p.1) arr).size=arr.size/\
  ∀m,m < arr.size->((l.zipIdx k).foldl (λcs (p:Value×Nat)=>cs.setIfInBounds (off + p.2) p.1) arr).getD m bp=
   if off + k<=m/\m < off + k + l.length then l.getD (m - (off + k)) bp else arr.getD m bp
 |[],k,off,arr=>by simp;intro m hm h1 h2;omega
 |v::l,k,off,arr=>by
  have ih:=Ve l (k + 1) off (arr.setIfInBounds (off + k) v);simp only[List.zipIdx_cons,List.foldl_cons];refine⟨by rw[ih.1];simp,λm hm=> ?_⟩;rw[ih.2 m (by simpa using hm)];by_cases h1:off + (k + 1)<=m/\m < off + (k + 1) + l.length
  ·rw[if_pos h1,if_pos (by simp;omega)];rw[show m - (off + k)=(m - (off + (k + 1))) + 1 by omega];simp
  ·rw[if_neg h1];by_cases h2:m=off + k
   ·subst h2;rw[if_pos aO];simp[hm]
   ·rw[if_neg (by simp;omega)];simp[hm,Ne.symm h2]
theorem Wl {vs us:Array Value}{cs ds:List D}{arr:Array Value}{off:Nat}(h:fZ w g vs cs)(hu:fZ w g us ds)(hle:off + ds.length<=cs.length)
  (hs:arr.size=vs.size)(hg:∀m,m < vs.size->arr.getD m bp=if off<=m/\m < off + us.size then us.getD (m - off) bp else vs.getD m bp):
  fZ w g arr (cs.take off++ds++cs.drop (off + ds.length)):=by
 have hul:=hu.1;have jn:=h.1;refine⟨by simp;omega,λq d hd=> ?_⟩;have hq:q < cs.length:=by have:=(aQ.1 hd).1;simp at this;omega
 rw[hg q ae];by_cases h1:off<=q/\q < off + us.size
 ·rw[if_pos h1];rw[kK,dX (by simp;omega),bQ (by simp;omega)]at hd;have e:q - (cs.take off).length=q - off:=by simp;omega
  rw[e]at hd;exact hu.2 _ d hd
 ·rw[if_neg h1];refine h.2 q d ?_;rcases ft q off with h2|h2
  ·rw[kK,bQ (by simp;omega),iM,if_pos h2]at hd;exact hd
  ·have h3:off + ds.length<=q:=ae;rw[dX (by simp;omega),tB]at hd;have e:off + ds.length + (q - (cs.take off++ds).length)=q:=by simp;omega
   rw[e]at hd;exact hd
theorem aht (v:Value)(off:Nat)(cells:Array Value):
  (v.cells.zipIdx.foldl (λcs (p:Value×Nat)=>cs.setIfInBounds (off + p.2) p.1) cells)=(v.cells.toList.zipIdx 0).foldl (λcs (p:Value×Nat)=>cs.setIfInBounds (off + p.2) p.1) cells:=by
 rw[<-Array.foldl_toList,Array.toList_zipIdx]
def tj (place:Nat->Option (Nat×Nat))(cs:List D):List (Nat×D)->Option (List D)
 |[]=>some cs
 |(i,d)::rest=>match place i with
  |some (off,sz)=>if d.cells.length=sz/\off + d.cells.length<=cs.length/\d.cells.all D.one=true
    then tj place (cs.take off++d.cells++cs.drop (off + d.cells.length)) rest else none
  |none=>none
theorem Ng (place:Nat->Option (Nat×Nat)):∀(l:List (Nat×Value×D)) (cells:Array Value) (cs cm:List D),fZ w g cells cs->
  (∀t∈l,t.2.2.cells.all D.one=true->fZ w g t.2.1.cells t.2.2.cells)->
  tj place cs (l.map λt=>(t.1,t.2.2))=some cm->∃vN,FK place cells (l.map λt=>(t.1,t.2.1))=some vN/\fZ w g vN cm
 |[],cells,cs,cm,hc,_,hf=>by simp[tj]at hf;subst hf;exact⟨cells,by simp[FK],hc⟩
 |(i,v,d)::l,cells,cs,cm,hc,hl,hf=>by
  simp only[ib,tj]at hf;split at hf
  ·rename_i off sz hp;split at hf
   ·rename_i agN;obtain⟨h1,h2,h3⟩:=agN;have hx:fZ w g v.cells d.cells:=hl (i,v,d) (dI ..) h3;have aR:v.cells.size=d.cells.length:=hx.1;obtain⟨f1,f2⟩:=Ve v.cells.toList 0 off cells;have zm:fZ w g (v.cells.zipIdx.foldl (λcs (p:Value×Nat)=>cs.setIfInBounds (off + p.2) p.1) cells) (cs.take off++d.cells++cs.drop (off + d.cells.length)):=by
     rw[aht];refine Wl hc hx h2 f1 (λm hm=> ?_);rw[f2 m hm];simp
    obtain⟨vN,e1,e2⟩:=Ng place l _ _ _ zm (λt ht=>hl t (dW _ ht)) hf;refine⟨vN, ?_,e2⟩;have aw:cells.size=cs.length:=hc.1;simp only[ib,FK,hp];rw[if_neg (by simp;omega)];exact e1
   ·cases hf
  ·cases hf
def fi (P:Program)(t:TypeId):Option (Nat->Option (Nat×Nat)):=match P.underlying t with
 |some (.struct fs)=>if fs.all (λf=>(P.info? f.type).isSome)then some λi=>(fs.toList.map λf=>(f.offset,aC P f.type))[i]? else none
 |some (.array _ e)=>if aC P e=0 then none else some λi=>some (i * aC P e,aC P e)
 |_=>none
theorem Qm {α β:Type}(P:Program)(w:World)(f:α->Sem β)(f':α->β):∀(l:List α),(∀x∈l,(f x).run P w= .ok (f' x) w)->(l.mapM f).run P w= .ok (l.map f') w
 |[],_=>by simp
 |x::l,h=>by
  have h1:=h x (dI ..);have h2:=Qm P w f f' l (λy hy=>h y (dW _ hy));simp[h1,h2]
theorem yk {P:Program}{t:TypeId}{zs:List D}(h:bL P t=some zs)(w:World)(g:Gh):∃z,(zeroValue t).run P w= .ok z w/\fZ w g z.cells zs/\∃i,P.info? t=some i/\i.size=zs.length:=by
 unfold bL at h;split at h
 ·rename_i i hi;split at h
  ·rename_i z hz;split at h
   ·rename_i hc;simp only[Bool.and_eq_true,beq_iff_eq]at hc;simp only[gE]at h;subst h;refine⟨z,by simp[zeroValue,typeInfo,hi,hz],⟨by simp,λq d hd=> ?_⟩,i,hi,by simp[hc.2]⟩;simp only[cO,FY,cv]at hd;obtain⟨v,hv,rfl⟩:=hd;have hl:=(bt.1 hv).1;have he:=(bt.1 hv).2;have e:z.cells.getD q bp=v:=by simp[hl,he]
    rw[e];exact⟨GN _ _ _,Array.all_eq_true.1 hc.1 q hl|>λh=>by rw[he]at h;exact h⟩
   ·cases h
  ·cases h
 ·cases h
theorem Yd {t:TypeId}{ps:Array (Nat×Operand)}{o:Oper}{k:D->Prop}(h:RG c s a w g)(ho:o.op= .build t ps)
  (hk:a_ (bL c.P t) λzs=>a_ (fi c.P t) λplace=>a_ (tj place zs (ps.toList.map λp=>(p.1,s.ev p.2))) λcs=>k (.agg cs)):Yields c.P o a w g k:=by
 obtain⟨zs,hz,hk⟩:=cM hk;obtain⟨place,hp,hk⟩:=cM hk;obtain⟨cs,hf,hk⟩:=cM hk;obtain⟨z,fU,jC,_⟩:=yk hz w g;obtain⟨vN,e1,e2⟩:=Ng place (ps.toList.map λp=>(p.1,a.eval p.2,s.ev p.2)) z.cells zs cs jC (λt ht h1=>by
  simp only[List.mem_map]at ht;obtain⟨p,_,rfl⟩:=ht;exact(h.ev p.2).EY h.hρ h1) (by rw[tA];exact hf)
 rw[tA]at e1;simp only[Function.comp_def]at e1;refine⟨.agg vN, .agg cs, ?_, .agg _ _ _ e2.1 (λq hq=>(e2.2 q _ (bS hq)).2) (λq d hd=>(e2.2 q d hd).1),hk⟩;have gn:(ps.map λp=>(p.1,a.eval p.2)).toList=ps.toList.map λp=>(p.1,a.eval p.2):=by simp
 unfold fi at hp;split at hp
 ·rename_i fs hu;split at hp
  ·rename_i dw;simp only[gE]at hp;subst hp;have hm:(fs.mapM λf=>do pure (f.offset,<-sizeOf f.type):Sem (Array (Nat×Nat))).run c.P w= .ok (fs.map λf=>(f.offset,aC c.P f.type)) w:=by
    rw[Array.mapM_eq_mapM_toList];have:=Qm c.P w (λf:Field=>(do pure (f.offset,<-sizeOf f.type):Sem (Nat×Nat))) (λf=>(f.offset,aC c.P f.type)) fs.toList (λf hf=>by
     have hi:(c.P.info? f.type).isSome=true:=by
      have:=Array.all_eq_true'.1 dw f (Array.mem_toList_iff.1 hf);simpa using this
     obtain⟨i,hi⟩:=xV.1 hi;simp[sizeOf,typeInfo,hi,aC,zP])
    simp at this⊢;rw[this];simp;rw[<-Array.toList_map,Array.toArray_toList]
   have e1':FK (λx=>(fs.map λf=>(f.offset,aC c.P f.type))[x]?) z.cells (ps.toList.map λp=>(p.1,a.eval p.2))=some vN:=by
    rw[<-e1];congr 1;funext i;simp
   simp only[execOp,ho,Instr.build,pL,fU,sr,run_underlying hu,hm,gn];rw[e1'];simp
  ·cases hp
 ·rename_i n e hu;split at hp
  ·cases hp
  ·rename_i po;simp only[gE]at hp;subst hp;simp only[execOp,ho,Instr.build,pL,fU,sr,run_underlying hu,run_sizeOf po,gn];rw[e1];simp
 ·cases hp
theorem Vs (sz:Nat):∀(ds done:List D),(∀d∈ds,d.cells.length=sz/\d.cells.all D.one=true)->(∀d∈done,d.cells.length=sz)->
  tj (λi=>some (i * sz,sz)) (flat done++cD (ds.length * sz) D.undef) ((List.range' done.length ds.length).zip ds)=some (flat (done++ds))
 |[],done,_,_=>by simp[tj,flat]
 |d::ds,done,h,hd=>by
  obtain⟨h1,h2⟩:=h d (dI ..);have fv:=qq sz done hd;have ih:=Vs sz ds (done++[d]) (λx hx=>h x (dW _ hx)) (λx hx=>by
   rcases List.mem_append.1 hx with hx|hx
   ·exact hd x hx
   ·rw[List.mem_singleton.1 hx];exact h1)
  simp only[lV,List.range'_succ,List.zip_cons_cons,tj];rw[if_pos ⟨h1,by simp only[eQ,List.length_replicate,fv,h1,ru];omega,h2⟩];have e:List.take (done.length * sz) (flat done++cD ((ds.length + 1) * sz) D.undef)++d.cells++List.drop (done.length * sz + d.cells.length) (flat done++cD ((ds.length + 1) * sz) D.undef)=
    flat (done++[d])++cD (ds.length * sz) D.undef:=by
   rw[<-fv,List.take_left,h1,List.drop_append,List.drop_eq_nil_of_le ae,List.drop_replicate];have:(ds.length + 1) * sz - ((flat done).length + sz - (flat done).length)=ds.length * sz:=by rw[ru];omega
   rw[this];simp[flat]
  rw[e];have hl:(done++[d]).length=done.length + 1:=by simp
  rw[hl]at ih;rw[ih];simp
theorem RG.ad1 {cells:Array Value}{e:TypeId}{ds:List D}{sz:Nat}(h:RG c s a w g)(hc:fZ w g.er cells (flat ds))(aR:∀d∈ds,d.cells.length=sz):
  ∃S',RG c s a (w.alloc (.cells cells e)) ⟨S',g.β,g.ρ,g.M⟩/\(∀x,g.S x->S' x)/\Rel (w.alloc (.cells cells e)) ⟨S',g.β,g.ρ,g.M⟩ (.slice (some ⟨w.heap.size,0,none⟩) ds.length ds.length) (.list ds):=by
 have hb:=zI w (.cells cells e);refine⟨λx=>g.S x\/∃q,q < (flat ds).length/\x=⟨w.heap.size,q,none⟩, ?_,λx hx=> .inl hx, ?_⟩
 ·refine h.world hb (λx hx=> .inl hx) (λx hx=> ?_) (λx hx=> ?_)
  ·rcases hx with hx|⟨q,_,rfl⟩
   ·exact .inl hx
   ·exact .inr (aY _)
  ·rcases hx with hx|⟨q,hq,rfl⟩
   ·exact h.ba.below hb x hx
   ·refine⟨cells.getD q bp, ?_⟩;rw[cell_of_row _ _ q cells e (0,0) (heap_alloc_new w _)];have:q < cells.size:=by rw[hc.1];exact hq
    simp[this]
 ·refine .list _ _ _ _ ds sz (λq=>cells.getD q bp) rfl aR (aY _) (λq hq=>⟨⟨w.heap.size,0,none⟩,rfl, ?_, ?_, ?_⟩) (λq d hd=> ?_)
  ·rw[nt,fK,cell_of_row _ _ q cells e (0,0) (heap_alloc_new w _)];have:q < cells.size:=by rw[hc.1];exact hq
   simp[this]
  ·rw[nt,fK];exact .inr ⟨q,hq,rfl⟩
  ·exact(hc.2 q _ (bS hq)).2
  ·exact((hc.2 q d hd).1.aZ (h.keeps (.of hb) (λ_ h=>h) (λ_ _ h=>h)).er).aZ ⟨λ_ _=>rfl,λx hx=> .inl hx,λ_ _ h=>h,λ_ _ h=>h,λ_ _ h=>h⟩
theorem abE {t:TypeId}{n:Nat}{ps:Array (Nat×Operand)}{o:Oper}{K:St->Prop}{Q:Exit->Act->World->Prop}(h:RG c s a w g)(ho:o.op= .buildSlice t n ps)(hd:bd s o.dst)
  (hk:a_ (elemOf c.P t) λe=>aC c.P e≠0/\n * aC c.P e<=16777216/\(bL c.P e).isSome=true/\ps.toList.map (·.1)=ct n/\
   a_ (gm s.bx s.rw (ps.toList.map λp=>s.ev p.2)) λds=>(∀d∈ds,d.cells.length=aC c.P e/\d.cells.all D.one=true)/\K (s.put o.dst (.list ds))):
  o.wp c.P a w (λa' w'=>∃s',R c s' a' w'/\K s') Q:=by
 obtain⟨e,he,hz,hle,hzo,mn,hk⟩:=cM hk;obtain⟨ds,hp,kW,hk⟩:=cM hk;obtain⟨zs,gM⟩:=xV.1 hzo;obtain⟨z,fU,jC,i,hi,sY⟩:=yk gM w g;obtain⟨e1,e2⟩:=u9 hp;have hn:ps.toList.length=n:=by have:=congrArg List.length mn;simpa using this
 have uq:ds.length=n:=by rw[e1];simpa using hn
 have Hr:zs.length=aC c.P e:=by simp[aC,zP,hi,sY]
 have afM:z.cells.size=aC c.P e:=by rw[jC.1,Hr]
 let l:List (Nat×Value×D):=(ct n).zip ((ps.toList.map λp=>a.eval p.2).zip ds)
 have kU:(l.map λt=>(t.1,t.2.1))=ps.toList.map λp=>(p.1,a.eval p.2):=by
  apply OM
  ·simp[l,hn,uq]
  ·intro q h1 h2;simp[l];have h3:q < ps.toList.length:=by simpa using h2
   have:=congrArg (λl=>l[q]?) mn;simp only[cO]at this;rw[bS h3,List.getElem?_range (by rw[<-hn];exact h3)]at this;simp at this;exact this.symm
 have eN:(l.map λt=>(t.1,t.2.2))=(List.range' 0 ds.length).zip ds:=by
  apply OM
  ·simp[l,hn,uq]
  ·intro q h1 h2;simp[l]
 have agv:fZ w g.er ((Array.range (n * aC c.P e)).map (z.cells[· % z.cells.size]!)) (cD (ds.length * aC c.P e) D.undef):=by
  refine⟨by simp[uq],λq d hd=> ?_⟩;have hq:q < n * aC c.P e:=by have:=(aQ.1 hd).1;simpa[uq]using this
  have dN:d= .undef:=by have:=(aQ.1 hd).2;simpa using this.symm
  subst dN;have hm:q % z.cells.size < z.cells.size:=Nat.mod_lt _ (by rw[afM];omega);refine⟨.undef _ _, ?_⟩;have h_:q % z.cells.size < zs.length:=by rw[<-jC.1];exact hm
  have:=(jC.2 (q % z.cells.size) _ (bS h_)).2;simp[hq,hm];simpa[hm]using this
 have agB:=Vs (aC c.P e) ds [] (λd hd=>kW d hd) aO;obtain⟨vN,f1,f2⟩:=Ng (w:=w) (g:=g.er) (λi=>some (i * aC c.P e,aC c.P e)) l _ _ (flat ds) agv (λt ht h1=>by
  obtain⟨q,hq,rfl⟩:=List.getElem_of_mem ht;have qf:q < ps.toList.length:=by simp[l]at hq;simp;omega
  have mZ:q < ds.length:=by rw[uq,<-hn];exact qf
  have hdq:ds[q]? =some (l[q]).2.2:=by simp[l,mZ]
  obtain⟨y,hy,sU⟩:=e2 q _ hdq;simp only[cO,cv]at hy;obtain⟨p,gP,rfl⟩:=hy;have hv:(l[q]).2.1=a.eval p.2:=by
   have:=(aQ.1 gP).2;simp only[l,List.getElem_zip,List.getElem_map];rw[this]
  rw[hv];exact(rI h (h.ev p.2) sU).EY (ahU g) h1) (by rw[eN];simpa[flat]using agB)
 obtain⟨S',r1,r2,r3⟩:=h.ad1 (e:=e) f2 (λd hd=>(kW d hd).1);have aV:(execOp a.eval o).run c.P w= .ok (.value (.slice (some ⟨w.heap.size,0,none⟩) n n)) (w.alloc (.cells vN e)):=by
  have gn:(ps.map λp=>(p.1,a.eval p.2)).toList=ps.toList.map λp=>(p.1,a.eval p.2):=by simp
  rw[kU]at f1;simp only[execOp,ho,Instr.buildSlice,pL,run_underlying (mD he),sr,run_sizeOf hz,gn];rw[if_neg (by simp;omega)];by_cases h0:n * aC c.P e=0
  ·rw[if_pos h0];have D6:n=0:=by rcases Nat.mul_eq_zero.1 h0 with h|h;exact h;exact absurd h hz
   subst D6;have af':ps.toList=[]:=Cp hn;simp[af',FK]at f1⊢;subst f1;have r0:Array.range 0=#[]:=rfl;simp[newRow,r0]
  ·rw[if_neg h0];simp only[pL,fU,sr,Sem.run_pure];rw[f1];simp[newRow]
 unfold Oper.wp;rw[aV];rw[uq]at r3;exact⟨s.put o.dst (.list ds),⟨_,r1.put hd r3⟩,hk⟩
end
end Go.Ab
end
