import Derived.Laws.BytesArg
import Derived.WalkKit
import Derived.MapKept
import Derived.RangeFuncNested
import Derived.RangeFuncLeaves
import Derived.LoopNIn
import Derived.OrdersIn
import Derived.TacticsIn
import Derived.Maps.AppendAt
import Derived.Deep.AppendLies
import Derived.Laws.OwnMore
import Derived.Lib.LaidTab
import Derived.Lib.ItoaNum
set_option linter.unusedVariables false
set_option linter.unusedSimpArgs false
open Array renaming getElem?_eq_some_iff->bJ
open BitVec renaming ofInt->nF,toNat_ofInt->ag5
open Go.Builtin renaming len_->E_
open Go renaming undef->bH
open Go.Instr renaming indexAt->Tg,slice->Tf,sliceAt->I4,sliceBound->I3,sliceBounds->xS,sureAddr->zR
open Go.IntKind renaming i64->xO,u64->Td
open List renaming flatMap_cons->Ta,getElem?_append_left->cZ,getElem?_drop->tZ,getElem?_eq_getElem->cX,getElem?_eq_some_iff->bm,getElem?_map->dO,getElem?_take->ib,length_append->ia,length_drop->xG,length_take->mG,mem_cons_of_mem->fE,mem_cons_self->ey,mem_of_getElem?->fM
open Nat renaming add_mul->pk
open Go.Op renaming equal->xz,equalIn->Ci,intArith->EU,intCmp->Ch
open Option renaming map_eq_some_iff->cS
open Option.some renaming inj->jb,injEq->fe
open Go.Value renaming int->gX
section
namespace Go.Ab
theorem ag {p:Prop}(h:p:=by omega):p:=h
theorem ay {p:Prop}(h:p:=by simp):p:=h
theorem ak {p:Prop}(h:p:=by decide):p:=h
open Go.RowKit
def Af:Nat->Option (Array Value)
 |1=>some (Lib.pow10Tab.map λz=>gX .u64 z).toArray
 |_=>none
def jG (w:World):Prop:=∀b vs,Af b=some vs->∃t fz,w.heap[b]? =some (.cells vs t fz)
inductive VK where|num|arr|yes
 deriving Inhabited,DecidableEq
structure nE where
 ka:Bool
 va:VK
 n:Nat
 f:List Int->List Int
 tI:List (List Int)
 deriving Inhabited
inductive D where
 |undef
 |int (k:IntKind)(n:Int)
 |bool (b:Bool)
 |str (s:ByteArray)
 |list (xs:List D)
 |agg (cs:List D)
 |aQ (ds:List D)
 |box (i off:Nat)
 |ro (cs:List D)
 |own (r:Nat)
 |aD (f:FuncId)(cs:List D)
 |val (v:Value)
 |eN (f:nE)
 |a_ (i off n c:Nat)
 |dq (f:FuncId)(cs:List D)
 |skp
 |any
 |bz (i:Nat)
 deriving Inhabited
def D.cells:D->List D
 | .agg cs=>cs
 |d=>[d]
def flat (xs:List D):List D:=xs.flatMap D.cells
abbrev MM:=Nat->Option nE
structure Gh where
 S:Addr->Prop
 β:List Nat
 ρ:List Value
 M:MM
def Gh.er (g:Gh):Gh:=⟨g.S,[],[],g.M⟩
inductive Rel (w:World):Gh->Value->D->Prop
 |undef (g:Gh) (v:Value):Rel w g v .undef
 |int (g:Gh) (k:IntKind) (n:Int):Rel w g (.int k n) (.int k n)
 |bool (g:Gh) (b:Bool):Rel w g (.bool b) (.bool b)
 |str (g:Gh) (s:ByteArray):Rel w g (.string s) (.str s)
 |val (g:Gh) (v:Value):Rel w g v (.val v)
 |list (g:Gh) (A:Option Addr) (n c:Nat) (xs:List D) (sz:Nat) (u:Nat->Value) (hn:n=xs.length) (bo:∀x∈xs,x.cells.length=sz) (hc:n<=c)
   (hm:∀q,q < (flat xs).length->∃ad,A=some ad/\w.cell? (ad.add q)=some (u q)/\g.S (ad.add q)/\(u q).oneCell'=true)
   (hr:∀q d,(flat xs)[q]? =some d->Rel w g.er (u q) d):Rel w g (.slice A n c) (.list xs)
 |agg (g:Gh) (vs:Array Value) (cs:List D) (hl:vs.size=cs.length) (h1:∀q,q < cs.length->(vs.getD q undef).oneCell'=true)
   (hr:∀q d,cs[q]? =some d->Rel w g (vs.getD q undef) d):Rel w g (.agg vs) (.agg cs)
 |aQ (g:Gh) (vs:Array Value) (ds:List D) (hl:vs.size=ds.length)
   (hr:∀q d,ds[q]? =some d->Rel w g (vs.getD q undef) d):Rel w g (.tuple vs) (.aQ ds)
 |box (g:Gh) (i off b:Nat) (hb:g.β[i]? =some b):Rel w g (.pointer (some ⟨b,off,none⟩)) (.box i off)
 |ro (g:Gh) (a:Addr) (cs:List D) (u:Nat->Value)
   (hm:∀q,q < cs.length->w.cell? (a.add q)=some (u q)/\g.S (a.add q)/\(u q).oneCell'=true)
   (hr:∀q d,cs[q]? =some d->Rel w g.er (u q) d):Rel w g (.pointer (some a)) (.ro cs)
 |own (g:Gh) (r:Nat) (v:Value) (h:g.ρ[r]? =some v):Rel w g v (.own r)
 |aD (g:Gh) (f:FuncId) (vs:Array Value) (cs:List D) (hl:vs.size=cs.length)
   (hr:∀q d,cs[q]? =some d->Rel w g (vs.getD q undef) d):Rel w g (.func (.func f) #[] vs) (.aD f cs)
 |eN (g:Gh) (b:Nat) (f:nE) (h:g.M b=some f):Rel w g (.map (some b)) (.eN f)
 |skp (g:Gh):Rel w g bH .skp
 |any (g:Gh) (v:Value) (h1:v.oneCell'=true):Rel w g v .any
 |bz (g:Gh) (i b:Nat) (hb:g.β[i]? =some b):Rel w g (.map (some b)) (.bz i)
 |a_ (g:Gh) (i off n c b:Nat) (hb:g.β[i]? =some b):Rel w g (.slice (some ⟨b,off,none⟩) n c) (.a_ i off n c)
 |dq (g:Gh) (f:FuncId) (vs:Array Value) (cs:List D) (hl:vs.size=cs.length)
   (hr:∀q d,cs[q]? =some d->Rel w g (vs.getD q undef) d):Rel w g (.func (.func f) vs #[]) (.dq f cs)
structure ep (w:World)(g:Gh)(w':World)(g':Gh):Prop where
 cell:∀x,g.S x->w'.cell? x=w.cell? x
 S:∀x,g.S x->g'.S x
 β:∀(i b:Nat),g.β[i]? =some b->g'.β[i]? =some b
 ρ:∀(i:Nat) (b:Value),g.ρ[i]? =some b->g'.ρ[i]? =some b
 M:∀(b:Nat) (f:nE),g.M b=some f->g'.M b=some f
theorem ep.refl (w:World)(g:Gh):ep w g w g:=⟨λ_ _=>rfl,λ_ h=>h,λ_ _ h=>h,λ_ _ h=>h,λ_ _ h=>h⟩
theorem ep.er {w w':World}{g g':Gh}(h:ep w g w' g'):ep w g.er w' g'.er:=
 ⟨h.cell,h.S,λ_ _ h=>h,λ_ _ h=>h,h.M⟩
theorem ep.trans {w w1 w2:World}{g g1 g2:Gh}(h:ep w g w1 g1)(k:ep w1 g1 w2 g2):ep w g w2 g2:=
 ⟨λx hx=>(k.cell x (h.S x hx)).trans (h.cell x hx),λx hx=>k.S x (h.S x hx),λi b hb=>k.β i b (h.β i b hb),λi b hb=>k.ρ i b (h.ρ i b hb),λb f hb=>k.M b f (h.M b f hb)⟩
theorem Rel.bb {w w':World}{g:Gh}{v:Value}{d:D}(h:Rel w g v d):∀{g':Gh},ep w g w' g'->Rel w' g' v d:=by
 induction h with
 |undef g v=>intros;exact .undef _ _
 |int g k n=>intros;exact .int _ _ _
 |bool g b=>intros;exact .bool _ _
 |str g s=>intros;exact .str _ _
 |val g v=>intros;exact .val _ _
 |list g A n c xs sz u hn bo fA hm hr ih=>
  intro g' k;refine .list _ A n c xs sz u hn bo fA (λq hq=> ?_) (λq d hd=>ih q d hd k.er);obtain⟨ad,rfl,hc,hS,h1⟩:=hm q hq;exact⟨ad,rfl,(k.cell _ hS).trans hc,k.S _ hS,h1⟩
 |agg g vs cs hl h1 hr ih=>intro g' k;exact .agg _ vs cs hl h1 (λq d hd=>ih q d hd k)
 |aQ g vs ds hl hr ih=>intro g' k;exact .aQ _ vs ds hl (λq d hd=>ih q d hd k)
 |box g i off b hb=>intro g' k;exact .box _ i off b (k.β _ _ hb)
 |ro g a cs u hm hr ih=>
  intro g' k;refine .ro _ a cs u (λq hq=> ?_) (λq d hd=>ih q d hd k.er);obtain⟨hc,hS,h1⟩:=hm q hq;exact⟨(k.cell _ hS).trans hc,k.S _ hS,h1⟩
 |own g r v h=>intro g' k;exact .own _ r v (k.ρ _ _ h)
 |aD g f vs cs hl hr ih=>intro g' k;exact .aD _ f vs cs hl (λq d hd=>ih q d hd k)
 |eN g b f h=>intro g' k;exact .eN _ b f (k.M _ _ h)
 |a_ g i off n c b hb=>intro g' k;exact .a_ _ i off n c b (k.β _ _ hb)
 |skp g=>intros;exact .skp _
 |any g v h1=>intros;exact .any _ v h1
 |bz g i b hb=>intro g' k;exact .bz _ i b (k.β _ _ hb)
 |dq g f vs cs hl hr ih=>intro g' k;exact .dq _ f vs cs hl (λq d hd=>ih q d hd k)
end Go.Ab
end
section
namespace Go.Ab
open Go.RowKit
structure Row where
 live:Bool
 e:TypeId
 sz:Nat
 xs:List D
 deriving Inhabited
inductive Bx where
 |dead
 |mu (cs:List D)
 |fz (cs:List D)
 |mp (es:List (D×D))
 deriving Inhabited
structure St where
 n:Nat
 sl:Nat->D
 bx:List Bx
 rw:List Row
def put (s:Nat->D)(n:Nat)(v:D):Nat->D:=λm=>if m=n then v else s m
def eC:Nat->D:=λ_=> .undef
theorem dN (s:Nat->D)(n:Nat)(v:D):put s n v n=v:=by simp[put]
theorem YF (s:Nat->D)(n m:Nat)(v:D)(h:(m == n)=false):put s n v m=s m:=by
 have:m≠n:=by simpa using h
 simp[put,this]
structure Ctx where
 P:Program
 w0:World
 S0:Addr->Prop
 M0:MM
 l:Option Nat
 own:Nat->Prop
 β0:List Nat
def Ctx.F (c:Ctx):Fence:={Fence.wide with round:=c.l}
def dQ:Bool->List Int->Value
 |true,xs=> .agg (xs.map (gX .i64)).toArray
 |false,xs=> .int .i64 (xs.headD 0)
def AL:Bool->List Int->D
 |true,xs=> .agg (xs.map (D.int .i64))
 |false,xs=> .int .i64 (xs.headD 0)
def rJ:VK->List Int->Value
 | .arr,xs=>dQ true xs
 | .num,xs=>dQ false xs
 | .yes,xs=> .bool (xs.headD 0 !=0)
def uG:VK->List Int->D
 | .arr,xs=>AL true xs
 | .num,xs=>AL false xs
 | .yes,xs=> .bool (xs.headD 0 !=0)
def ZL (w:World)(b:Nat)(f:nE):Prop:=∃es clock,w.heap[b]? =some (.map es clock)/\(∀e∈es.toList,∃xs:List Int,xs.length=f.n/\e.key=dQ f.ka xs/\e.val=rJ f.va (f.f xs))/\∀k∈f.tI,∃e∈es.toList,e.key=dQ f.ka k
def iN (w:World)(M:MM):Prop:=∀b f,M b=some f->ZL w b f
structure mK (p:Nat->Prop)(B:Nat)(w w':World):Prop where
 os:w'.os=w.os
 tape:w'.tape=w.tape
 output:w'.output=w.output
 size:w.heap.size<=w'.heap.size
 block:∀k,k < B->¬p k->w'.heap[k]? =w.heap[k]?
abbrev qg (M:MM):Nat->World->World->Prop:=mK λk=>M k≠none
def Ctx.may (c:Ctx):Nat->Prop:=λk=>c.own k\/c.M0 k≠none
theorem qg.at {M:MM}{B:Nat}{w w':World}(h:qg M B w w')(k:Nat)(hk:k < B)(hn:M k=none):w'.heap[k]? =w.heap[k]? :=h.block k hk (λh=>h hn)
theorem mK.of {p:Nat->Prop}{B:Nat}{w w':World}(h:Below B w w'):mK p B w w':=⟨h.os,h.tape,h.output,h.size,λk hk _=>h.block k hk⟩
theorem mK.trans {p q:Nat->Prop}{B B':Nat}{a b c:World}(h:mK p B a b)(k:mK q B' b c)(hB:B<=B')(hq:∀i,i < B->q i->p i):mK p B a c:=
 ⟨k.os.trans h.os,k.tape.trans h.tape,k.output.trans h.output,Nat.le_trans h.size k.size,λi hi hn=>(k.block i ag (λh=>hn (hq i hi h))).trans (h.block i hi hn)⟩
theorem si {w:World}{x:Addr}{u:Value}(h:w.cell? x=some u):∃cs t fz,w.heap[x.block]? =some (.cells cs t fz):=by
 unfold World.cell? at h;split at h
 ·exact⟨_,_,_,‹_›⟩
 ·cases h
theorem iN.uD {w:World}{M:MM}(h:iN w M){b:Nat}{cs:Array Value}{t:TypeId}{fz:Nat×Nat}(hb:w.heap[b]? =some (.cells cs t fz)):M b=none:=by
 cases hm:M b with
 |none=>rfl
 |some f=>
  obtain⟨es,cl,h1,_⟩:=h b f hm;rw[hb]at h1;cases h1
theorem iN.uC {w:World}{M:MM}(h:iN w M){b:Nat}{ds:Option (List Deferred)}(hb:w.heap[b]? =some (.deferred ds)):M b=none:=by
 cases hm:M b with
 |none=>rfl
 |some f=>
  obtain⟨es,cl,h1,_⟩:=h b f hm;rw[hb]at h1;cases h1
def zS (own:Nat->Prop)(w:World)(l:List Deferred):Prop:=l.Nodup/\∀d∈l,∃D,own D/\d={target:= .collected D,args:=#[]}/\w.heap[D]? =some (.deferred (some []))
structure Grow (w:World)(S:Addr->Prop)(M:MM)(w':World)(S':Addr->Prop)(M':MM):Prop where
 below:qg M w.heap.size w w'
 s1:∀x,S x->S' x
 s2:∀x,S' x->S x\/w.heap.size<=x.block
 m1:∀b f,M b=some f->M' b=some f
 m2:∀b f,M' b=some f->M b=some f\/w.heap.size<=b
 cb:iN w' M'
structure xv (w0:World)(may:Nat->Prop):Prop where
 tb:jG w0
 no:∀b vs,Af b=some vs->¬may b
theorem xv.at {w0 w:World}{may:Nat->Prop}(h:xv w0 may)(hb:mK may w0.heap.size w0 w):jG w:=λb vs hv=>by
 obtain⟨t,fz,e⟩:=h.tb b vs hv;exact⟨t,fz,(hb.block b (bJ.1 e).1 (h.no b vs hv)).trans e⟩
theorem jG.rH {w:World}{M:MM}(h:jG w)(hM:iN w M):∀b vs,Af b=some vs->M b=none:=λb vs hv=>by
 obtain⟨t,fz,e⟩:=h b vs hv;exact hM.uD e
theorem jG.lt {w:World}(h:jG w):∀b vs,Af b=some vs->b < w.heap.size:=λb vs hv=>by
 obtain⟨t,fz,e⟩:=h b vs hv;exact(bJ.1 e).1
theorem jG.grow {w w':World}{S S':Addr->Prop}{M M':MM}(h:jG w)(hM:iN w M)(hg:Grow w S M w' S' M'):jG w':=λb vs hv=>by
 obtain⟨t,fz,e⟩:=h b vs hv;exact⟨t,fz,(hg.below.at b (h.lt b vs hv) (h.rH hM b vs hv)).trans e⟩
theorem xv.own {w0 w:World}{may own:Nat->Prop}{M:MM}(h:xv w0 may)(hb:mK may w0.heap.size w0 w)(hM:iN w M)(ho:∀b,own b->w.heap.size<=b\/may b):xv w (λk=>own k\/M k≠none):=
 ⟨h.at hb,λb vs hv hm=>hm.elim (λhm=>(ho b hm).elim (λhl=>absurd ((h.at hb).lt b vs hv) (Nat.not_lt.2 hl)) (h.no b vs hv)) (λhm=>hm ((h.at hb).rH hM b vs hv))⟩
theorem jG.fresh {w:World}{M:MM}(h:jG w)(hM:iN w M):xv w (λk=>w.heap.size<=k\/M k≠none):=
 ⟨h,λb vs hv hm=>hm.elim (λhl=>absurd (h.lt b vs hv) (Nat.not_lt.2 hl)) (λhm=>hm (h.rH hM b vs hv))⟩
structure Ext (c:Ctx)(a:Act)(w:World)(g:Gh):Prop where
 cW:zS c.own w a.defers
 cb:iN w g.M
 m0:∀b f,c.M0 b=some f->g.M b=some f
 fX:∀b f,g.M b=some f->c.M0 b=some f\/c.w0.heap.size<=b
 eV:∀(i b:Nat),c.β0[i]? =some b->g.β[i]? =some b
 iA:∀x,c.S0 x->w.cell? x=c.w0.cell? x
 fj:xv c.w0 c.may
theorem Ext.bb {c:Ctx}{a:Act}{w w':World}{g:Gh}(h:Ext c a w g)(hk:∀(k:Nat) (o:Obj),w.heap[k]? =some o->o.isCells=false->w'.heap[k]? =some o)(hs:∀x,c.S0 x->w'.cell? x=w.cell? x):Ext c a w' g where
 cW:=⟨h.cW.1,λd hd=>by
  obtain⟨D,hB,e,hD⟩:=h.cW.2 d hd;exact⟨D,hB,e,hk D _ hD rfl⟩⟩
 cb b f hb:=by
  obtain⟨es,cl,h1,h2⟩:=h.cb b f hb;exact⟨es,cl,hk b _ h1 rfl,h2⟩
 m0:=h.m0
 fX:=h.fX
 eV:=h.eV
 iA x hx:=(hs x hx).trans (h.iA x hx)
 fj:=h.fj
theorem Ext.gh {c:Ctx}{a:Act}{w:World}{g g':Gh}(h:Ext c a w g)(e:g'.M=g.M)(hβ:∀(i b:Nat),c.β0[i]? =some b->g.β[i]? =some b->g'.β[i]? =some b:=by exact λ_ _ _ h=>h):Ext c a w g':=⟨h.cW,e▸h.cb,e▸h.m0,e▸h.fX,λi b hb=>hβ i b hb (h.eV i b hb),h.iA,h.fj⟩
theorem Ext.put {c:Ctx}{a:Act}{w:World}{g:Gh}(h:Ext c a w g)(dst:Option Tmp)(v:Value):Ext c (a.put dst v) w g:=⟨by cases dst<;>exact h.cW,h.cb,h.m0,h.fX,h.eV,h.iA,h.fj⟩
def Good (w:World)(S:Addr->Prop):Prop:=∀x,S x->∃u,w.cell? x=some u
theorem Good.lt {w:World}{S:Addr->Prop}(h:Good w S){x:Addr}(hx:S x):x.block < w.heap.size:=by
 obtain⟨u,hu⟩:=h x hx;exact World.block_lt_of_cell? w x hu
def fF (w:World)(g:Gh)(vs:Array Value)(cs:List D):Prop:=
 vs.size=cs.length/\∀q d,cs[q]? =some d->Rel w g (vs.getD q undef) d/\(vs.getD q undef).oneCell'=true
theorem fF.bb {w w':World}{g g':Gh}{vs:Array Value}{cs:List D}(h:fF w g vs cs)(k:ep w g w' g'):fF w' g' vs cs:=
 ⟨h.1,λq d hd=>⟨(h.2 q d hd).1.bb k,(h.2 q d hd).2⟩⟩
def nk (n:Nat):Bool->Nat×Nat
 |false=>(0,0)
 |true=>(n,n + 1)
structure Tq (c:Ctx)(w:World)(g:Gh)(i:Nat)(mu:Bool)(cs:List D):Prop where
 ex:∃(b:Nat) (vs:Array Value) (t:TypeId×Bool),g.β[i]? =some b/\w.heap[b]? =some (.cells vs t.1 (nk vs.size t.2))/\fF w (if mu then g else g.er) vs cs/\c.own b/\
  (mu=true->∀x,g.S x->x.block≠b)/\(mu=false->∀q,q < cs.length->g.S ⟨b,q,none⟩)
structure agN (c:Ctx)(w:World)(g:Gh)(r:Nat)(row:Row):Prop where
 ex:∃v,g.ρ[r]? =some v/\Rel w g v (.list row.xs)/\
  (row.live=true->(∃vals,w.ownsRow 0 row.e row.sz v row.xs.length vals)/\(∀x∈row.xs,x.cells.length=row.sz)/\
   ∀gb,v.ownBlock=some gb->c.own gb/\∀x,g.S x->x.block=gb->x.off < row.xs.length * row.sz)
def Gh.mg (g:Gh):Gh:=⟨g.S,g.β,[],g.M⟩
theorem ep.mg {w w':World}{g g':Gh}(k:ep w g w' g'):ep w g.mg w' g'.mg:=⟨k.cell,k.S,k.β,λ_ _ h=>h,k.M⟩
structure mF (c:Ctx)(w:World)(g:Gh)(i b:Nat)(es:List (D×D)):Prop where
 β:g.β[i]? =some b
 ex:∃ms cl,w.heap[b]? =some (.map ms cl)/\ms.size=es.length/\∀(q:Nat) (p:D×D) (m:MapEntry),es[q]? =some p->ms[q]? =some m->Rel w g.mg m.key p.1/\Rel w g.mg m.val p.2
 nm:g.M b=none
 own:c.own b
 i_:∀ms cl,w.heap[b]? =some (.map ms cl)->(∀(p q:Nat) (m m':MapEntry),ms[p]? =some m->ms[q]? =some m'->m.key=m'.key->p=q)/\∀m∈ms.toList,m.born < cl
theorem mF.Dh {c:Ctx}{w w':World}{g g':Gh}{i b:Nat}{es:List (D×D)}(h:mF c w g i b es)(k:ep w g.mg w' g'.mg)(hb:w'.heap[b]? =w.heap[b]?)(hm:g'.M b=none):mF c w' g' i b es:=
 ⟨k.β _ _ h.β,by
  obtain⟨ms,cl,h1,h2,h3⟩:=h.ex;exact⟨ms,cl,hb.trans h1,h2,λq p m hp hq=>⟨(h3 q p m hp hq).1.bb k,(h3 q p m hp hq).2.bb k⟩⟩,hm,h.own,λms cl hh=>h.i_ ms cl (hb▸hh)⟩
theorem mF.bb {c:Ctx}{w w':World}{g g':Gh}{i b:Nat}{es:List (D×D)}(h:mF c w g i b es)(k:ep w g w' g')(hb:w'.heap[b]? =w.heap[b]?)(hm:g'.M b=none):mF c w' g' i b es:=h.Dh k.mg hb hm
def eb (W:World)(b:Nat):Prop:=(∃cs t fz,W.heap[b]? =some (.cells cs t fz))\/∃ms cl,W.heap[b]? =some (.map ms cl)
theorem mF.Bg {c:Ctx}{w:World}{g:Gh}{i b:Nat}{es:List (D×D)}(h:mF c w g i b es):eb w b:=by
 obtain⟨ms,cl,h1,_⟩:=h.ex;exact .inr ⟨ms,cl,h1⟩
theorem eb.not {W:World}{b:Nat}{o:Obj}(h:W.heap[b]? =some o)(h1:o.isCells=false)(h2:∀ms cl,o≠ .map ms cl):¬eb W b:=λhh=>by
 rcases hh with⟨cs,t,fz,e⟩|⟨ms,cl,e⟩
 ·rw[h]at e;cases e;cases h1
 ·rw[h]at e;cases e;exact h2 _ _ rfl
theorem mF.lt {c:Ctx}{w:World}{g:Gh}{i b:Nat}{es:List (D×D)}(h:mF c w g i b es):b < w.heap.size:=by
 obtain⟨ms,cl,h1,_⟩:=h.ex;exact(bJ.1 h1).1
theorem mF.ctx {c c':Ctx}{w:World}{g:Gh}{i b:Nat}{es:List (D×D)}(h:mF c w g i b es)(ho:c'.own b):mF c' w g i b es:=⟨h.β,h.ex,h.nm,ho,h.i_⟩
def Bx.live:Bx->Bool
 | .dead=>false
 |_=>true
def Jc (s:St)(g:Gh)(κ:Nat->Nat⊕Nat):Prop:=
 (∀(i:Nat) (x:Bx) (b:Nat),s.bx[i]? =some x->x.live=true->g.β[i]? =some b->κ b= .inl i)/\
 (∀(r:Nat) (row:Row) (v:Value) (gb:Nat),s.rw[r]? =some row->row.live=true->g.ρ[r]? =some v->v.ownBlock=some gb->κ gb= .inr r)
structure RG (c:Ctx)(s:St)(a:Act)(w:World)(g:Gh):Prop where
 df:Ext c a w g
 sz:a.tmps.size=s.n
 below:mK c.may c.w0.heap.size c.w0 w
 cY:∀b,c.w0.heap.size<=b->c.own b
 bt:Good w g.S
 eD:∀x,g.S x->c.S0 x\/c.own x.block
 S0:∀x,c.S0 x->g.S x
 fU:Good c.w0 c.S0
 lβ:g.β.length=s.bx.length
 lρ:g.ρ.length=s.rw.length
 sl:∀n,Rel w g (a.tmps.getD n undef) (s.sl n)
 bx:∀i cs,s.bx[i]? =some (.mu cs)->Tq c w g i true cs
 fz:∀i cs,s.bx[i]? =some (.fz cs)->Tq c w g i false cs
 rw:∀r row,s.rw[r]? =some row->agN c w g r row
 ap:∃κ,Jc s g κ
 mp:∀i es,s.bx[i]? =some (.mp es)->∃b,mF c w g i b es
def R (c:Ctx)(s:St)(a:Act)(w:World):Prop:=∃g,RG c s a w g
def az (c:Ctx)(code:Code)(Q:Exit->St->Prop)(s:St):Prop:=
 ∀a w,R c s a w->code.wpIn c.F 0 c.P (λe a' w'=>∃s',R c s' a' w'/\Q e s') a w
section rules
variable {c:Ctx} {Q:Exit->St->Prop} {s:St}
theorem az.mono {code:Code}{Q':Exit->St->Prop}(h:az c code Q s)(hq:∀e s,Q e s->Q' e s):az c code Q' s:=
 λa w hr=>wpIn_mono (h a w hr) λ_ _ _ ⟨s',r,q⟩=>⟨s',r,hq _ _ q⟩
theorem Iu (h:Q .normal s):az c .skip Q s:=λ_ _ hr=>wpIn_skip ⟨s,hr,h⟩
theorem IB {id:Nat}(h:Q (.exit id) s):az c (.exit id) Q s:=λ_ _ hr=>wpIn_exit ⟨s,hr,h⟩
theorem oo (h:Q .ret s):az c .ret Q s:=λ_ _ hr=>wpIn_ret ⟨s,hr,h⟩
def cF (K:St->Prop)(Q:Exit->St->Prop):Exit->St->Prop
 | .normal,s=>K s
 |e,s=>Q e s
def dn (id:Nat)(Q:Exit->St->Prop):Exit->St->Prop
 | .exit j6,s=>if j6=id then Q .normal s else Q (.exit j6) s
 |e,s=>Q e s
theorem Ew {x y:Code}(h:az c x (cF (az c y Q) Q) s):az c (.seq x y) Q s:=by
 intro a w hr;refine wpIn_seq (wpIn_mono (h a w hr) ?_);rintro e a' w' ⟨s',r,q⟩;cases e with
 |normal=>exact q a' w' r
 |exit id=>exact⟨s',r,q⟩
 |goto l=>exact⟨s',r,q⟩
 |ret=>exact⟨s',r,q⟩
 |panic ch=>exact⟨s',r,q⟩
 |outgrown=>exact⟨s',r,q⟩
theorem ID {id:Nat}{x:Code}(h:az c x (dn id Q) s):az c (.block id x) Q s:=by
 intro a w hr;refine wpIn_block (wpIn_mono (h a w hr) ?_);rintro e a' w' ⟨s',r,q⟩;cases e with
 |normal=>exact⟨s',r,q⟩
 |exit j6=>
  simp only[dn]at q;simp only[Exit.inBlock];split at q
  ·rw[if_pos (by assumption)];exact⟨s',r,q⟩
  ·rw[if_neg (by assumption)];exact⟨s',r,q⟩
 |goto l=>exact⟨s',r,q⟩
 |ret=>exact⟨s',r,q⟩
 |panic ch=>exact⟨s',r,q⟩
 |outgrown=>exact⟨s',r,q⟩
end rules
end Go.Ab
end
section
namespace Go.Ab
open Go.RowKit
theorem CA {ι:Type}{F:Fence}{n:Nat}{P:Program}{Q:Exit->Act->World->Prop}{c:Code}(I:ι->Act->World->Prop)(μ:ι->Nat)
  (round:∀i a w,I i a w->c.wpIn F n P (Exit.then (λa' w'=>∃j,I j a' w'/\μ j < μ i) Q) a w){a:Act}{w:World}(i0:ι)(h₀:I i0 a w):(Code.loop c).wpIn F n P Q a w:=by
 intro b k cs wy hb hr;have key:∀n i a w,μ i=n->I i a w->
   ∃e a' w',Q e a' w'/\ArrivesIn (Machine.fenced P F) P (lone (b.atR a (.code c:: .inLoop c::k)) cs w) b k cs e a' w':=by
  intro n;induction n using Nat.strongRecOn with
  |_ n ih=>
   intro i a w hn hI;obtain⟨e,a₁,w₁,hq,nj⟩:=round i a w hI b (.inLoop c::k) cs wy hb hr;cases e with
   |normal=>
    obtain⟨j,acs,aU⟩:=hq;obtain⟨e₂,a₂,w₂,abz,acj⟩:=ih (μ j) (hn▸aU) j a₁ w₁ rfl acs;exact⟨e₂,a₂,w₂,abz, .of_steps (StepsIn.trans nj (.one (fenced_calm hb hr rfl) stepR_inLoop)) acj⟩
   |exit id=>exact⟨_,a₁,w₁,hq, .pass (x:= .inLoop c) rfl (λ_ _=> .inl ay) nj⟩
   |goto l=>exact⟨_,a₁,w₁,hq, .pass (x:= .inLoop c) rfl (λ_ _=> .inl ay) nj⟩
   |ret=>exact⟨_,a₁,w₁,hq, .pass (x:= .inLoop c) rfl (λ_ _=> .inl ay) nj⟩
   |panic ch=>exact⟨_,a₁,w₁,hq, .pass (x:= .inLoop c) rfl (λ_ _=> .inl ay) nj⟩
   |outgrown=>exact⟨_,a₁,w₁,hq, .pass (x:= .inLoop c) rfl (λ_ _=> .inl ay) nj⟩
 obtain⟨e,a',w',hq,nj⟩:=key _ i0 a w rfl h₀;exact⟨e,a',w',hq, .of_steps (.one (fenced_calm hb hr rfl) stepR_loop) nj⟩
structure Le (s s':St):Prop where
 n:s'.n=s.n
 sl:∀m,s'.sl m= .undef\/s.sl m=s'.sl m
 bx:∃t,s.bx=s'.bx++t
 rw:∃t,s.rw=s'.rw++t
inductive Names (nb nr:Nat):D->Prop
 |undef:Names nb nr .undef
 |int (k:IntKind) (n:Int):Names nb nr (.int k n)
 |bool (b:Bool):Names nb nr (.bool b)
 |str (s:ByteArray):Names nb nr (.str s)
 |val (v:Value):Names nb nr (.val v)
 |list (xs:List D):Names nb nr (.list xs)
 |agg (cs:List D) (h:∀d∈cs,Names nb nr d):Names nb nr (.agg cs)
 |aQ (cs:List D) (h:∀d∈cs,Names nb nr d):Names nb nr (.aQ cs)
 |box (i off:Nat) (h:i < nb):Names nb nr (.box i off)
 |ro (cs:List D):Names nb nr (.ro cs)
 |own (r:Nat) (h:r < nr):Names nb nr (.own r)
 |aD (f:FuncId) (cs:List D) (h:∀d∈cs,Names nb nr d):Names nb nr (.aD f cs)
 |eN (f:nE):Names nb nr (.eN f)
 |a_ (i off n c:Nat) (h:i < nb):Names nb nr (.a_ i off n c)
 |skp:Names nb nr .skp
 |any:Names nb nr .any
 |bz (i:Nat) (h:i < nb):Names nb nr (.bz i)
 |dq (f:FuncId) (cs:List D) (h:∀d∈cs,Names nb nr d):Names nb nr (.dq f cs)
theorem Rel.cut {w:World}{g:Gh}{v:Value}{d:D}(h:Rel w g v d){nb nr:Nat}(hN:Names nb nr d):
  Rel w ⟨g.S,g.β.take nb,g.ρ.take nr,g.M⟩ v d:=by
 induction h with
 |undef g v=>exact .undef _ _
 |int g k n=>exact .int _ _ _
 |bool g b=>exact .bool _ _
 |str g s=>exact .str _ _
 |val g v=>exact .val _ _
 |list g A n c xs sz u hn bo fA hm hr ih=>exact .list _ A n c xs sz u hn bo fA hm hr
 |agg g vs cs hl h1 hr ih=>
  cases hN with
  |agg _ h=>exact .agg _ vs cs hl h1 (λq d hd=>ih q d hd (h d (fM hd)))
 |aQ g vs ds hl hr ih=>
  cases hN with
  |aQ _ h=>exact .aQ _ vs ds hl (λq d hd=>ih q d hd (h d (fM hd)))
 |box g i off b hb=>
  cases hN with
  |box _ _ h=>exact .box _ i off b (by simp only[ib,h,if_true];exact hb)
 |ro g a cs u hm hr ih=>exact .ro _ a cs u hm hr
 |own g r v h=>
  cases hN with
  |own _ h'=>exact .own _ r v (by simp only[ib,h',if_true];exact h)
 |aD g f vs cs hl hr ih=>
  cases hN with
  |aD _ _ h=>exact .aD _ f vs cs hl (λq d hd=>ih q d hd (h d (fM hd)))
 |eN g b f h=>exact .eN _ b f h
 |skp g=>exact .skp _
 |any g v h1=>exact .any _ v h1
 |bz g i b hb=>
  cases hN with
  |bz _ h=>exact .bz _ i b (by simp only[ib,h,if_true];exact hb)
 |dq g f vs cs hl hr ih=>
  cases hN with
  |dq _ _ h=>exact .dq _ f vs cs hl (λq d hd=>ih q d hd (h d (fM hd)))
 |a_ g i off n c b hb=>
  cases hN with
  |a_ _ _ _ _ h=>exact .a_ _ i off n c b (by simp only[ib,h,if_true];exact hb)
def Bx.Db (nb nr:Nat):Bx->Prop
 | .mu cs=>∀d∈cs,Names nb nr d
 | .mp es=>∀p∈es,Names nb 0 p.1/\Names nb 0 p.2
 |_=>True
def St.named (s:St):Prop:=
 (∀m,Names s.bx.length s.rw.length (s.sl m))/\∀(i:Nat) (x:Bx),s.bx[i]? =some x->x.Db s.bx.length s.rw.length
theorem RG.le {c:Ctx}{s s':St}{a:Act}{w:World}{g:Gh}(h:RG c s a w g)(hl:Le s s')(hn:s'.named)(h0:c.β0.length<=s'.bx.length):RG c s' a w ⟨g.S,g.β.take s'.bx.length,g.ρ.take s'.rw.length,g.M⟩:=by
 obtain⟨tb,hb⟩:=hl.bx;obtain⟨tr,hr⟩:=hl.rw;have kc:∀(i:Nat) (x:Bx),s'.bx[i]? =some x->s.bx[i]? =some x:=λi x hx=>by
  rw[hb,cZ (by have:=(bm.1 hx).1;omega)];exact hx
 have pI:∀(i:Nat) (x:Row),s'.rw[i]? =some x->s.rw[i]? =some x:=λi x hx=>by
  rw[hr,cZ (by have:=(bm.1 hx).1;omega)];exact hx
 have lb:s'.bx.length<=g.β.length:=by rw[h.lβ,hb];simp
 have lr:s'.rw.length<=g.ρ.length:=by rw[h.lρ,hr];simp
 have hβ:∀(i b:Nat),i < s'.bx.length->g.β[i]? =some b->(g.β.take s'.bx.length)[i]? =some b:=λi b hi hb=>by
  simp only[ib,hi,if_true];exact hb
 have hρ:∀(i:Nat) (b:Value),i < s'.rw.length->g.ρ[i]? =some b->(g.ρ.take s'.rw.length)[i]? =some b:=λi b hi hb=>by
  simp only[ib,hi,if_true];exact hb
 refine⟨h.df.gh rfl (λi b hc hb=>hβ i b (Nat.lt_of_lt_of_le (bm.1 hc).1 h0) hb),by rw[h.sz,hl.n],h.below,h.cY,h.bt,h.eD,h.S0,h.fU,by simp;omega,by simp;omega, ?_, ?_, ?_, ?_, ?_, ?_⟩
 ·intro m;rcases hl.sl m with e|e
  ·rw[e];exact .undef _ _
  ·have:=h.sl m;rw[e]at this;exact this.cut (hn.1 m)
 ·intro i cs hi;obtain⟨b,vs,t,e1,e2,e3,e4,e5,e6⟩:=(h.bx i cs (kc i _ hi)).ex;have en:=(bm.1 hi).1;exact⟨b,vs,t,hβ i b en e1,e2,⟨e3.1,λq d hd=>⟨(e3.2 q d hd).1.cut (hn.2 i _ hi d (fM hd)),(e3.2 q d hd).2⟩⟩,e4,e5,e6⟩
 ·intro i cs hi;obtain⟨b,vs,t,e1,e2,e3,e4,e5,e6⟩:=(h.fz i cs (kc i _ hi)).ex;have en:=(bm.1 hi).1;exact⟨b,vs,t,hβ i b en e1,e2,e3,e4,e5,e6⟩
 ·intro r row hi;obtain⟨v,e1,e2,e3⟩:=(h.rw r row (pI r _ hi)).ex;have en:=(bm.1 hi).1;exact⟨v,hρ r v en e1,e2.cut (.list _),e3⟩
 ·obtain⟨κ,k1,k2⟩:=h.ap;refine⟨κ,λi x b hi hx hb=>k1 i x b (kc i _ hi) hx ?_,λr row v gb hi hl hv=>k2 r row v gb (pI r _ hi) hl ?_⟩
  ·have en:=(bm.1 hi).1;simp only[ib,en,if_true]at hb;exact hb
  ·have en:=(bm.1 hi).1;simp only[ib,en,if_true]at hv;exact hv
 ·intro i es hi;obtain⟨b,hm⟩:=h.mp i es (kc i _ hi);refine⟨b, ?_⟩;have en:=(bm.1 hi).1;obtain⟨ms,cl,h1,h2,h3⟩:=hm.ex;have Rv:∀{v:Value} {d:D},Rel w g.mg v d->Names s'.bx.length 0 d->Rel w (Gh.mg ⟨g.S,g.β.take s'.bx.length,g.ρ.take s'.rw.length,g.M⟩) v d:=λhr hn=>hr.cut hn;exact⟨hβ i b en hm.β,⟨ms,cl,h1,h2,λq p m hp hq=>⟨Rv (h3 q p m hp hq).1 (hn.2 i _ hi p (fM hp)).1,Rv (h3 q p m hp hq).2 (hn.2 i _ hi p (fM hp)).2⟩⟩,hm.nm,hm.own,hm.i_⟩
theorem R.le {c:Ctx}{s s':St}{a:Act}{w:World}(h:R c s a w)(hl:Le s s')(hn:s'.named)(h0:c.β0.length<=s'.bx.length):R c s' a w:=by
 obtain⟨g,h⟩:=h;exact⟨_,h.le hl hn h0⟩
theorem k_ {c:Ctx}{code:Code}{Q:Exit->St->Prop}{s:St}(s':St)(hl:Le s s')(hn:s'.named)(h0:c.β0.length<=s'.bx.length)(h:az c code Q s'):az c code Q s:=
 λa w hr=>h a w (hr.le hl hn h0)
theorem agH {c:Ctx}{body:Code}{Q:Exit->St->Prop}{s:St}{ι:Type}(I:ι->St)(p:ι->Prop)(μ:ι->Nat)(hn:∀i,p i->(I i).named)(hβ:∀i,p i->c.β0.length<=(I i).bx.length)
  (i0:ι)(h0:p i0)(hle:Le s (I i0))
  (round:∀i,p i->az c body (cF (λs'=>∃j,p j/\μ j < μ i/\Le s' (I j)) Q) (I i)):az c (.loop body) Q s:=by
 intro a w hr;refine CA (λi a w=>p i/\R c (I i) a w) μ (λi a w ⟨hp,hr⟩=> ?_) i0 ⟨h0,hr.le hle (hn i0 h0) (hβ i0 h0)⟩;refine wpIn_mono (round i hp a w hr) ?_;rintro e a' w' ⟨s',r,q⟩;cases e with
 |normal=>obtain⟨j,hj,aU,hl⟩:=q;exact⟨j,⟨hj,r.le hl (hn j hj) (hβ j hj)⟩,aU⟩
 |exit id=>exact⟨s',r,q⟩
 |goto l=>exact⟨s',r,q⟩
 |ret=>exact⟨s',r,q⟩
 |panic ch=>exact⟨s',r,q⟩
 |outgrown=>exact⟨s',r,q⟩
theorem Rel.asBool {w:World}{g:Gh}{v:Value}{b:Bool}(h:Rel w g v (.bool b)):v= .bool b:=by cases h;rfl
def tJ:Value->D
 | .int k n=> .int k n
 | .bool b=> .bool b
 | .string s=> .str s
 |v=> .val v
theorem CX (w:World)(g:Gh)(v:Value):Rel w g v (tJ v):=by
 cases v<;>first|exact .int _ _ _|exact .bool _ _|exact .str _ _|exact .val _ _
def St.ev (s:St):Operand->D
 | .tmp t=>s.sl t
 | .const v=>tJ v
 | .global g=> .val (.pointer (some ⟨g,0,none⟩))
 | .func f=> .aD f []
theorem RG.ev {c:Ctx}{s:St}{a:Act}{w:World}{g:Gh}(h:RG c s a w g)(x:Operand):Rel w g (a.eval x) (s.ev x):=by
 cases x with
 |tmp t=>exact h.sl t
 |const v=>exact CX _ _ _
 |global g=>exact .val _ _
 |func f=>exact .aD _ f #[] [] rfl (λq d hd=>by simp at hd)
theorem agK {c:Ctx}{x:Operand}{t e:Code}{Q:Exit->St->Prop}{s:St}(b:Bool)(hb:s.ev x= .bool b)
  (ht:b=true->az c t Q s)(he:b=false->az c e Q s):az c (.cond x t e) Q s:=by
 intro a w hr;have hg:=hr;obtain⟨g,hg⟩:=hg;have hv:=hg.ev x;rw[hb]at hv;have:=hv.asBool;exact wpIn_cond_split this (λh=>ht h a w hr) (λh=>he h a w hr)
end Go.Ab
end
section
namespace Go.Ab
open Go.RowKit
def jV:IntKind->Int->Prop
 | .i8,n=> -128<=n/\n<=127
 | .i16,n=> -32768<=n/\n<=32767
 | .i32,n=> -2147483648<=n/\n<=2147483647
 | .i64,n=> -9223372036854775808<=n/\n<=9223372036854775807
 | .u8,n=>0<=n/\n<=255
 | .u16,n=>0<=n/\n<=65535
 | .u32,n=>0<=n/\n<=4294967295
 | .u64,n=>0<=n/\n<=18446744073709551615
theorem jV.wrap {k:IntKind}{n:Int}(h:jV k n):k.wrap n=n:=by
 cases k<;>simp only[jV]at h<;>simp[IntKind.wrap,IntKind.bits,IntKind.signed]<;>omega
def jk:List D->Option (List Int)
 |[]=>some []
 | .int .i64 n::cs=>(jk cs).map (n::·)
 |_=>none
def lg (d:D)(k:Bool->Prop):Prop:=match d with| .bool b=>k b|_=>False
def jx (d:D)(k:IntKind->Int->Prop):Prop:=match d with| .int a n=>k a n|_=>False
def iI (x y:D)(k:IntKind->Int->Int->Prop):Prop:=jx x λa n=>jx y λb m=>a=b/\k a n m
def uo (d:D)(k:List D->Prop):Prop:=match d with| .agg cs=>k cs|_=>False
def rn (d:D)(k:List D->Prop):Prop:=match d with| .aQ cs=>k cs|_=>False
def bn {α:Type}(x:Option α)(k:α->Prop):Prop:=match x with|some a=>k a|none=>False
def Tn (P:Program)(t:TypeId)(n:Nat):Prop:=P.eqGuardType P.depth t=false/\∀(xs ys:List Int) (w:World),xs.length=n->ys.length=n->
 (binOp .eql t (.agg (xs.map (gX .i64)).toArray) (.agg (ys.map (gX .i64)).toArray)).run P w= .ok (.bool (decide (xs=ys))) w/\
 (binOp .neq t (.agg (xs.map (gX .i64)).toArray) (.agg (ys.map (gX .i64)).toArray)).run P w= .ok (.bool (!decide (xs=ys))) w
def zk (P:Program)(t:TypeId):Bool:=match P.underlying t with|some (.slice _)=>true|_=>false
def rO (P:Program)(t:TypeId):Bool:=match P.underlying t with|some (.pointer _)=>true|_=>false
theorem Gw {P:Program}{t:TypeId}(h:rO P t=true):∃e,P.underlying t=some (.pointer e):=by
 unfold rO at h;split at h
 ·exact⟨_,by assumption⟩
 ·cases h
def nI (P:Program)(t:TypeId)(x y:D)(k:Bool->Prop):Prop:=match x,y with
 | .int a n, .int b m=>a=b/\k (decide (n=m))
 | .bool a, .bool b=>P.underlying t=some .bool/\k (a == b)
 | .str a, .str b=>k (a.toList == b.toList)
 | .list xs, .val (.slice none 0 0)=>zk P t=true/\xs≠[]/\(∀x∈xs,x.cells≠[])/\k false
 | .val (.slice none 0 0), .val (.slice none 0 0)=>zk P t=true/\k true
 | .box _ _, .val (.pointer none)=>rO P t=true/\k false
 | .ro _, .val (.pointer none)=>rO P t=true/\k false
 | .val (.pointer none), .val (.pointer none)=>rO P t=true/\k true
 | .agg cs, .agg ds=>bn (jk cs) λxs=>bn (jk ds) λys=>xs.length=ys.length/\Tn P t xs.length/\k (decide (xs=ys))
 |_,_=>False
def lO (bx:List Bx)(i:Nat)(k:List D->Prop):Prop:=match bx[i]? with
 |some (.mu cs)=>k cs
 |some (.fz cs)=>k cs
 |_=>False
def lM (rw:List Row)(d:D)(k:List D->Prop):Prop:=match d with
 | .list xs=>k xs
 | .own r=>match rw[r]? with|some row=>k row.xs|none=>False
 |_=>False
def sF (xs:List D)(n:Int)(k:D->Prop):Prop:=0<=n/\∃d,xs[n.toNat]? =some d/\k d
def aJ (P:Program)(t:TypeId):Nat:=P.cellsOf t
def cM (P:Program)(t:TypeId):Option Bool:=match P.underlying t with|some (.struct _)=>some true|some (.array _ _)=>some true|some _=>some false|none=>none
def bq (P:Program)(t:TypeId)(f:Nat):Option (Nat×TypeId):=match P.underlying t with
 |some (.struct fs)=>match fs[f]? with
  |some fd=>if P.cellsOf fd.type=0 then none else some (fd.offset,fd.type)
  |none=>none
 |_=>none
def elemOf (P:Program)(t:TypeId):Option TypeId:=match P.underlying t with|some (.slice e)=>some e|_=>none
def pf (P:Program)(t:TypeId):Option (Nat×TypeId):=match P.underlying t with|some (.array n e)=>some (n,e)|_=>none
def lX (P:Program)(t:TypeId):Option IntKind:=match P.underlying t with|some (.int k)=>some k|_=>none
def bX (P:Program)(t:TypeId):Option (List D):=match P.info? t with
 |some i=>match i.zero with
  |some z=>if z.cells.all (·.oneCell')&&z.cells.size == i.size then some (z.cells.toList.map tJ)else none
  |none=>none
 |none=>none
def rq (cs:List D)(k:D->Prop):Prop:=match cs with|d::_=>k d|[]=>False
def qi (P:Program)(t:TypeId)(cs:List D)(k:D->Prop):Prop:=bn (cM P t) λb=>match b with
 |true=>aJ P t≠0/\aJ P t<=cs.length/\k (.agg (cs.take (aJ P t)))
 |false=>rq cs k
def jW (P:Program)(bx:List Bx)(t:TypeId)(x:D)(k:D->Prop):Prop:=match x with
 | .box i off=>lO bx i λcs=>qi P t (cs.drop off) k
 | .ro cs=>qi P t cs k
 |_=>False
def py (x:D)(o:Nat)(k:D->Prop):Prop:=match x with
 | .box i off=>k (.box i (off + o))
 | .ro cs=>k (.ro (cs.drop o))
 |_=>False
def vM (x y:D)(k:D->Prop):Prop:=match x with
 | .str a=>(match y with
  | .str b=>a.size + b.size<=9223372036854775807/\k (.str (a++b))
  |_=>False)
 |x=>iI x y λa n m=>jV a (n + m)/\k (.int a (n + m))
def vn (n m:Int):Int:=if m=2 then(if n < 2 then 0 else 2)else n % (m + 1)
def um (P:Program)(t:TypeId)(op:BinOp)(x y:D)(k:D->Prop):Prop:=match op with
 | .add=>vM x y k
 | .sub=>iI x y λa n m=>jV a (n - m)/\k (.int a (n - m))
 | .mul=>iI x y λa n m=>jV a (n * m)/\k (.int a (n * m))
 | .quo=>iI x y λa n m=>m≠0/\jV a (n.tdiv m)/\k (.int a (n.tdiv m))
 | .rem=>iI x y λa n m=>m≠0/\k (.int a (n.tmod m))
 | .lss=>iI x y λ_ n m=>k (.bool (decide (n < m)))
 | .leq=>iI x y λ_ n m=>k (.bool (decide (n<=m)))
 | .gtr=>iI x y λ_ n m=>k (.bool (decide (m < n)))
 | .geq=>iI x y λ_ n m=>k (.bool (decide (m<=n)))
 | .eql=>nI P t x y λb=>k (.bool b)
 | .neq=>nI P t x y λb=>k (.bool (!b))
 | .shr=>jx x λa n=>jx y λ_ m=>0<=m/\m < a.bits/\k (.int a (n.fdiv (2 ^ m.toNat)))
 | .shl=>jx x λa n=>jx y λ_ m=>0<=m/\m < a.bits/\jV a (n * 2 ^ m.toNat)/\k (.int a (n * 2 ^ m.toNat))
 | .and=>iI x y λa n m=>(a= .i64\/a= .u64)/\0<=n/\n<=9223372036854775807/\(m=1\/m=4294967295\/m=2/\n < 4)/\k (.int a (vn n m))
 |_=>False
def uh (op:UnOp)(x:D)(k:D->Prop):Prop:=match op with
 | .not=>lg x λb=>k (.bool (!b))
 | .neg=>jx x λa n=>jV a (-n)/\k (.int a (-n))
 |_=>False
def sI (P:Program)(rw:List Row)(t:TypeId)(x ix:D)(k:D->Prop):Prop:=match elemOf P t with
 |some e=>match x with
  | .a_ i off m _=>jx ix λ_ n=>aJ P e≠0/\0<=n/\n < m/\k (.box i (off + n.toNat * aJ P e))
  |x=>lM rw x λxs=>jx ix λ_ n=>sF xs n λd=>aJ P e≠0/\d.cells.length=aJ P e/\k (.ro d.cells)
 |none=>bn (pf P t) λne=>jx ix λ_ n=>aJ P ne.2≠0/\0<=n/\n < ne.1/\py x (n.toNat * aJ P ne.2) k
def yb (P:Program)(t:TypeId)(cs:List D)(off:Nat)(k:D->Prop):Prop:=bn (cM P t) λb=>match b with
 |true=>aJ P t≠0/\off + aJ P t<=cs.length/\k (.agg ((cs.drop off).take (aJ P t)))
 |false=>bn cs[off]? k
def yd (P:Program)(t:TypeId)(x ix:D)(k:D->Prop):Prop:=bn (pf P t) λne=>uo x λcs=>jx ix λ_ n=>aJ P ne.2≠0/\0<=n/\n < ne.1/\yb P ne.2 cs (n.toNat * aJ P ne.2) k
def uk (P:Program)(t:TypeId)(x:D)(f:Nat)(k:D->Prop):Prop:=bn (bq P t f) λot=>uo x λcs=>yb P ot.2 cs ot.1 k
def C5 (t:Bool)(a b:D):D:=match t with|true=>a|false=>b
def jX (P:Program)(t:TypeId):Bool:=match P.underlying t with|some .string=>true|_=>false
def xd:List D->Option (List UInt8)
 |[]=>some []
 | .int .u8 n::l=>(xd l).map (UInt8.ofNat n.toNat::·)
 |_=>none
def rr (P:Program)(s t:TypeId)(x:D)(k:D->Prop):Prop:=match x with
 | .list xs=>jX P t=true/\bn (elemOf P s) λe=>bn (lX P e) λq=>q= .u8/\bn (xd xs) λb=>k (.str ⟨b.toArray⟩)
 |d=>bn (lX P s) λ_=>bn (lX P t) λq=>jx d λ_ n=>jV q n/\k (.int q n)
def lh (d:Option D)(BQ y:Nat)(k:Nat->Prop):Prop:=match d with|none=>k BQ|some d=>jx d λ_ m=>0<=m/\m<=y/\k m.toNat
def sE (P:Program)(t:TypeId)(x:D)(lo hi:Option D)(k:D->Prop):Prop:=match x with
 | .box i off=>bn (pf P t) λne=>lh hi ne.1 ne.1 λh=>lh lo 0 h λl=>aJ P ne.2≠0/\k (.a_ i (if ne.1=l then off else off + l * aJ P ne.2) (h - l) (ne.1 - l))
 | .a_ i off n c=>bn (elemOf P t) λe=>lh hi n c λh=>lh lo 0 h λl=>aJ P e≠0/\k (.a_ i (if c=l then off else off + l * aJ P e) (h - l) (c - l))
 | .str s=>jX P t=true/\lh hi s.size s.size λh=>lh lo 0 h λl=>k (.str (s.extract l h))
 | .list xs=>bn (elemOf P t) λe=>lh hi xs.length xs.length λh=>lh lo 0 h λl=>aJ P e≠0/\(∀d∈xs,d.cells.length=aJ P e)/\k (.list ((xs.drop l).take (h - l)))
 |_=>False
def sH (P:Program)(t:TypeId)(rw:List Row)(x:D)(k:D->Prop):Prop:=match elemOf P t with
 |some _=>match x with
  | .list xs=>k (.int .i64 xs.length)
  | .own r=>bn rw[r]? λrow=>k (.int .i64 row.xs.length)
  | .val (.slice none 0 0)=>k (.int .i64 0)
  | .a_ _ _ n _=>k (.int .i64 n)
  |_=>False
 |none=>jX P t=true/\match x with
  | .str s=>k (.int .i64 s.size)
  |_=>False
end Go.Ab
end
section
namespace Go.Ab
open Go.RowKit
def Yields (P:Program)(o:Oper)(a:Act)(w:World)(g:Gh)(k:D->Prop):Prop:=
 ∃v d,(execOp a.eval o).run P w= .ok (.value v) w/\Rel w g v d/\k d
section
variable {P:Program} {o:Oper} {a:Act} {w:World} {g:Gh} {k:D->Prop}
theorem Jd {x:Operand}{d:D}(ho:o.op= .move x\/o.op= .assign x)(h:Rel w g (a.eval x) d)(hk:k d):Yields P o a w g k:=by
 refine⟨a.eval x,d, ?_,h,hk⟩;rcases ho with ho|ho<;>simp[execOp,ho]
theorem Fo {v:Value}{d:D}{kb:Bool->Prop}(h:Rel w g v d)(hk:lg d kb):∃b,v= .bool b/\d= .bool b/\kb b:=by
 cases h<;>simp only[lg]at hk
 exact⟨_,rfl,rfl,hk⟩
theorem mL {v:Value}{d:D}{kb:IntKind->Int->Prop}(h:Rel w g v d)(hk:jx d kb):∃q n,v= .int q n/\d= .int q n/\kb q n:=by
 cases h<;>simp only[jx]at hk
 exact⟨_,_,rfl,rfl,hk⟩
theorem nH {v v':Value}{d d':D}{kb:IntKind->Int->Int->Prop}(h:Rel w g v d)(h':Rel w g v' d')(hk:iI d d' kb):
  ∃q n m,v= .int q n/\v'= .int q m/\kb q n m:=by
 obtain⟨q,n,rfl,rfl,ba⟩:=mL h hk;obtain⟨q',m,rfl,rfl,rfl,cQ⟩:=mL h' ba;exact⟨_,_,_,rfl,rfl,cQ⟩
theorem Rel.q8 {v:Value}{cs:List D}(h:Rel w g v (.agg cs)):∃vs:List Value,v= .agg vs.toArray/\vs.length=cs.length/\
  ∀q d,cs[q]? =some d->Rel w g (vs.getD q bH) d/\(vs.getD q bH).oneCell'=true:=by
 cases h with
 |agg _ vs _ hl h1 hr=>
  obtain⟨vs⟩:=vs;refine⟨vs,rfl,by simpa using hl,λq d hd=>⟨by simpa using hr q d hd, ?_⟩⟩;have:=h1 q (bm.1 hd).1;simpa using this
theorem agl (q:IntKind)(hq:q= .i64\/q= .u64)(n m:Int)(h0:0<=n)(h1:n<=9223372036854775807)(hm:m=1\/m=4294967295\/m=2/\n < 4):
  q.wrap ((nF q.bits n&&&nF q.bits m).toNat:Int)=vn n m:=by
 by_cases h2:m=2/\n < 4
 ·obtain⟨rfl,hn⟩:=h2;have:n=0\/n=1\/n=2\/n=3:=ag;rcases hq with rfl|rfl<;>rcases this with rfl|rfl|rfl|rfl<;>decide
 replace hm:m=1\/m=4294967295:=ag
 have ga:vn n m=n % (m + 1):=by unfold vn;rw[if_neg ag]
 rw[ga];obtain⟨k,rfl⟩:∃k:Nat,n=k:=⟨n.toNat,ag⟩;have hk:k < 2 ^ 64:=ag;have key:∀e:Nat,e < 64->(nF 64 (k:Int)&&&nF 64 ((2 ^ e - 1:Nat):Int)).toNat=k % 2 ^ e:=by
  intro e he;rw[BitVec.toNat_and,ag5,ag5];have e1:((k:Int) % ((2 ^ 64:Nat):Int)).toNat=k:=ag;have e3:2 ^ e - 1 < 2 ^ 64:=Nat.lt_of_le_of_lt (Nat.sub_le _ _) (Nat.pow_lt_pow_right ak he);have e2:(((2 ^ e - 1:Nat):Int) % ((2 ^ 64:Nat):Int)).toNat=2 ^ e - 1:=by
   rw[<-Int.natCast_emod,Int.toNat_natCast,Nat.mod_eq_of_lt e3]
  rw[e1,e2,Nat.and_two_pow_sub_one_eq_mod]
 have k1:(nF 64 (k:Int)&&&nF 64 1).toNat=k % 2:=key 1 ak;have k2:(nF 64 (k:Int)&&&nF 64 4294967295).toNat=k % 4294967296:=key 32 ak;have w1:∀j:Nat,j<=9223372036854775807->xO.wrap (j:Int)=j:=λj hj=>jV.wrap (k:= .i64) (by simp only[jV];omega);have w2:∀j:Nat,j<=9223372036854775807->Td.wrap (j:Int)=j:=λj hj=>jV.wrap (k:= .u64) (by simp only[jV];omega);rcases hq with rfl|rfl<;>rcases hm with rfl|rfl
 ·show xO.wrap (((nF 64 (k:Int)&&&nF 64 1).toNat:Nat):Int)=_;rw[k1,w1 _ ag];omega
 ·show xO.wrap (((nF 64 (k:Int)&&&nF 64 4294967295).toNat:Nat):Int)=_;rw[k2,w1 _ ag];omega
 ·show Td.wrap (((nF 64 (k:Int)&&&nF 64 1).toNat:Nat):Int)=_;rw[k1,w2 _ ag];omega
 ·show Td.wrap (((nF 64 (k:Int)&&&nF 64 4294967295).toNat:Nat):Int)=_;rw[k2,w2 _ ag];omega
theorem yC:∀(cs:List D) (vs:List Value) (xs:List Int),jk cs=some xs->vs.length=cs.length->(∀q d,cs[q]? =some d->Rel w g (vs.getD q bH) d)->vs=xs.map (gX .i64)
 |[],vs,xs,h,hl,_=>by
  simp only[jk,fe]at h;subst h;simpa using hl
 |d::cs,vs,xs,h,hl,hr=>by
  cases vs with
  |nil=>simp at hl
  |cons v vs=>
   have h0:=hr 0 d rfl;simp only[List.getD_cons_zero]at h0;cases d with
   |int q n=>
    cases q<;>simp only[jk,cS,reduceCtorEq]at h
    obtain⟨ys,hy,rfl⟩:=h;cases h0;have:=yC cs vs ys hy (by simpa using hl) (λq d hd=>by have:=hr (q + 1) d (by simpa using hd);simpa using this);rw[this,List.map_cons]
   |_=>simp only[jk,reduceCtorEq]at h
theorem cE {α:Type}{x:Option α}{kb:α->Prop}(h:bn x kb):∃y,x=some y/\kb y:=by
 cases x with
 |none=>exact h.elim
 |some y=>exact⟨y,rfl,h⟩
theorem MY {v v':Value}{d d':D}{t:TypeId}{kb:Bool->Prop}(h:Rel w g v d)(h':Rel w g v' d')(hk:nI P t d d' kb):
  (∃q n m,v= .int q n/\v'= .int q m/\kb (decide (n=m)))\/(∃b b',v= .bool b/\v'= .bool b'/\P.underlying t=some .bool/\kb (b == b'))\/
  (∃s s',v= .string s/\v'= .string s'/\kb (s.toList == s'.toList))\/
  (∃xs ys:List Int,xs.length=ys.length/\Tn P t xs.length/\v= .agg (xs.map (gX .i64)).toArray/\v'= .agg (ys.map (gX .i64)).toArray/\kb (decide (xs=ys)))\/
  (∃(b:Bool) (A:Option Addr) (n c:Nat) (e:TypeId),v= .slice A n c/\v'= .slice none 0 0/\P.underlying t=some (.slice e)/\A.isNone=b/\kb b)\/
  (∃(b:Bool) (p:Option Addr) (e:TypeId),v= .pointer p/\v'= .pointer none/\P.underlying t=some (.pointer e)/\p.isNone=b/\kb b):=by
 cases d<;>cases d'<;>simp only[nI]at hk
 case list.val xs u=>
  split at hk<;>first|exact hk.elim|skip
  all_goals(rename_i h1 h2;first|cases h1|skip)
  all_goals first|(cases h2;done)|skip
  injection h2 with h2;subst h2;obtain⟨ht,hx,hc,hk⟩:=hk;cases h';unfold zk at ht;split at ht<;>first|cases ht|skip
  rename_i e he;cases h with
  |list _ A n c _ sz u hn bo fA hm hr=>
   cases gU:xs with
   |nil=>exact absurd gU hx
   |cons d ds=>
    have h0:=hc d (by rw[gU];exact ey ..);have lC:0 < (flat xs).length:=by
     rw[gU];show 0 < (d.cells++flat ds).length;have:=List.length_pos_iff.2 h0;simp only[ia];omega
    obtain⟨ad,rfl,_⟩:=hm 0 lC;exact .inr (.inr (.inr (.inr (.inl ⟨false,_,_,_,e,rfl,rfl,he,rfl,hk⟩))))
 case val.val u u'=>
  split at hk<;>first|exact hk.elim|skip
  all_goals(rename_i h1 h2;first|(cases h1;done)|skip)
  all_goals first|(cases h2;done)|skip
  ·injection h1 with h1;injection h2 with h2;subst h1;subst h2
   obtain⟨ht,hk⟩:=hk;cases h;cases h'
   unfold zk at ht;split at ht<;>first|cases ht|skip
   rename_i e he;exact .inr (.inr (.inr (.inr (.inl ⟨true,_,_,_,e,rfl,rfl,he,rfl,hk⟩))))
  ·injection h1 with h1;injection h2 with h2;subst h1;subst h2
   obtain⟨ht,hk⟩:=hk;obtain⟨e,he⟩:=Gw ht;cases h;cases h'
   exact .inr (.inr (.inr (.inr (.inr ⟨true,_,e,rfl,rfl,he,rfl,hk⟩))))
 case box.val i off u=>
  split at hk<;>first|exact hk.elim|skip
  all_goals(rename_i h1 h2;first|(cases h1;done)|skip)
  all_goals first|(cases h2;done)|skip
  injection h2 with h2;subst h2;obtain⟨ht,hk⟩:=hk;obtain⟨e,he⟩:=Gw ht;cases h;cases h'
  exact .inr (.inr (.inr (.inr (.inr ⟨false,_,e,rfl,rfl,he,rfl,hk⟩))))
 case ro.val cs u=>
  split at hk<;>first|exact hk.elim|skip
  all_goals(rename_i h1 h2;first|(cases h1;done)|skip)
  all_goals first|(cases h2;done)|skip
  injection h2 with h2;subst h2;obtain⟨ht,hk⟩:=hk;obtain⟨e,he⟩:=Gw ht;cases h;cases h'
  exact .inr (.inr (.inr (.inr (.inr ⟨false,_,e,rfl,rfl,he,rfl,hk⟩))))
 ·obtain⟨rfl,hk⟩:=hk;cases h;cases h';exact .inl ⟨_,_,_,rfl,rfl,hk⟩
 ·cases h;cases h';exact .inr (.inl ⟨_,_,rfl,rfl,hk⟩)
 ·cases h;cases h';exact .inr (.inr (.inl ⟨_,_,rfl,rfl,hk⟩))
 ·obtain⟨xs,h1,hk⟩:=cE hk;obtain⟨ys,h2,hl,he,hk⟩:=cE hk;obtain⟨vs,rfl,l1,r1⟩:=h.q8;obtain⟨iJ,rfl,l2,r2⟩:=h'.q8;have e1:=yC _ vs xs h1 l1 (λq d hd=>(r1 q d hd).1);have e2:=yC _ iJ ys h2 l2 (λq d hd=>(r2 q d hd).1);subst e1;subst e2
  exact .inr (.inr (.inr (.inl ⟨xs,ys,hl,he,rfl,rfl,hk⟩)))
theorem NH (P:Program)(w:World){t e:TypeId}(ht:P.underlying t=some (.pointer e))(p:Option Addr):(xz t (.pointer p) (.pointer none)).run P w= .ok p.isNone w:=by
 show(Ci (9999 + 1) t (.pointer p) (.pointer none)).run P w=_;generalize 9999=N;cases p<;>simp[Ci,run_underlying ht]
theorem XA (P:Program)(w:World){t e:TypeId}(ht:P.underlying t=some (.pointer e))(p:Option Addr):(binOp .eql t (.pointer p) (.pointer none)).run P w= .ok (.bool p.isNone) w:=by
 have:=NH P w ht p;show((do pure (.bool (<-xz t (.pointer p) (.pointer none))):Sem Value)).run P w=_;simp[this]
theorem Xy (P:Program)(w:World){t e:TypeId}(ht:P.underlying t=some (.pointer e))(p:Option Addr):(binOp .neq t (.pointer p) (.pointer none)).run P w= .ok (.bool (!p.isNone)) w:=by
 have:=NH P w ht p;show((do pure (.bool (!(<-xz t (.pointer p) (.pointer none)))):Sem Value)).run P w=_;simp[this]
theorem NI (P:Program)(w:World){t e:TypeId}(ht:P.underlying t=some (.slice e))(A:Option Addr)(n c:Nat):(xz t (.slice A n c) (.slice none 0 0)).run P w= .ok A.isNone w:=by
 show(Ci (9999 + 1) t (.slice A n c) (.slice none 0 0)).run P w=_;generalize 9999=N;cases A<;>simp[Ci,run_underlying ht]
theorem NJ (P:Program)(w:World){t e:TypeId}(ht:P.underlying t=some (.slice e))(A:Option Addr)(n c:Nat):(binOp .eql t (.slice A n c) (.slice none 0 0)).run P w= .ok (.bool A.isNone) w:=by
 have:=NI P w ht A n c;show((do pure (.bool (<-xz t (.slice A n c) (.slice none 0 0))):Sem Value)).run P w=_;simp[this]
theorem Xz (P:Program)(w:World){t e:TypeId}(ht:P.underlying t=some (.slice e))(A:Option Addr)(n c:Nat):(binOp .neq t (.slice A n c) (.slice none 0 0)).run P w= .ok (.bool (!A.isNone)) w:=by
 have:=NI P w ht A n c;show((do pure (.bool (!(<-xz t (.slice A n c) (.slice none 0 0)))):Sem Value)).run P w=_;simp[this]
theorem Ty {x y z:Operand}{dx dy dz:D}(ho:o.op= .pick x y z)(hx:Rel w g (a.eval x) dx)(hy:Rel w g (a.eval y) dy)(hz:Rel w g (a.eval z) dz)
  (hk:lg dx λt=>k (C5 t dy dz)):Yields P o a w g k:=by
 obtain⟨b,hv,rfl,hk⟩:=Fo hx hk;cases b
 ·exact⟨a.eval z,dz,by simp[execOp,ho,hv,asBool],hz,hk⟩
 ·exact⟨a.eval y,dy,by simp[execOp,ho,hv,asBool],hy,hk⟩
theorem TP {op:BinOp}{x y:Operand}{xt yt:TypeId}{dx dy:D}(ho:o.op= .binOp op xt x y yt)(hx:Rel w g (a.eval x) dx)(hy:Rel w g (a.eval y) dy)
  (hk:um P xt op dx dy k):Yields P o a w g k:=by
 cases op<;>simp only[um]at hk
 case add=>
  unfold vM at hk;split at hk
  ·split at hk
   ·generalize h1:a.eval x=v1 at hx;generalize h2:a.eval y=v2 at hy;cases hx;cases hy
    rename_i sa _ sb;exact⟨.string (sa++sb),_,by
     have hn:¬(xO.max < ((sa.size:Int) + (sb.size:Int))):=by
      have:xO.max=9223372036854775807:=rfl;omega
     simp[execOp,ho,h1,h2,eqGuard,binOp,Op.stringOp];omega, .str _ _,hk.2⟩
   ·exact hk.elim
  obtain⟨q,n,m,h1,h2,hr,hk⟩:=nH hx hy hk;exact⟨.int q (n + m),_,by simp[execOp,ho,h1,h2,eqGuard,binOp,EU,hr.wrap], .int _ _ _,hk⟩
 case sub=>
  obtain⟨q,n,m,h1,h2,hr,hk⟩:=nH hx hy hk;exact⟨.int q (n - m),_,by simp[execOp,ho,h1,h2,eqGuard,binOp,EU,hr.wrap], .int _ _ _,hk⟩
 case mul=>
  obtain⟨q,n,m,h1,h2,hr,hk⟩:=nH hx hy hk;exact⟨.int q (n * m),_,by simp[execOp,ho,h1,h2,eqGuard,binOp,EU,hr.wrap], .int _ _ _,hk⟩
 case quo=>
  obtain⟨q,n,m,h1,h2,h0,hr,hk⟩:=nH hx hy hk;exact⟨.int q (n.tdiv m),_,by simp[execOp,ho,h1,h2,eqGuard,binOp,Op.intDiv,h0,hr.wrap], .int _ _ _,hk⟩
 case rem=>
  obtain⟨q,n,m,h1,h2,h0,hk⟩:=nH hx hy hk;exact⟨.int q (n.tmod m),_,by simp[execOp,ho,h1,h2,eqGuard,binOp,Op.intDiv,h0], .int _ _ _,hk⟩
 case lss=>
  obtain⟨q,n,m,h1,h2,hk⟩:=nH hx hy hk;exact⟨.bool (decide (n < m)),_,by simp[execOp,ho,h1,h2,eqGuard,binOp,Ch], .bool _ _,hk⟩
 case leq=>
  obtain⟨q,n,m,h1,h2,hk⟩:=nH hx hy hk;exact⟨.bool (decide (n<=m)),_,by simp[execOp,ho,h1,h2,eqGuard,binOp,Ch], .bool _ _,hk⟩
 case gtr=>
  obtain⟨q,n,m,h1,h2,hk⟩:=nH hx hy hk;exact⟨.bool (decide (m < n)),_,by simp[execOp,ho,h1,h2,eqGuard,binOp,Ch], .bool _ _,hk⟩
 case geq=>
  obtain⟨q,n,m,h1,h2,hk⟩:=nH hx hy hk;exact⟨.bool (decide (m<=n)),_,by simp[execOp,ho,h1,h2,eqGuard,binOp,Ch], .bool _ _,hk⟩
 case eql=>
  rcases MY hx hy hk with⟨q,n,m,h1,h2,hk⟩|⟨b,b',h1,h2,ht,hk⟩|⟨s,s',h1,h2,hk⟩|⟨xs,ys,hl,he,h1,h2,hk⟩|⟨b,A,n,c,e,h1,h2,ht,hb,hk⟩|⟨b,p,e,h1,h2,ht,hb,hk⟩
  ·exact⟨.bool (decide (n=m)),_,by simp[execOp,ho,h1,h2,eqGuard,binOp,Ch];rfl, .bool _ _,hk⟩
  ·exact⟨.bool (b == b'),_,by simp[execOp,ho,h1,h2,eqGuard,run_eql_bool w _ _ _ ht], .bool _ _,hk⟩
  ·exact⟨.bool (s.toList == s'.toList),_,by simp[execOp,ho,h1,h2,eqGuard,binOp,Op.stringOp], .bool _ _,hk⟩
  ·have hr:=(he.2 xs ys w rfl hl.symm).1;exact⟨.bool (decide (xs=ys)),_,by simp[execOp,ho,h1,h2,eqGuard,he.1,hr], .bool _ _,hk⟩
  ·refine⟨.bool b,_, ?_, .bool _ _,hk⟩;subst hb;simp[execOp,ho,h1,h2,eqGuard,NJ P w ht]
  ·refine⟨.bool (b),_, ?_, .bool _ _,hk⟩;subst hb;simp[execOp,ho,h1,h2,eqGuard,XA P w ht]
 case neq=>
  rcases MY hx hy hk with⟨q,n,m,h1,h2,hk⟩|⟨b,b',h1,h2,ht,hk⟩|⟨s,s',h1,h2,hk⟩|⟨xs,ys,hl,he,h1,h2,hk⟩|⟨b,A,n,c,e,h1,h2,ht,hb,hk⟩|⟨b,p,e,h1,h2,ht,hb,hk⟩
  ·exact⟨.bool (!decide (n=m)),_,by simp[execOp,ho,h1,h2,eqGuard,binOp,Ch];rfl, .bool _ _,hk⟩
  ·exact⟨.bool (!(b == b')),_,by simp[execOp,ho,h1,h2,eqGuard,run_neq_bool w _ _ _ ht], .bool _ _,hk⟩
  ·exact⟨.bool (!(s.toList == s'.toList)),_,by simp[execOp,ho,h1,h2,eqGuard,binOp,Op.stringOp], .bool _ _,hk⟩
  ·have hr:=(he.2 xs ys w rfl hl.symm).2;exact⟨.bool (!decide (xs=ys)),_,by simp[execOp,ho,h1,h2,eqGuard,he.1,hr], .bool _ _,hk⟩
  ·refine⟨.bool (!b),_, ?_, .bool _ _,hk⟩;subst hb;simp[execOp,ho,h1,h2,eqGuard,Xz P w ht]
  ·refine⟨.bool (!b),_, ?_, .bool _ _,hk⟩;subst hb;simp[execOp,ho,h1,h2,eqGuard,Xy P w ht]
 case shr=>
  obtain⟨q,n,h1,rfl,hk⟩:=mL hx hk;obtain⟨q',m,h2,rfl,h0,hb,hk⟩:=mL hy hk;exact⟨.int q (n.fdiv (2 ^ m.toNat)),_,by simp[execOp,ho,h1,h2,eqGuard,binOp,Op.shift,show¬m < 0 by omega,show min m.toNat q.bits=m.toNat by omega], .int _ _ _,hk⟩
 case shl=>
  obtain⟨q,n,h1,rfl,hk⟩:=mL hx hk;obtain⟨q',m,h2,rfl,h0,hb,hr,hk⟩:=mL hy hk;exact⟨.int q (n * 2 ^ m.toNat),_,by simp[execOp,ho,h1,h2,eqGuard,binOp,Op.shift,show¬m < 0 by omega,show min m.toNat q.bits=m.toNat by omega,hr.wrap], .int _ _ _,hk⟩
 case and=>
  obtain⟨q,n,m,h1,h2,hq,h0,kK,hm,hk⟩:=nH hx hy hk;refine⟨.int q (vn n m),_, ?_, .int _ _ _,hk⟩;have:=agl q hq n m h0 kK hm;simp[execOp,ho,h1,h2,eqGuard,binOp,Op.intBits];exact this
theorem Tw {op:UnOp}{x:Operand}{xt:TypeId}{dx:D}(ho:o.op= .unOp op xt x)(hx:Rel w g (a.eval x) dx)(hk:uh op dx k):Yields P o a w g k:=by
 cases op<;>simp only[uh]at hk
 case not=>
  obtain⟨b,h1,rfl,hk⟩:=Fo hx hk;exact⟨.bool (!b),_,by simp[execOp,ho,h1,Op.unary], .bool _ _,hk⟩
 case neg=>
  obtain⟨q,n,h1,rfl,hr,hk⟩:=mL hx hk;exact⟨.int q (-n),_,by simp[execOp,ho,h1,Op.unary,EU,hr.wrap], .int _ _ _,hk⟩
theorem TM {x:Operand}{i:Nat}{dx:D}(ho:o.op= .extract x i)(hx:Rel w g (a.eval x) dx)(hk:rn dx λds=>bn ds[i]? k):Yields P o a w g k:=by
 cases dx<;>simp only[rn]at hk
 rename_i ds;obtain⟨d,hd,hk⟩:=cE hk;generalize hv:a.eval x=v at hx;cases hx with
 |aQ _ vs _ hl hr=>
  have en:i < vs.size:=by rw[hl];exact(bm.1 hd).1
  refine⟨vs[i],d, ?_,by have:=hr i d hd;simpa[en]using this,hk⟩;simp[execOp,ho,hv,Instr.extract,en]
theorem R3:∀{xs:List D} {b:List UInt8},xd xs=some b->∃ns:List Int,xs=ns.map (D.int .u8)/\b=ns.map λn=>UInt8.ofNat n.toNat
 |[],b,h=>by simp only[xd,fe]at h;subst h;exact⟨[],rfl,rfl⟩
 |d::xs,b,h=>by
  unfold xd at h;split at h
  ·rename_i e;cases e
  ·rename_i n l e;injection e with e1 e2;subst e1;subst e2
   obtain⟨b',h1,rfl⟩:=cS.1 h;obtain⟨ns,e1,rfl⟩:=R3 h1;exact⟨n::ns,by rw[e1];rfl,rfl⟩
  ·cases h
theorem QR:∀ns:List Int,flat (ns.map (D.int .u8))=ns.map (D.int .u8)
 |[]=>rfl
 |n::ns=>by show D.cells (.int .u8 n)++flat (ns.map (D.int .u8))=_;rw[QR ns];rfl
theorem TN {s t:TypeId}{x:Operand}{dx:D}(ho:o.op= .convert s t x)(hx:Rel w g (a.eval x) dx)
  (hk:rr P s t dx k):Yields P o a w g k:=by
 unfold rr at hk;split at hk
 ·rename_i xs;obtain⟨bD,hk⟩:=hk;have hu:P.underlying t=some .string:=by unfold jX at bD;split at bD<;>simp_all
  obtain⟨e,he,hk⟩:=cE hk;obtain⟨q,hq,rfl,hk⟩:=cE hk;obtain⟨b,hb,hk⟩:=cE hk;have iq:P.underlying s=some (.slice e):=by unfold elemOf at he;split at he<;>simp_all
  have ec:P.underlying e=some (.int .u8):=by unfold lX at hq;split at hq<;>simp_all
  obtain⟨ns,rfl,rfl⟩:=R3 hb;generalize hv:a.eval x=v at hx;cases hx with
  |list _ A n c _ sz u hn bo hc hm hr=>
  rw[QR]at hm hr;refine⟨.string (strOfNums ns),_, ?_, .str _ _,hk⟩;have bg:(convert s t (.slice A n c)).run P w= .ok (.string (strOfNums ns)) w:=by
   cases A with
   |none=>
    have:ns=[]:=by
     cases ns with
     |nil=>rfl
     |cons m ms=>obtain⟨ad,h,_⟩:=hm 0 ay;cases h
    subst this;rw[run_convert_bytes_nil w s e iq ec n c t hu];rfl
   |some ad=>
    have hl:(loadCells ad n).run P w= .ok (ns.map (gX .u8)).toArray w:=by
     have:=run_loadCells_list (P:=P) w ad (ns.map (gX .u8)) (λj v hj=>by
      have eu:j < ns.length:=by have:=(bm.1 hj).1;simpa using this
      obtain⟨xg,h1,h2,_⟩:=hm j (by simpa using eu);cases h1;have h3:=hr j (.int .u8 ns[j]) (by rw[dO,cX eu];rfl);rw[dO,cX eu]at hj;simp only[Option.map_some,fe]at hj;subst hj;rw[h2];generalize u j=v' at h3;cases h3;rfl)
     have tg:n=ns.length:=by simpa using hn
     simpa[tg]using this
    rw[run_convert_bytes_string w s t e _ n c iq ec hu,run_bytesToString w _ n c ns hl,foldl_push_bytes];simp[strOfNums,ByteArray.empty,ByteArray.emptyWithCapacity];rfl
  simp[execOp,ho,hv,bg]
 obtain⟨qs,hs,hk⟩:=cE hk;obtain⟨qt,ht,hk⟩:=cE hk;obtain⟨q,n,h1,rfl,hr,hk⟩:=mL hx hk;have ly:P.underlying s=some (.int qs):=by
  unfold lX at hs;split at hs<;>simp_all
 have wv:P.underlying t=some (.int qt):=by
  unfold lX at ht;split at ht<;>simp_all
 exact⟨.int qt n,_,by simp[execOp,ho,h1,convert,run_underlying ly,run_underlying wv,Conv.intToInt,hr.wrap], .int _ _ _,hk⟩
theorem VT {t:TypeId}(h:aJ P t≠0):∃i,P.info? t=some i/\i.size=aJ P t:=by
 unfold aJ Program.cellsOf at *;cases hi:P.info? t with
 |none=>simp[hi]at h
 |some i=>exact⟨i,rfl,by simp⟩
theorem run_sizeOf {t:TypeId}(h:aJ P t≠0)(w:World):(sizeOf t).run P w= .ok (aJ P t) w:=by
 obtain⟨i,hi,hs⟩:=VT h;simp[sizeOf,typeInfo,hi,hs]
theorem Rel.Aq {v:Value}{cs:List D}(h:Rel w g v (.ro cs)):∃(ad:Addr) (u:Nat->Value),v= .pointer (some ad)/\
  (∀q,q < cs.length->w.cell? (ad.add q)=some (u q)/\g.S (ad.add q)/\(u q).oneCell'=true)/\∀q d,cs[q]? =some d->Rel w g.er (u q) d:=by
 cases h with
 |ro _ ad _ u hm hr=>exact⟨ad,u,rfl,hm,hr⟩
theorem rL (w:World)(g:Gh):ep w g.er w g:=⟨λ_ _=>rfl,λ_ h=>h,λi b h=>by simp[Gh.er]at h,λi b h=>by simp[Gh.er]at h,λ_ _ h=>h⟩
structure Mem (w:World)(g:Gh)(bx:List Bx)(rw:List Row):Prop where
 bx:∀(i:Nat) (cs:List D),(bx[i]? =some (.mu cs)\/bx[i]? =some (.fz cs))->∃(b:Nat) (vs:Array Value) (t:TypeId×Bool),g.β[i]? =some b/\w.heap[b]? =some (.cells vs t.1 (nk vs.size t.2))/\fF w g vs cs
 rw:∀(r:Nat) (row:Row),rw[r]? =some row->∃v,g.ρ[r]? =some v/\Rel w g v (.list row.xs)
theorem RG.mem {c:Ctx}{s:St}(h:RG c s a w g):Mem w g s.bx s.rw where
 bx i cs hi:=by
  rcases hi with hi|hi
  ·obtain⟨b,vs,t,e1,e2,e3,_⟩:=(h.bx i cs hi).ex;exact⟨b,vs,t,e1,e2,e3⟩
  ·obtain⟨b,vs,t,e1,e2,e3,_⟩:=(h.fz i cs hi).ex;exact⟨b,vs,t,e1,e2,e3.bb (rL _ _)⟩
 rw r row hr:=by
  obtain⟨v,e1,e2,_⟩:=(h.rw r row hr).ex;exact⟨v,e1,e2⟩
theorem z7 {bx:List Bx}{i:Nat}{kb:List D->Prop}(h:lO bx i kb):∃cs,(bx[i]? =some (.mu cs)\/bx[i]? =some (.fz cs))/\kb cs:=by
 unfold lO at h;split at h
 ·exact⟨_, .inl (by assumption),h⟩
 ·exact⟨_, .inr (by assumption),h⟩
 ·exact h.elim
theorem lH (b o q:Nat):(⟨b,o,none⟩:Addr).add q=⟨b,o + q,none⟩:=by
 unfold Addr.add;split<;>simp_all
theorem Is {t:TypeId}{b:Bool}(h:cM P t=some b)(w:World):(isAgg t).run P w= .ok b w:=by
 unfold cM at h;split at h<;>simp only[fe,reduceCtorEq]at h
 ·subst h;simp[isAgg,run_underlying ‹_›]
 ·subst h;simp[isAgg,run_underlying ‹_›]
 ·rename_i d h1 h2 hd;subst h;cases d<;>first|exact(h1 _ rfl).elim|exact(h2 _ _ rfl).elim|simp[isAgg,run_underlying hd]
theorem yk {t:TypeId}{ad:Addr}{cs:List D}{u:Nat->Value}(hm:∀q,q < cs.length->w.cell? (ad.add q)=some (u q)/\(u q).oneCell'=true)
  (hr:∀q d,cs[q]? =some d->Rel w g (u q) d)(hk:qi P t cs k):∃v d,(loadVar t ad).run P w= .ok v w/\Rel w g v d/\k d:=by
 unfold qi at hk;obtain⟨b,hb,hk⟩:=cE hk;have pN:=Is hb w;cases b with
 |true=>
  obtain⟨hz,hle,hk⟩:=hk;refine⟨.agg ((List.range (aJ P t)).map u).toArray, .agg (cs.take (aJ P t)), ?_, ?_,hk⟩
  ·have bg:=run_loadCells (P:=P) (w:=w) ad (aJ P t) u (λj hj=>(hm j ag).1);simp[loadVar,pN,run_sizeOf hz,bg]
  ·refine .agg _ _ _ (by simp;omega) (λq hq=> ?_) (λq d hd=> ?_)
   ·simp only[mG]at hq;have h1:q < aJ P t:=ag;simp[h1];exact(hm q ag).2
   ·have hq:=(bm.1 hd).1;simp only[mG]at hq;have h1:q < aJ P t:=ag;rw[ib,if_pos h1]at hd;simp[h1];exact hr q d hd
 |false=>
  cases cs with
  |nil=>exact hk.elim
  |cons d cs=>
   refine⟨u 0,d, ?_,hr 0 d rfl,hk⟩;have h0:=(hm 0 ay).1;simp only[Addr.add]at h0;simp at h0;simp[loadVar,pN,h0]
theorem q7 {b:Nat}{vs:Array Value}{t:TypeId}{fz:Nat×Nat}{cs:List D}(h:w.heap[b]? =some (.cells vs t fz))(hc:fF w g vs cs)(off:Nat):
  (∀q,q < (cs.drop off).length->w.cell? ((⟨b,off,none⟩:Addr).add q)=some (vs.getD (off + q) bH)/\(vs.getD (off + q) bH).oneCell'=true)/\
  ∀q d,(cs.drop off)[q]? =some d->Rel w g (vs.getD (off + q) bH) d:=by
 have fI:∀q,off + q < cs.length->w.cell? ((⟨b,off,none⟩:Addr).add q)=some (vs.getD (off + q) bH):=λq hq=>by
  rw[lH,cell_of_row w b (off + q) vs t fz h];have:off + q < vs.size:=by rw[hc.1];exact hq
  simp[this]
 refine⟨λq hq=> ?_,λq d hd=> ?_⟩
 ·simp only[xG]at hq;have hl:off + q < cs.length:=ag;exact⟨fI q hl,(hc.2 (off + q) _ (cX hl)).2⟩
 ·rw[tZ]at hd;exact(hc.2 _ d hd).1
theorem TE {t:TypeId}{x:Operand}{dx:D}{bx:List Bx}{aL:List Row}(ho:o.op= .load t x)(hx:Rel w g (a.eval x) dx)(hM:Mem w g bx aL)(hk:jW P bx t dx k):Yields P o a w g k:=by
 cases dx<;>simp only[jW]at hk
 case box i off=>
  obtain⟨cs,aE,hk⟩:=z7 hk;obtain⟨b,vs,tb,e1,e2,e3⟩:=hM.bx i cs aE;generalize hv:a.eval x=v at hx;cases hx with
  |box _ _ _ b' bT=>
   obtain rfl:b'=b:=by rw[e1]at bT;exact(jb bT).symm
   obtain⟨h1,h2⟩:=q7 e2 e3 off;obtain⟨v,d,bg,hr,hk⟩:=yk (P:=P) (t:=t) (ad:=⟨b',off,none⟩) h1 h2 hk;exact⟨v,d,by simp[execOp,ho,hv,Instr.loadAt,zR,bg],hr,hk⟩
 case ro cs=>
  obtain⟨ad,u,hv,hm,hr⟩:=hx.Aq;obtain⟨v,d,bg,hr,hk⟩:=yk (P:=P) (w:=w) (g:=g) (t:=t) (ad:=ad) (cs:=cs) (u:=u) (λq hq=>⟨(hm q hq).1,(hm q hq).2.2⟩) (λq d hd=>(hr q d hd).bb (rL _ _)) hk;exact⟨v,d,by simp[execOp,ho,hv,Instr.loadAt,zR,bg],hr,hk⟩
theorem Et (a:Addr)(i j:Nat):(a.add i).add j=a.add (i + j):=by
 unfold Addr.add;by_cases hi:i=0<;>by_cases hj:j=0<;>simp[hi,hj,Nat.add_assoc]
theorem MV {v:Value}{d:D}{q:Nat}(h:Rel w g v d)(hk:py d q k):∃ad d',v= .pointer (some ad)/\Rel w g (.pointer (some (ad.add q))) d'/\k d':=by
 cases d<;>simp only[py]at hk
 case box i off=>
  cases h with
  |box _ _ _ b hb=>exact⟨⟨b,off,none⟩,_,rfl,by rw[lH];exact .box _ i (off + q) b hb,hk⟩
 case ro cs=>
  obtain⟨ad,u,hv,hm,hr⟩:=h.Aq;refine⟨ad,_,hv, .ro _ _ _ (λj=>u (q + j)) (λj hj=> ?_) (λj d hd=> ?_),hk⟩
  ·simp only[xG]at hj;rw[Et];exact hm (q + j) ag
  ·rw[tZ]at hd;exact hr _ d hd
theorem TK {s:TypeId}{x:Operand}{f:Nat}{dx:D}(ho:o.op= .fieldAddr s x f)(hx:Rel w g (a.eval x) dx)(hk:bn (bq P s f) λot=>py dx ot.1 k):Yields P o a w g k:=by
 obtain⟨⟨off,tf⟩,hf,hk⟩:=cE hk;obtain⟨ad,d',hv,hr,cQ⟩:=MV hx hk;unfold bq at hf;split at hf
 ·rename_i fs hu;split at hf
  ·rename_i fd DO;split at hf
   ·cases hf
   ·rename_i hz;simp only[fe,Prod.mk.injEq]at hf;obtain⟨rfl,rfl⟩:=hf;have yE:aJ P fd.type≠0:=hz;exact⟨.pointer (some (ad.add fd.offset)),d',by simp[execOp,ho,hv,Instr.fieldAt,run_underlying hu,DO,zR,fieldPlace,run_sizeOf yE,yE],hr,cQ⟩
  ·cases hf
 ·cases hf
theorem z6 {v:Value}{d:D}{bx:List Bx}{aL:List Row}{kl:List D->Prop}(hM:Mem w g bx aL)(h:Rel w g v d)(hk:lM aL d kl):∃xs,Rel w g v (.list xs)/\kl xs:=by
 cases d<;>simp only[lM]at hk
 case list xs=>exact⟨xs,h,hk⟩
 case own r=>
  split at hk
  ·rename_i row qK;obtain⟨v',e1,e2⟩:=hM.rw r row qK;cases h with
   |own _ _ _ h'=>rw[e1]at h';cases h';exact⟨_,e2,hk⟩
  ·exact hk.elim
theorem o8 (sz:Nat):∀(xs:List D),(∀x∈xs,x.cells.length=sz)->(flat xs).length=xs.length * sz
 |[],_=>by simp[flat]
 |x::xs,h=>by
  have:=o8 sz xs (λy hy=>h y (fE _ hy));simp only[flat,Ta,ia,List.length_cons]at this⊢;rw[this,h x (ey ..),pk,Nat.one_mul,Nat.add_comm]
theorem D5 (sz:Nat):∀(xs:List D) (i:Nat) (x:D),(∀x∈xs,x.cells.length=sz)->xs[i]? =some x->∀j,j < sz->(flat xs)[i * sz + j]? =x.cells[j]?
 |[],i,x,_,h=>by simp at h
 |y::xs,0,x,hs,h=>by
  intro j hj;simp only[List.getElem?_cons_zero,fe]at h;subst h;simp only[flat,Ta,Nat.zero_mul,Nat.zero_add];rw[cZ (by rw[hs y (ey ..)];exact hj)]
 |y::xs,i + 1,x,hs,h=>by
  intro j hj;have ih:=D5 sz xs i x (λz hz=>hs z (fE _ hz)) (by simpa using h) j hj;simp only[flat,Ta]at ih⊢;have e:=hs y (ey ..);rw[List.getElem?_append_right (by rw[e,pk];omega),e];rw[show(i + 1) * sz + j - sz=i * sz + j by rw[pk];omega];exact ih
theorem Rel.qq {v:Value}{xs:List D}(h:Rel w g v (.list xs)):∃(A:Option Addr) (c sz:Nat) (u:Nat->Value),v= .slice A xs.length c/\(∀x∈xs,x.cells.length=sz)/\
  (∀q,q < (flat xs).length->∃ad,A=some ad/\w.cell? (ad.add q)=some (u q)/\g.S (ad.add q)/\(u q).oneCell'=true)/\
  ∀q d,(flat xs)[q]? =some d->Rel w g.er (u q) d:=by
 cases h with
 |list _ A n c _ sz u hn bo fA hm hr=>subst hn;exact⟨A,c,sz,u,rfl,bo,hm,hr⟩
theorem Rel.elem {A:Option Addr}{c:Nat}{xs:List D}{i:Nat}{x:D}(h:Rel w g (.slice A xs.length c) (.list xs))(hi:xs[i]? =some x)(hz:x.cells.length≠0):
  ∃ad,A=some ad/\Rel w g (.pointer (some (ad.add (i * x.cells.length)))) (.ro x.cells):=by
 obtain⟨A',c',sz,u,e,bo,hm,hr⟩:=h.qq;simp only[Value.slice.injEq]at e;obtain⟨rfl,_,rfl⟩:=e;have hx:x.cells.length=sz:=bo x (fM hi);have en:=(bm.1 hi).1;have gV:=o8 sz xs bo;have hb:∀j,j < sz->i * sz + j < (flat xs).length:=λj hj=>by
  rw[gV]
  calc i * sz + j < i * sz + sz:=ag
   _=(i + 1) * sz:=by rw[pk];omega
   _<=xs.length * sz:=Nat.mul_le_mul_right _ en
 obtain⟨ad,rfl,_⟩:=hm (i * sz + 0) (hb 0 ag);refine⟨ad,rfl, .ro _ _ _ (λj=>u (i * sz + j)) (λj hj=> ?_) (λj d hd=> ?_)⟩
 ·obtain⟨xg,e,h1,h2,h3⟩:=hm (i * sz + j) (hb j ag);cases e;rw[hx,Et];exact⟨h1,h2,h3⟩
 ·have hj:j < sz:=by rw[<-hx];exact(bm.1 hd).1
  exact hr _ d (by rw[D5 sz xs i x bo hi j hj];exact hd)
theorem k7 {t e:TypeId}(h:elemOf P t=some e):P.underlying t=some (.slice e):=by
 unfold elemOf at h;split at h<;>simp_all
theorem Ik {t:TypeId}{ne:Nat×TypeId}(h:pf P t=some ne):P.underlying t=some (.array ne.1 ne.2):=by
 unfold pf at h;split at h<;>simp_all;obtain⟨rfl,rfl⟩:=h;exact⟨rfl,rfl⟩
theorem TH {t:TypeId}{x ix:Operand}{dx di:D}{bx:List Bx}{aL:List Row}(ho:o.op= .indexAddr t x ix)(hx:Rel w g (a.eval x) dx)(hi:Rel w g (a.eval ix) di)
  (hM:Mem w g bx aL)(hk:sI P aL t dx di k):Yields P o a w g k:=by
 unfold sI at hk;split at hk
 ·rename_i e he;split at hk
  ·rename_i i off m cp;obtain⟨q,n,hn,rfl,hz,h0,aU,hk⟩:=mL hi hk;generalize hv:a.eval x=vx at hx;cases hx with
   |a_ _ _ _ _ _ b hb=>
   refine⟨_,_, ?_, .box _ _ _ b hb,hk⟩;simp[execOp,ho,hv,hn,Tg,asIntOf,run_underlying (k7 he),h0,aU,run_sizeOf hz,Addr.add]
  obtain⟨xs,gU,hk⟩:=z6 hM hx hk;obtain⟨q,n,hn,rfl,h0,d,hd,hz,hl,hk⟩:=mL hi hk;obtain⟨A,c,_,_,hv,_⟩:=gU.qq;rw[hv]at gU;obtain⟨ad,rfl,DR⟩:=gU.elem hd (by rw[hl];exact hz);have aU:n.toNat < xs.length:=(bm.1 hd).1;refine⟨_,_, ?_,DR,hk⟩;simp[execOp,ho,hv,hn,Tg,asIntOf,run_underlying (k7 he),h0,show n < (xs.length:Int) by omega,run_sizeOf hz,hl]
 ·obtain⟨ne,bS,hk⟩:=cE hk;obtain⟨q,n,hn,rfl,hz,h0,aU,hk⟩:=mL hi hk;obtain⟨ad,d',hv,hr,cQ⟩:=MV hx hk;refine⟨_,_, ?_,hr,cQ⟩;simp[execOp,ho,hv,hn,Tg,asIntOf,run_underlying (Ik bS),zR,h0,aU,run_sizeOf hz]
theorem TF {x:Operand}{t:TypeId}{dx:D}{bx:List Bx}{aL:List Row}(ho:o.op= .call {callee:= .builtin .len,args:=#[x],argTypes:=#[t]})(hx:Rel w g (a.eval x) dx)
  (hM:Mem w g bx aL)(hk:sH P t aL dx k):Yields P o a w g k:=by
 unfold sH at hk;split at hk
 ·rename_i e he;have hu:=k7 he;split at hk
  ·rename_i xs;obtain⟨A,c,_,_,hv,_⟩:=hx.qq;exact⟨.int .i64 xs.length,_,by simp[execOp,ho,hv,resolve,invoke,builtin,E_,run_underlying hu,goInt], .int _ _ _,hk⟩
  ·rename_i r;obtain⟨row,qK,hk⟩:=cE hk;obtain⟨v',e1,e2⟩:=hM.rw r row qK;generalize hv:a.eval x=v at hx;cases hx with
   |own _ _ _ h'=>
    rw[e1]at h';cases h'
    obtain⟨A,c,_,_,rfl,_⟩:=e2.qq;exact⟨.int .i64 row.xs.length,_,by simp[execOp,ho,hv,resolve,invoke,builtin,E_,run_underlying hu,goInt], .int _ _ _,hk⟩
  ·generalize hv:a.eval x=v at hx;cases hx;exact⟨.int .i64 0,_,by simp[execOp,ho,hv,resolve,invoke,builtin,E_,run_underlying hu,goInt], .int _ _ _,hk⟩
  ·generalize hv:a.eval x=v at hx;cases hx;rename_i n' _ _ _;exact⟨.int .i64 n',_,by simp[execOp,ho,hv,resolve,invoke,builtin,E_,run_underlying hu,goInt], .int _ _ _,hk⟩
  ·exact hk.elim
 ·obtain⟨hs,hk⟩:=hk;have hu:P.underlying t=some .string:=by unfold jX at hs;split at hs<;>simp_all
  split at hk
  ·rename_i s;generalize hv:a.eval x=v at hx;cases hx;exact⟨.int .i64 s.size,_,by simp[execOp,ho,hv,resolve,invoke,builtin,E_,run_underlying hu,goInt], .int _ _ _,hk⟩
  ·exact hk.elim
theorem TA {x y:Operand}{at_:Array TypeId}{dx dy:D}(ho:o.op= .call {callee:= .builtin .max,args:=#[x,y],argTypes:=at_})(hx:Rel w g (a.eval x) dx)(hy:Rel w g (a.eval y) dy)
  (hk:iI dx dy λq n m=>k (.int q (max n m))):Yields P o a w g k:=by
 obtain⟨q,n,m,h1,h2,hk⟩:=nH hx hy hk;refine⟨.int q (max n m),_, ?_, .int _ _ _,hk⟩;have:(if m > n then m else n)=max n m:=by split<;>omega
 simp[execOp,ho,h1,h2,resolve,invoke,builtin,Builtin.max_,Builtin.max2,this]
theorem Tz {x y:Operand}{at_:Array TypeId}{dx dy:D}(ho:o.op= .call {callee:= .builtin .min,args:=#[x,y],argTypes:=at_})(hx:Rel w g (a.eval x) dx)(hy:Rel w g (a.eval y) dy)
  (hk:iI dx dy λq n m=>k (.int q (min n m))):Yields P o a w g k:=by
 obtain⟨q,n,m,h1,h2,hk⟩:=nH hx hy hk;refine⟨.int q (min n m),_, ?_, .int _ _ _,hk⟩;have:(if m < n then m else n)=min n m:=by split<;>omega
 simp[execOp,ho,h1,h2,resolve,invoke,builtin,Builtin.min_,Builtin.min2,this]
theorem TC {f:FuncId}{cap:Array Operand}{ρ:Operand->D}(ho:o.op= .makeFunc (.func f) #[] cap)(hρ:∀x,Rel w g (a.eval x) (ρ x))(hk:k (.aD f (cap.toList.map ρ))):Yields P o a w g k:=by
 refine⟨.func (.func f) #[] (cap.map a.eval),_,by simp[execOp,ho,Instr.makeFunc], .aD _ _ _ _ ay (λq d hd=> ?_),hk⟩;simp only[dO,Array.getElem?_toList,cS]at hd;obtain⟨x,hx,rfl⟩:=hd;have:(cap.map a.eval).getD q bH=a.eval x:=by
  have hl:=(bJ.1 hx).1;have he:=(bJ.1 hx).2;simp[hl,he]
 rw[this];exact hρ x
theorem TB {f:FuncId}{fs:List Operand}{ρ:Operand->D}(ho:o.op= .makeFunc (.func f) ⟨fs⟩ ⟨[]⟩)(hρ:∀x,Rel w g (a.eval x) (ρ x))(hk:k (.dq f (fs.map ρ))):Yields P o a w g k:=by
 refine⟨.func (.func f) ⟨fs.map a.eval⟩ #[],_,by simp[execOp,ho,Instr.makeFunc], .dq _ _ _ _ ay (λq d hd=> ?_),hk⟩;simp only[dO,cS]at hd;obtain⟨x,hx,rfl⟩:=hd;have:(⟨fs.map a.eval⟩:Array Value).getD q bH=a.eval x:=by
  have hl:=(bm.1 hx).1;have he:=(bm.1 hx).2;simp[hl,he]
 rw[this];exact hρ x
theorem vL {ρ:Operand->D}(hρ:∀x,Rel w g (a.eval x) (ρ x)){x:Option Operand}{BQ y:Nat}{code:BoundsCode}{kn:Nat->Prop}(hk:lh (x.map ρ) BQ y kn):
  ∃n,(match x.map a.eval with|some v=>I3 v y code|none=>pure BQ:Sem Nat).run P w= .ok n w/\kn n:=by
 cases x with
 |none=>exact⟨BQ,rfl,hk⟩
 |some x=>
  obtain⟨q,m,hv,hd,h0,hm,hk⟩:=mL (hρ x) hk;exact⟨m.toNat,by simp[I3,asIntOf,hv,h0,hm],hk⟩
theorem QT (n:Nat):∀(l:Nat) (xs:List D),(∀x∈xs,x.cells.length=n)->flat (xs.drop l)=(flat xs).drop (l * n)
 |0,xs,_=>by simp
 |l + 1,[],_=>by simp[flat]
 |l + 1,x::xs,h=>by
  have ih:=QT n l xs (λy hy=>h y (fE _ hy));show flat (xs.drop l)=(x.cells++flat xs).drop ((l + 1) * n);have hx:=h x (ey ..);rw[ih,pk,Nat.one_mul,Nat.add_comm,<-List.drop_drop,<-hx,List.drop_left,hx]
theorem QS (n:Nat)(xs:List D)(h:∀x∈xs,x.cells.length=n)(l m q:Nat)(hq:q < (flat ((xs.drop l).take m)).length):
  l * n + q < (flat xs).length/\(flat ((xs.drop l).take m))[q]? =(flat xs)[l * n + q]? :=by
 have e:flat (xs.drop l)=flat ((xs.drop l).take m)++flat ((xs.drop l).drop m):=by
  unfold flat;rw[<-List.flatMap_append,List.take_append_drop]
 have e2:(flat ((xs.drop l).take m))[q]? =(flat (xs.drop l))[q]? :=by rw[e,cZ hq]
 rw[QT n l xs h,tZ]at e2;refine⟨?_,e2⟩;have:(flat xs)[l * n + q]? ≠none:=by rw[<-e2];rw[cX hq];simp
 exact Nat.lt_of_not_le λhle=>this (List.getElem?_eq_none hle)
theorem Tx {t:TypeId}{x:Operand}{lo hi:Option Operand}{ρ:Operand->D}(ho:o.op= .slice t x lo hi none)(hρ:∀x,Rel w g (a.eval x) (ρ x))(hk:sE P t (ρ x) (lo.map ρ) (hi.map ρ) k):Yields P o a w g k:=by
 have hx:=hρ x;unfold sE at hk;split at hk
 ·rename_i i off hd;obtain⟨⟨n,e⟩,bS,hk⟩:=cE hk;obtain⟨h,r1,hk⟩:=vL (P:=P) (code:= .sliceAlen) hρ hk;obtain⟨l,r2,hz,hk⟩:=vL (P:=P) (code:= .sliceB) hρ hk;rw[hd]at hx;generalize hv:a.eval x=vx at hx;cases hx with
  |box _ _ _ b hb=>
  refine⟨_,_, ?_, .a_ _ i (if n=l then off else off + l * aJ P e) (h - l) (n - l) b hb,hk⟩;have e1:(xS false n n (lo.map a.eval) (hi.map a.eval) none).run P w= .ok (l,h,n) w:=by
   cases hi<;>cases lo<;>simp[xS]at r1 r2⊢<;>simp_all
  simp[execOp,ho,I4,run_underlying (Ik bS),hv,zR,e1,run_sizeOf hz,lH];split<;>rfl
 ·rename_i i off n c hd;obtain⟨e,he,hk⟩:=cE hk;obtain⟨h,r1,hk⟩:=vL (P:=P) (code:= .sliceAcap) hρ hk;obtain⟨l,r2,hz,hk⟩:=vL (P:=P) (code:= .sliceB) hρ hk;rw[hd]at hx;generalize hv:a.eval x=vx at hx;cases hx with
  |a_ _ _ _ _ _ b hb=>
  refine⟨_,_, ?_, .a_ _ i (if c=l then off else off + l * aJ P e) (h - l) (c - l) b hb,hk⟩;have e1:(xS true n c (lo.map a.eval) (hi.map a.eval) none).run P w= .ok (l,h,c) w:=by
   cases hi<;>cases lo<;>simp[xS]at r1 r2⊢<;>simp_all
  simp[execOp,ho,I4,Tf,run_underlying (k7 he),hv,e1,run_sizeOf hz,lH];split<;>rfl
 ·rename_i sb hd;obtain⟨bD,hk⟩:=hk;have hu:P.underlying t=some .string:=by unfold jX at bD;split at bD<;>simp_all
  obtain⟨h,r1,hk⟩:=vL (P:=P) (code:= .sliceAlen) hρ hk;obtain⟨l,r2,hk⟩:=vL (P:=P) (code:= .sliceB) hρ hk;rw[hd]at hx;generalize hv:a.eval x=vx at hx;cases hx;refine⟨_,_, ?_, .str _ _,hk⟩;have e1:(xS false sb.size sb.size (lo.map a.eval) (hi.map a.eval) none).run P w= .ok (l,h,sb.size) w:=by
   cases hi<;>cases lo<;>simp[xS]at r1 r2⊢<;>simp_all
  simp[execOp,ho,I4,Tf,run_underlying hu,hv,e1]
 ·rename_i xs hd;obtain⟨e,he,hk⟩:=cE hk;rw[hd]at hx;generalize hv:a.eval x=vx at hx;cases hx with
  |list _ A n c _ sz u hn bo hc hm hr=>
  have hb:∃h,(match hi.map a.eval with|some v=>I3 v c .sliceAcap|none=>pure n:Sem Nat).run P w= .ok h w/\h<=n/\
    lh (lo.map ρ) 0 h λl=>aJ P e≠0/\(∀d∈xs,d.cells.length=aJ P e)/\k (.list ((xs.drop l).take (h - l))):=by
   cases hi with
   |none=>exact⟨n,rfl,Nat.le_refl _,by rw[hn];exact hk⟩
   |some y=>
    obtain⟨q,m,oR,ed,h0,kD,hk⟩:=mL (hρ y) hk;refine⟨m.toNat, ?_,ag,hk⟩;have hmc:m<=(c:Int):=ag;simp[I3,asIntOf,oR,h0,hmc]
  obtain⟨h,r1,hhn,hk⟩:=hb;obtain⟨l,r2,hz,bu,hk⟩:=vL (P:=P) (code:= .sliceB) hρ hk;have e1:(xS true n c (lo.map a.eval) (hi.map a.eval) none).run P w= .ok (l,h,c) w:=by
   cases hi<;>cases lo<;>simp[xS]at r1 r2⊢<;>simp_all
  refine⟨.slice (if c=l then A else A.map (·.add (l * aJ P e))) (h - l) (c - l),_, ?_, .list _ _ _ _ _ (aJ P e) (λq=>u (l * aJ P e + q)) ?_ ?_ ag ?_ ?_,hk⟩
  ·simp[execOp,ho,I4,Tf,run_underlying (k7 he),hv,e1,run_sizeOf hz]
  ·simp;omega
  ·intro y hy;exact bu y (List.mem_of_mem_drop (List.mem_of_mem_take hy))
  ·intro q hq;have wx:=QS (aJ P e) xs bu l (h - l) q hq;have ec:l * aJ P e + q < (flat xs).length:=wx.1;obtain⟨ad,rfl,h2,h3,h4⟩:=hm _ ec;have bE:c≠l:=λe=>by
    have:(xs.drop l).take (h - l)=[]:=by
     apply List.eq_nil_of_length_eq_zero;simp;omega
    rw[this]at hq;simp[flat]at hq
   refine⟨ad.add (l * aJ P e),by rw[if_neg bE];rfl, ?_, ?_,h4⟩
   ·rw[Et];exact h2
   ·rw[Et];exact h3
  ·intro q d hq;have wx:=QS (aJ P e) xs bu l (h - l) q (bm.1 hq).1;rw[wx.2]at hq;exact hr _ d hq
 ·exact hk.elim
theorem MW {t:TypeId}{vs:List Value}{cs:List D}{off:Nat}(hl:vs.length=cs.length)(hr:∀q d,cs[q]? =some d->Rel w g (vs.getD q bH) d/\(vs.getD q bH).oneCell'=true)
  (hk:yb P t cs off k):∃v d,(part t vs.toArray off).run P w= .ok v w/\Rel w g v d/\k d:=by
 unfold yb at hk;obtain⟨b,hb,hk⟩:=cE hk;have pN:=Is hb w;cases b with
 |true=>
  obtain⟨hz,hle,hk⟩:=hk;refine⟨.agg ((vs.drop off).take (aJ P t)).toArray,_, ?_, ?_,hk⟩
  ·simp[part,pN,run_sizeOf hz,List.extract_eq_take_drop]
  ·refine .agg _ _ _ (by simp;omega) (λq hq=> ?_) (λq d hd=> ?_)
   ·simp only[mG,xG]at hq;have h1:q < aJ P t:=ag;have h2:off + q < cs.length:=ag;have:=(hr (off + q) _ (cX h2)).2;simpa[ib,h1]using this
   ·have hq:=(bm.1 hd).1;simp only[mG,xG]at hq;have h1:q < aJ P t:=ag;rw[ib,if_pos h1,tZ]at hd;have:=(hr (off + q) d hd).1;simpa[ib,h1]using this
 |false=>
  obtain⟨d,hd,hk⟩:=cE hk;have aU:off < vs.length:=by rw[hl];exact(bm.1 hd).1
  refine⟨vs.getD off bH,d, ?_,(hr off d hd).1,hk⟩;simp[part,pN,aU]
theorem TL {s:TypeId}{x:Operand}{f:Nat}{dx:D}(ho:o.op= .field s x f)(hx:Rel w g (a.eval x) dx)(hk:uk P s dx f k):Yields P o a w g k:=by
 unfold uk at hk;obtain⟨⟨off,tf⟩,hf,hk⟩:=cE hk;cases dx<;>simp only[uo]at hk
 obtain⟨vs,hv,hl,hr⟩:=hx.q8;obtain⟨v,d,bg,b9,cQ⟩:=MW hl hr hk;unfold bq at hf;split at hf
 ·rename_i fs hu;split at hf
  ·rename_i fd DO;split at hf
   ·cases hf
   ·simp only[fe,Prod.mk.injEq]at hf;obtain⟨rfl,rfl⟩:=hf;exact⟨v,d,by simp[execOp,ho,hv,Instr.field,run_underlying hu,DO,asAgg,bg],b9,cQ⟩
  ·cases hf
 ·cases hf
theorem TJ {t:TypeId}{x ix:Operand}{dx di:D}(ho:o.op= .index t x ix)(hx:Rel w g (a.eval x) dx)(hi:Rel w g (a.eval ix) di)(hk:yd P t dx di k):Yields P o a w g k:=by
 unfold yd at hk;obtain⟨ne,bS,hk⟩:=cE hk;cases dx<;>simp only[uo]at hk
 obtain⟨vs,hv,hl,hr⟩:=hx.q8;obtain⟨q,n,hn,rfl,hz,h0,aU,hk⟩:=mL hi hk;obtain⟨v,d,bg,b9,hk⟩:=MW hl hr hk;exact⟨v,d,by simp[execOp,ho,hv,hn,Instr.index,asIntOf,run_underlying (Ik bS),h0,aU,run_sizeOf hz,bg],b9,hk⟩
theorem TG {t:TypeId}{x ix:Operand}{s:ByteArray}{n:Int}{q:IntKind}(ho:o.op= .index t x ix)(hx:Rel w g (a.eval x) (.str s))(hi:Rel w g (a.eval ix) (.int q n))(ht:jX P t=true)
  (h0:0<=n)(hl:n.toNat < s.size)(hk:k (.int .u8 (s[n.toNat]'hl).toNat)):Yields P o a w g k:=by
 generalize hv:a.eval x=v at hx;generalize hn:a.eval ix=vi at hi;cases hx;cases hi
 have hu:P.underlying t=some .string:=by unfold jX at ht;split at ht<;>simp_all
 have e:s[n.toNat]? =some s[n.toNat]:=getElem?_pos s n.toNat hl;exact⟨.int .u8 (s[n.toNat]'hl).toNat,_,by simp[execOp,ho,hv,hn,Instr.index,asIntOf,run_underlying hu,h0,e], .int _ _ _,hk⟩
end
end Go.Ab
end
