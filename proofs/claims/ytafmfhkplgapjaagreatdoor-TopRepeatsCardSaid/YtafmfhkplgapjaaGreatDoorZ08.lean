import Derived.Test.YtafmfhkplgapjaaGreatDoorZ07
import Derived.Test.YtafmfhkplgapjaaGreatDoorRows
import Derived.Lib.SplitLaws
import Derived.Lib.Join
import Derived.Shelf.Strings.OnBuilder
import Derived.Shelf.Small.Wraps
import Derived.Shelf.Small.Bits
import Derived.Shelf.LaysM
import Derived.Shelf.Strconv.Itoa3
import Derived.Shelf.Strings.Search3
import Derived.Shelf.Strings.Count
import Derived.Shelf.Strings.Prefix
import Derived.Shelf.Strings.Split
import Derived.Test.YtafmfhkplgapjaaGreatDoorProg
set_option linter.unusedVariables false
set_option linter.unusedSimpArgs false
open And renaming intro->af
open Array renaming getElem?_eq_some_iff->bt,getElem?_push->Cy
open Bool renaming and_eq_true->c_,false_eq_true->bK
open Go.Ending renaming returned->JE
open Go.RowKit renaming Below->XI
open Go.Shelf renaming Ren->Cu
open Int renaming eq_ofNat_of_zero_le->alN,le_trans->Cs,mul_le_mul_of_nonneg_left->Cr,mul_le_mul_of_nonneg_right->OP,mul_nonneg->wb,natCast_one->fe,natCast_zero->fb
open Go.Lib renaming countB->zZ,indexByte->ya
open List.cons renaming injEq->FD
open List renaming findIdx?_eq_none_iff->alK,findIdx?_eq_some_iff_getElem->alJ,getD_cons_succ->Co,getD_cons_zero->Fz,getElem?_append_left->bQ,getElem?_map->cO,getElem_mem->zW,getElem_of_mem->zV,map_append->x_,mem_cons->eK,mem_of_getElem?->ey,mem_singleton->oQ,range->ct,range_succ->Fx,replicate->cD
open Nat renaming le_of_lt_succ->Fu,le_refl->aY,lt_or_eq_of_le->Jt,not_lt_zero->dF,zero_add->fK,zero_le->bD
open Option renaming map_eq_some_iff->cv
open Go.Proofs.Tryz renaming isAgg283->Oy,isAgg3->Cb,isAgg316->Ox,isAgg4->Ca,isAgg5->Jg,isAgg9->Fh,prog->aa,sizeOf0->Oq,sizeOf283->Oo,sizeOf3->B_,sizeOf316->On,sizeOf4->B9,sizeOf5->I',sizeOf9->Fe,underlying0->Om,underlying283->Ol,underlying3->xR,underlying316->Oi,underlying4->zM,underlying5->I_,underlying9->ia,zeroValue0->Oh,zeroValue283->Og,zeroValue3->B8,zeroValue316->Of,zeroValue4->B7,zeroValue5->I9,zeroValue9->Fc
open UInt8 renaming ofNat->B6
open Go.Value renaming int->k7,string->I7
open Go.Proofs.Tryz
namespace Go.Proofs.YtafmfhkplgapjaaGreatDoor
open Go.Ab
theorem ax {p:Prop}(h:p:=by kernel_rfl):p:=h
def fM (p:Prop):Prop:=p
theorem bJ {p:Prop}(h:fM p):p:=h
theorem b_ {p:Prop}(h:p):fM p:=h
@[go_sem] theorem yC1:Go.Ab.aC aa 3=1/\Go.Ab.cI aa 3=some false/\Go.Ab.bytesOf aa 3=8/\Go.Ab.qU aa 3=some .i64/\Go.Ab.bL aa 3=some [.int .i64 0]/\Go.Ab.aC aa 4=1/\Go.Ab.cI aa 4=some false/\Go.Ab.bL aa 4=some [.bool false]/\Go.Ab.aC aa 5=1/\Go.Ab.cI aa 5=some false/\Go.Ab.bytesOf aa 5=1/\Go.Ab.qU aa 5=some .u8/\Go.Ab.bL aa 5=some [.int .u8 0]/\Go.Ab.aC aa 9=1/\Go.Ab.cI aa 9=some false/\Go.Ab.elemOf aa 9=none/\Go.Ab.bytesOf aa 9=16/\Go.Ab.bL aa 9=some [.str ⟨#[]⟩]/\Go.Ab.qU aa 21=some .i32/\Go.Ab.aC aa 22=1/\Go.Ab.cI aa 22=some false/\Go.Ab.elemOf aa 22=some 63/\Go.Ab.aC aa 23=1/\Go.Ab.cI aa 23=some false/\Go.Ab.elemOf aa 23=some 49/\Go.Ab.aC aa 24=1/\Go.Ab.cI aa 24=some false/\Go.Ab.elemOf aa 24=some 3/\Go.Ab.bytesOf aa 24=24/\Go.Ab.bL aa 24=some [.val (.slice none 0 0)]:=by(repeat' apply af)<;>exact ax
@[go_sem] theorem yC2:Go.Ab.aC aa 26=3/\Go.Ab.cI aa 26=some true/\Go.Ab.bL aa 26=some [.val (.slice none 0 0), .val (.slice none 0 0), .int .i64 0]/\Go.Ab.bc aa 26 0=some (0,23)/\Go.Ab.bc aa 26 1=some (1,24)/\Go.Ab.bc aa 26 2=some (2,3)/\(Go.Ab.fi aa 26=some λi=>([(0,1),(1,1),(2,1)]:List (Nat×Nat))[i]?)/\Go.Ab.aC aa 28=3/\Go.Ab.cI aa 28=some true/\Go.Ab.bL aa 28=some [.int .i64 0, .int .i64 0, .int .i64 0]/\Go.Ab.bc aa 28 0=some (0,3)/\Go.Ab.bc aa 28 1=some (1,3)/\Go.Ab.bc aa 28 2=some (2,3)/\(Go.Ab.fi aa 28=some λi=>([(0,1),(1,1),(2,1)]:List (Nat×Nat))[i]?)/\Go.Ab.aC aa 29=1/\Go.Ab.cI aa 29=some false/\Go.Ab.elemOf aa 29=some 119/\Go.Ab.aC aa 30=1/\Go.Ab.cI aa 30=some false/\Go.Ab.elemOf aa 30=some 123/\Go.Ab.aC aa 31=1/\Go.Ab.cI aa 31=some false/\Go.Ab.elemOf aa 31=some 125/\Go.Ab.aC aa 33=9/\Go.Ab.cI aa 33=some true/\Go.Ab.bL aa 33=some [.int .i64 0, .val (.slice none 0 0), .val (.slice none 0 0), .val (.slice none 0 0), .int .i64 0, .int .i64 0, .int .i64 0, .int .i64 0, .int .i64 0]/\Go.Ab.bc aa 33 0=some (0,3)/\Go.Ab.bc aa 33 1=some (1,29)/\Go.Ab.bc aa 33 2=some (2,30)/\Go.Ab.bc aa 33 3=some (3,31):=by(repeat' apply af)<;>exact ax
@[go_sem] theorem yC3:Go.Ab.bc aa 33 4=some (4,3)/\Go.Ab.bc aa 33 5=some (5,3)/\Go.Ab.bc aa 33 6=some (6,3)/\Go.Ab.bc aa 33 7=some (7,3)/\Go.Ab.bc aa 33 8=some (8,3)/\(Go.Ab.fi aa 33=some λi=>([(0,1),(1,1),(2,1),(3,1),(4,1),(5,1),(6,1),(7,1),(8,1)]:List (Nat×Nat))[i]?)/\Go.Ab.aC aa 35=3/\Go.Ab.cI aa 35=some true/\Go.Ab.bL aa 35=some [.int .i64 0, .int .i64 0, .int .i64 0]/\Go.Ab.bc aa 35 0=some (0,3)/\Go.Ab.bc aa 35 1=some (1,3)/\Go.Ab.bc aa 35 2=some (2,3)/\(Go.Ab.fi aa 35=some λi=>([(0,1),(1,1),(2,1)]:List (Nat×Nat))[i]?)/\Go.Ab.aC aa 37=25/\Go.Ab.cI aa 37=some true/\Go.Ab.bL aa 37=some [.val (.slice none 0 0), .val (.slice none 0 0), .val (.slice none 0 0), .int .i64 0, .int .i64 0, .int .i64 0, .int .i64 0, .int .i64 0, .int .i64 0, .int .i64 0, .int .i64 0, .val (.slice none 0 0), .val (.slice none 0 0), .val (.slice none 0 0), .int .i64 0, .int .i64 0, .int .i64 0, .int .i64 0, .int .i64 0, .int .i64 0, .val (.slice none 0 0), .int .i64 0, .int .i64 0, .int .i64 0, .int .i64 0]/\Go.Ab.bc aa 37 0=some (0,22)/\Go.Ab.bc aa 37 1=some (1,26)/\Go.Ab.bc aa 37 2=some (4,28)/\Go.Ab.bc aa 37 3=some (7,3)/\Go.Ab.bc aa 37 4=some (8,3)/\Go.Ab.bc aa 37 5=some (9,3)/\Go.Ab.bc aa 37 6=some (10,33)/\Go.Ab.bc aa 37 7=some (19,3)/\Go.Ab.bc aa 37 8=some (20,24)/\Go.Ab.bc aa 37 9=some (21,35)/\Go.Ab.bc aa 37 10=some (24,3)/\(Go.Ab.fi aa 37=some λi=>([(0,1),(1,3),(4,3),(7,1),(8,1),(9,1),(10,9),(19,1),(20,1),(21,3),(24,1)]:List (Nat×Nat))[i]?)/\Go.Ab.aC aa 38=1/\Go.Ab.cI aa 38=some false:=by(repeat' apply af)<;>exact ax
@[go_sem] theorem yC4:Go.Ab.elemOf aa 38=some 51/\Go.Ab.aC aa 39=1/\Go.Ab.cI aa 39=some false/\Go.Ab.elemOf aa 39=some 79/\Go.Ab.bL aa 39=some [.val (.slice none 0 0)]/\Go.Ab.cI aa 42=some false/\Go.Ab.aC aa 43=1/\Go.Ab.cI aa 43=some false/\Go.Ab.yS aa 43=true/\Go.Ab.bL aa 43=some [.val (.pointer none)]/\Go.Ab.aC aa 44=1/\Go.Ab.cI aa 44=some false/\Go.Ab.aC aa 49=2/\Go.Ab.cI aa 49=some true/\Go.Ab.bL aa 49=some [.int .i64 0, .int .i64 0]/\Go.Ab.bc aa 49 0=some (0,3)/\Go.Ab.bc aa 49 1=some (1,3)/\(Go.Ab.fi aa 49=some λi=>([(0,1),(1,1)]:List (Nat×Nat))[i]?)/\Go.Ab.aC aa 51=3/\Go.Ab.cI aa 51=some true/\Go.Ab.bytesOf aa 51=24/\Go.Ab.bL aa 51=some [.int .i64 0, .int .i64 0, .int .i64 0]/\Go.Ab.bc aa 51 0=some (0,3)/\Go.Ab.bc aa 51 1=some (1,49)/\(Go.Ab.fi aa 51=some λi=>([(0,1),(1,2)]:List (Nat×Nat))[i]?)/\Go.Ab.aC aa 59=1/\Go.Ab.cI aa 59=some false/\Go.Ab.elemOf aa 59=some 114/\Go.Ab.aC aa 61=9/\Go.Ab.cI aa 61=some true:=by(repeat' apply af)<;>exact ax
@[go_sem] theorem yC5:Go.Ab.bL aa 61=some [.int .i64 0, .int .i64 0, .int .i64 0, .int .i64 0, .int .i64 0, .int .i64 0, .int .i64 0, .int .i64 0, .val (.slice none 0 0)]/\Go.Ab.bc aa 61 0=some (0,49)/\Go.Ab.bc aa 61 1=some (2,49)/\Go.Ab.bc aa 61 2=some (4,3)/\Go.Ab.bc aa 61 3=some (5,3)/\Go.Ab.bc aa 61 4=some (6,3)/\Go.Ab.bc aa 61 5=some (7,3)/\Go.Ab.bc aa 61 6=some (8,59)/\(Go.Ab.fi aa 61=some λi=>([(0,2),(2,2),(4,1),(5,1),(6,1),(7,1),(8,1)]:List (Nat×Nat))[i]?)/\Go.Ab.aC aa 63=10/\Go.Ab.cI aa 63=some true/\Go.Ab.bytesOf aa 63=96/\Go.Ab.bL aa 63=some [.int .i64 0, .int .i64 0, .int .i64 0, .int .i64 0, .int .i64 0, .int .i64 0, .int .i64 0, .int .i64 0, .val (.slice none 0 0), .int .i64 0]/\Go.Ab.bc aa 63 0=some (0,61)/\Go.Ab.bc aa 63 1=some (9,3)/\(Go.Ab.fi aa 63=some λi=>([(0,9),(9,1)]:List (Nat×Nat))[i]?)/\Go.Ab.aC aa 67=4/\Go.Ab.cI aa 67=some true/\Go.Ab.bL aa 67=some [.int .i64 0, .int .i64 0, .int .i64 0, .val (.slice none 0 0)]/\Go.Ab.bc aa 67 0=some (0,3)/\Go.Ab.bc aa 67 1=some (1,3)/\Go.Ab.bc aa 67 2=some (2,3)/\Go.Ab.bc aa 67 3=some (3,38)/\(Go.Ab.fi aa 67=some λi=>([(0,1),(1,1),(2,1),(3,1)]:List (Nat×Nat))[i]?)/\Go.Ab.aC aa 75=1/\Go.Ab.cI aa 75=some false/\Go.Ab.elemOf aa 75=some 24/\Go.Ab.bL aa 75=some [.val (.slice none 0 0)]/\Go.Ab.aC aa 77=3/\Go.Ab.cI aa 77=some true:=by(repeat' apply af)<;>exact ax
@[go_sem] theorem yC6:Go.Ab.bL aa 77=some [.int .i64 0, .val (.slice none 0 0), .val (.slice none 0 0)]/\Go.Ab.bc aa 77 0=some (0,3)/\Go.Ab.bc aa 77 1=some (1,24)/\Go.Ab.bc aa 77 2=some (2,75)/\(Go.Ab.fi aa 77=some λi=>([(0,1),(1,1),(2,1)]:List (Nat×Nat))[i]?)/\Go.Ab.aC aa 79=1/\Go.Ab.cI aa 79=some false/\Go.Ab.elemOf aa 79=some 9/\Go.Ab.bytesOf aa 79=24/\Go.Ab.bL aa 79=some [.val (.slice none 0 0)]/\Go.Ab.aC aa 89=1/\Go.Ab.cI aa 89=some false/\Go.Ab.elemOf aa 89=some 67/\Go.Ab.aC aa 90=1/\Go.Ab.cI aa 90=some false/\Go.Ab.elemOf aa 90=some 95/\Go.Ab.aC aa 91=1/\Go.Ab.cI aa 91=some false/\Go.Ab.elemOf aa 91=some 161/\Go.Ab.bL aa 93=some [.val (.slice none 0 0), .val (.slice none 0 0), .val (.slice none 0 0), .int .i64 0, .int .i64 0, .int .i64 0, .int .i64 0, .int .i64 0, .int .i64 0, .int .i64 0, .int .i64 0, .val (.slice none 0 0), .val (.slice none 0 0), .val (.slice none 0 0), .int .i64 0, .int .i64 0, .int .i64 0, .int .i64 0, .int .i64 0, .int .i64 0, .val (.slice none 0 0), .int .i64 0, .int .i64 0, .int .i64 0, .int .i64 0, .val (.slice none 0 0), .val (.slice none 0 0), .val (.map none), .int .i64 0, .val (.slice none 0 0), .bool false]/\Go.Ab.bc aa 93 0=some (0,37)/\Go.Ab.bc aa 93 1=some (25,89)/\Go.Ab.bc aa 93 2=some (26,90)/\Go.Ab.bc aa 93 4=some (28,3)/\Go.Ab.bc aa 93 5=some (29,91)/\Go.Ab.bc aa 93 6=some (30,4)/\(Go.Ab.fi aa 93=some λi=>([(0,25),(25,1),(26,1),(27,1),(28,1),(29,1),(30,1)]:List (Nat×Nat))[i]?)/\Go.Ab.aC aa 95=1/\Go.Ab.cI aa 95=some false/\Go.Ab.bytesOf aa 95=8:=by(repeat' apply af)<;>exact ax
@[go_sem] theorem yC7:Go.Ab.mapOf aa 95=some (3,4)/\Go.Ab.zeroV aa 4=some (.bool false):=by(repeat' apply af)<;>exact ax
@[go_sem] theorem alZ:Go.Ab.yb aa 3 false 1:=Go.Ab.SE ax
@[go_sem] theorem al0:Go.Ab.z6 aa 3 .num:=Go.Ab.aeM (Go.Ab.SE ax)
@[go_sem] theorem yC8:Go.Ab.bL aa 95=some [.val (.map none)]/\Go.Ab.BL aa 98=true/\Go.Ab.bL aa 98=some [.int .i64 0, .int .i64 0, .int .i64 0, .int .i64 0, .int .i64 0]/\(Go.Ab.fi aa 98=some λi=>([(0,1),(1,1),(2,1),(3,2)]:List (Nat×Nat))[i]?)/\Go.Ab.cI aa 99=some false/\Go.Ab.BL aa 105=true/\Go.Ab.bL aa 105=some [.int .i64 0, .int .i64 0, .val (.slice none 0 0)]/\(Go.Ab.fi aa 105=some λi=>([(0,1),(1,1),(2,1)]:List (Nat×Nat))[i]?)/\Go.Ab.aC aa 114=3/\Go.Ab.cI aa 114=some true/\Go.Ab.bL aa 114=some [.int .i64 0, .int .i64 0, .int .i64 0]/\Go.Ab.bc aa 114 0=some (0,3)/\Go.Ab.bc aa 114 1=some (1,49)/\(Go.Ab.fi aa 114=some λi=>([(0,1),(1,2)]:List (Nat×Nat))[i]?)/\Go.Ab.aC aa 119=7/\Go.Ab.cI aa 119=some true/\Go.Ab.bL aa 119=some [.int .i64 0, .int .i64 0, .int .i64 0, .int .i64 0, .int .i64 0, .int .i64 0, .int .i64 0]/\Go.Ab.bc aa 119 0=some (0,3)/\Go.Ab.bc aa 119 1=some (1,3)/\Go.Ab.bc aa 119 2=some (2,3)/\Go.Ab.bc aa 119 3=some (3,49)/\Go.Ab.bc aa 119 4=some (5,3)/\Go.Ab.bc aa 119 5=some (6,3)/\Go.Ab.aC aa 123=3/\Go.Ab.cI aa 123=some true/\Go.Ab.bL aa 123=some [.int .i64 0, .int .i64 0, .int .i64 0]/\Go.Ab.bc aa 123 0=some (0,3)/\Go.Ab.bc aa 123 1=some (1,3)/\Go.Ab.bc aa 123 2=some (2,3)/\Go.Ab.aC aa 125=4:=by(repeat' apply af)<;>exact ax
@[go_sem] theorem yC9:Go.Ab.cI aa 125=some true/\Go.Ab.bL aa 125=some [.int .i64 0, .int .i64 0, .int .i64 0, .int .i64 0]/\Go.Ab.bc aa 125 0=some (0,49)/\Go.Ab.bc aa 125 1=some (2,3)/\Go.Ab.bc aa 125 2=some (3,3)/\(Go.Ab.fi aa 125=some λi=>([(0,2),(2,1),(3,1)]:List (Nat×Nat))[i]?)/\Go.Ab.aC aa 126=1/\Go.Ab.cI aa 126=some false/\Go.Ab.elemOf aa 128=some 5/\Go.Ab.aC aa 142=5/\Go.Ab.cI aa 142=some true/\Go.Ab.elemOf aa 142=none/\Go.Ab.rl aa 142=some (5,3)/\Go.Ab.bL aa 142=some [.int .i64 0, .int .i64 0, .int .i64 0, .int .i64 0, .int .i64 0]/\Go.Ab.rl aa 149=some (6,44)/\Go.Ab.bL aa 149=some [.int .i64 0, .int .i64 0, .int .i64 0, .int .i64 0, .int .i64 0, .int .i64 0]/\(Go.Ab.fi aa 149=some λi=>some (i * 1,1))/\Go.Ab.aC aa 163=1/\Go.Ab.cI aa 163=some false/\Go.Ab.rl aa 164=some (4,163)/\Go.Ab.bL aa 164=some [.val .nilFunc, .val .nilFunc, .val .nilFunc, .val .nilFunc]/\(Go.Ab.fi aa 164=some λi=>some (i * 1,1))/\Go.Ab.aC aa 166=2/\Go.Ab.cI aa 166=some true/\Go.Ab.bL aa 166=some [.int .i64 0, .val (.slice none 0 0)]/\Go.Ab.bc aa 166 1=some (1,24)/\(Go.Ab.fi aa 166=some λi=>([(0,1),(1,1)]:List (Nat×Nat))[i]?)/\Go.Ab.aC aa 171=3/\Go.Ab.cI aa 171=some true/\Go.Ab.bL aa 171=some [.int .i64 0, .int .i64 0, .bool false]:=by(repeat' apply af)<;>exact ax
@[go_sem] theorem al6:Go.Ab.bc aa 171 0=some (0,3)/\Go.Ab.bc aa 171 1=some (1,3)/\Go.Ab.bc aa 171 2=some (2,4)/\(Go.Ab.fi aa 171=some λi=>([(0,1),(1,1),(2,1)]:List (Nat×Nat))[i]?)/\Go.Ab.aC aa 173=2/\Go.Ab.cI aa 173=some true/\Go.Ab.bL aa 173=some [.int .i64 0, .int .i64 0]/\Go.Ab.bc aa 173 0=some (0,3)/\Go.Ab.bc aa 173 1=some (1,3)/\(Go.Ab.fi aa 173=some λi=>([(0,1),(1,1)]:List (Nat×Nat))[i]?)/\Go.Ab.aC aa 175=6/\Go.Ab.cI aa 175=some true/\Go.Ab.bL aa 175=some [.int .i64 0, .int .i64 0, .int .i64 0, .val (.slice none 0 0), .int .i64 0, .int .i64 0]/\Go.Ab.bc aa 175 0=some (0,67)/\Go.Ab.bc aa 175 1=some (4,173)/\(Go.Ab.fi aa 175=some λi=>([(0,4),(4,2)]:List (Nat×Nat))[i]?)/\Go.Ab.cI aa 183=some false/\Go.Ab.aC aa 185=5/\Go.Ab.bL aa 185=some [.val .nilFunc, .int .i64 0, .bool false, .bool false, .bool false]/\Go.Ab.bc aa 185 0=some (0,183)/\Go.Ab.bc aa 185 1=some (1,3)/\Go.Ab.bc aa 185 2=some (2,4)/\Go.Ab.bc aa 185 3=some (3,4)/\(Go.Ab.fi aa 185=some λi=>([(0,1),(1,1),(2,1),(3,1),(4,1)]:List (Nat×Nat))[i]?)/\Go.Ab.aC aa 187=7/\Go.Ab.cI aa 187=some true/\Go.Ab.bL aa 187=some [.val .nilFunc, .int .i64 0, .bool false, .bool false, .bool false, .val (.slice none 0 0), .val (.slice none 0 0)]/\Go.Ab.bc aa 187 0=some (0,185)/\Go.Ab.bc aa 187 1=some (5,24)/\Go.Ab.bc aa 187 2=some (6,39):=by(repeat' apply af)<;>exact ax
@[go_sem] theorem al5:Go.Ab.aC aa 194=4/\Go.Ab.cI aa 194=some true/\Go.Ab.bL aa 194=some [.val (.slice none 0 0), .val (.slice none 0 0), .int .i64 0, .val (.slice none 0 0)]/\Go.Ab.bc aa 194 0=some (0,26)/\Go.Ab.bc aa 194 1=some (3,39)/\(Go.Ab.fi aa 194=some λi=>([(0,3),(3,1)]:List (Nat×Nat))[i]?)/\Go.Ab.cI aa 199=some false/\Go.Ab.mapOf aa 199=some (3,49)/\Go.Ab.zeroV aa 49=some (.agg [.int .i64 0, .int .i64 0])/\Go.Ab.aC aa 201=10/\Go.Ab.cI aa 201=some true/\Go.Ab.bL aa 201=some [.int .i64 0, .int .i64 0, .int .i64 0, .int .i64 0, .int .i64 0, .int .i64 0, .int .i64 0, .int .i64 0, .val (.slice none 0 0), .val (.map none)]/\Go.Ab.bc aa 201 0=some (0,61)/\Go.Ab.bc aa 201 1=some (9,199)/\(Go.Ab.fi aa 201=some λi=>([(0,9),(9,1)]:List (Nat×Nat))[i]?)/\Go.Ab.aC aa 207=2/\Go.Ab.cI aa 207=some true/\Go.Ab.elemOf aa 207=none/\Go.Ab.rl aa 207=some (2,24)/\Go.Ab.bL aa 207=some [.val (.slice none 0 0), .val (.slice none 0 0)]/\Go.Ab.mapOf aa 218=some (9,185)/\Go.Ab.zeroV aa 185=some (.agg [.val .nilFunc, .int .i64 0, .bool false, .bool false, .bool false]):=by(repeat' apply af)<;>exact ax
@[go_sem] theorem al1:Go.Ab.z6 aa 9 .str:=Go.Ab.aeK ax
@[go_sem] theorem al4:Go.Ab.aC aa 228=1/\Go.Ab.cI aa 228=some false/\Go.Ab.bL aa 228=some [.val .nilFunc]/\Go.Ab.aC aa 230=3/\Go.Ab.cI aa 230=some true/\Go.Ab.elemOf aa 230=none/\Go.Ab.rl aa 230=some (3,3)/\Go.Ab.bL aa 230=some [.int .i64 0, .int .i64 0, .int .i64 0]/\(Go.Ab.fi aa 230=some λi=>some (i * 1,1))/\Go.Ab.rl aa 261=some (2,126)/\Go.Ab.bL aa 261=some [.val .nilFunc, .val .nilFunc]/\(Go.Ab.fi aa 261=some λi=>some (i * 1,1))/\Go.Ab.aC aa 267=1/\Go.Ab.cI aa 267=some false/\Go.Ab.bL aa 267=some [.val .nilFunc]/\Go.Ab.qU aa 283=some .u64/\Go.Ab.aC aa 294=1:=by(repeat' apply af)<;>exact ax
@[go_sem] theorem XX:Go.Ab.cI aa 294=some true:=ax
@[go_sem] theorem al3:Go.Ab.bL aa 294=some [.int .i64 0]/\(Go.Ab.fi aa 294=some λi=>([(0,1)]:List (Nat×Nat))[i]?)/\Go.Ab.cI aa 299=some false/\Go.Ab.aC aa 301=10/\Go.Ab.cI aa 301=some true/\Go.Ab.bL aa 301=some [.int .i64 0, .int .i64 0, .int .i64 0, .int .i64 0, .int .i64 0, .int .i64 0, .int .i64 0, .int .i64 0, .int .i64 0, .int .i64 0]/\Go.Ab.bc aa 301 0=some (0,3)/\Go.Ab.bc aa 301 1=some (1,3)/\Go.Ab.bc aa 301 2=some (2,299)/\Go.Ab.bc aa 301 3=some (3,3)/\Go.Ab.bc aa 301 4=some (4,49)/\Go.Ab.bc aa 301 5=some (6,49)/\Go.Ab.bc aa 301 6=some (8,49)/\(Go.Ab.fi aa 301=some λi=>([(0,1),(1,1),(2,1),(3,1),(4,2),(6,2),(8,2)]:List (Nat×Nat))[i]?)/\Go.Ab.BL aa 334=true/\Go.Ab.bL aa 334=some [.int .i64 0, .int .i64 0, .int .i64 0, .int .i64 0, .int .i64 0, .int .i64 0, .int .i64 0, .int .i64 0, .int .i64 0, .int .i64 0, .int .i64 0]/\(Go.Ab.fi aa 334=some λi=>([(0,1),(1,10)]:List (Nat×Nat))[i]?)/\Go.Ab.aC aa 336=6/\Go.Ab.cI aa 336=some true/\Go.Ab.bL aa 336=some [.int .i64 0, .int .i64 0, .int .i64 0, .int .i64 0, .int .i64 0, .int .i64 0]/\Go.Ab.bc aa 336 1=some (2,49)/\(Go.Ab.fi aa 336=some λi=>([(0,2),(2,2),(4,2)]:List (Nat×Nat))[i]?)/\Go.Ab.cI aa 364=some false/\Go.Ab.aC aa 367=7/\Go.Ab.cI aa 367=some true/\Go.Ab.bL aa 367=some [.int .i64 0, .int .i64 0, .int .i64 0, .int .i64 0, .int .i64 0, .int .i64 0, .int .i64 0]/\Go.Ab.bc aa 367 0=some (0,3)/\Go.Ab.bc aa 367 1=some (1,3)/\Go.Ab.bc aa 367 2=some (2,3)/\Go.Ab.bc aa 367 3=some (3,3):=by(repeat' apply af)<;>exact ax
@[go_sem] theorem al2:Go.Ab.bc aa 367 4=some (4,3)/\Go.Ab.bc aa 367 5=some (5,3)/\Go.Ab.bc aa 367 6=some (6,3)/\(Go.Ab.fi aa 367=some λi=>([(0,1),(1,1),(2,1),(3,1),(4,1),(5,1),(6,1)]:List (Nat×Nat))[i]?)/\Go.Ab.aC aa 369=3/\Go.Ab.cI aa 369=some true/\Go.Ab.bL aa 369=some [.int .i64 0, .int .i64 0, .int .i64 0]/\Go.Ab.bc aa 369 0=some (0,3)/\Go.Ab.bc aa 369 1=some (1,3)/\Go.Ab.bc aa 369 2=some (2,3)/\(Go.Ab.fi aa 369=some λi=>([(0,1),(1,1),(2,1)]:List (Nat×Nat))[i]?)/\Go.Ab.aC aa 394=8/\Go.Ab.cI aa 394=some true/\Go.Ab.bL aa 394=some [.int .i64 0, .int .i64 0, .int .i64 0, .int .i64 0, .int .i64 0, .int .i64 0, .int .i64 0, .int .i64 0]/\Go.Ab.bc aa 394 0=some (0,367)/\Go.Ab.bc aa 394 1=some (7,3)/\(Go.Ab.fi aa 394=some λi=>([(0,7),(7,1)]:List (Nat×Nat))[i]?)/\Go.Ab.rl aa 409=some (3,126)/\Go.Ab.bL aa 409=some [.val .nilFunc, .val .nilFunc, .val .nilFunc]/\(Go.Ab.fi aa 409=some λi=>some (i * 1,1))/\Go.Ab.aC aa 414=17/\Go.Ab.cI aa 414=some true/\Go.Ab.elemOf aa 414=none/\Go.Ab.rl aa 414=some (17,3)/\Go.Ab.bL aa 414=some [.int .i64 0, .int .i64 0, .int .i64 0, .int .i64 0, .int .i64 0, .int .i64 0, .int .i64 0, .int .i64 0, .int .i64 0, .int .i64 0, .int .i64 0, .int .i64 0, .int .i64 0, .int .i64 0, .int .i64 0, .int .i64 0, .int .i64 0]/\(Go.Ab.fi aa 414=some λi=>some (i * 1,1)):=by(repeat' apply af)<;>exact ax
theorem Tryz.ty.mixed:aa.follows .mixedOrders=true:=ax
end Go.Proofs.YtafmfhkplgapjaaGreatDoor
namespace Go.Ab
theorem vg {p q r:Prop}(f:r->p)(h:r=q):q->p:=λk=>f (h.symm▸k)
theorem aq {p q:Prop}(k:q)(h:q->p:=by first|exact W9|exact Xh|exact W8|exact W_|exact Xf|exact Xg|exact tp|exact λk=>bg (aj k)|exact vg (r:=bb _ _ _ _ _) id (by simp -implicitDefEqProofs only[go_sem,j5,aU,Nat.reduceAdd,Nat.reduceSub,Nat.reduceMul,Nat.reduceLT,Nat.reduceLeDiff,Nat.reduceEqDiff,Nat.reduceBEq,Int.reduceLT,Int.reduceLE,Int.reduceToNat,Int.reduceAdd,Int.reduceSub,Int.reduceMul,Int.reduceNeg,Int.reduceEq,reduceCtorEq,eq_self,ne_eq,not_false_eq_true,if_true,reduceIte]<;>rfl)|exact vg (r:=bH _ _ _ _) id (by simp only[sM,bH,cj,if_true,Nat.reduceEqDiff,reduceIte]<;>rfl)|exact vg (r:=cj _ _ _ _) id (by simp only[sM,bH,cj,if_true,Nat.reduceEqDiff,reduceIte]<;>rfl)|exact vg (r:=sM _ _ _) id (by simp only[sM,bH,cj,if_true,Nat.reduceEqDiff,reduceIte]<;>rfl)|exact vg (hK _) (by simp only[sM,bH,cj,if_true,Nat.reduceEqDiff,reduceIte]<;>rfl)):p:=h k
theorem bh {p q:Prop}(k:q)(h:q->p:=by first|exact W9|exact Xh|exact W8|exact W_|exact Xf|exact Xg|exact tp|exact vg (r:=bH _ _ _ _) id (by simp only[sM,bH,cj,if_true,Nat.reduceEqDiff,reduceIte]<;>rfl)|exact vg (r:=cj _ _ _ _) id (by simp only[sM,bH,cj,if_true,Nat.reduceEqDiff,reduceIte]<;>rfl)|exact vg (r:=sM _ _ _) id (by simp only[sM,bH,cj,if_true,Nat.reduceEqDiff,reduceIte]<;>rfl)|exact vg (hK _) (by simp only[sM,bH,cj,if_true,Nat.reduceEqDiff,reduceIte]<;>rfl)):p:=h k
theorem au {p:Prop}{q:(St->Prop)->Prop}{Q:St->Prop}(k:∀K:St->Prop,(∀s',Q s'->K s')->q K)(h:(∀K:St->Prop,(∀s',Q s'->K s')->q K)->p:=by first|exact λk=>kI λK hK=>aj (k K hK)|exact λk=>mG Tryz.ty.mixed ax λK hK=>aj (k K hK)):p:=h k
theorem bj {p:Prop}{q:(St->Prop)->Prop}{Q:St->Prop}(k:∀K:St->Prop,(∀s',Q s'->K s')->q K)(h:(∀K:St->Prop,(∀s',Q s'->K s')->q K)->p:=by first|exact kI|exact mG Tryz.ty.mixed ax):p:=h k
theorem cA {P:Program}{f:FuncId}{ds:List D}{ops l:List Oper}{s:St}{dst:Option Tmp}{K:St->Prop}{d:D}{q:Prop}(h:ak P f ds d)(k:q)(e:bZ P ops l (s.put dst d) K=q:=by simp -implicitDefEqProofs only[go_sem,j5,aU,Nat.reduceAdd,Nat.reduceSub,Nat.reduceMul,Nat.reduceLT,Nat.reduceLeDiff,Nat.reduceEqDiff,Nat.reduceBEq,Int.reduceLT,Int.reduceLE,Int.reduceToNat,Int.reduceAdd,Int.reduceSub,Int.reduceMul,Int.reduceNeg,Int.reduceEq,reduceCtorEq,eq_self,ne_eq,not_false_eq_true,if_true,reduceIte]<;>rfl):dY P f ds ops l s dst K:=bo h (e.symm▸k)
theorem bC {a b:Nat}(h:Nat.blt a b=true):a < b:=by simpa using h
theorem bY {s:St}{n:Nat}{l:List (Nat×D)}{bx:List Bx}{rw:List Row}(hn:s.n=n:=by rfl)(hl:∀p∈l,s.sl p.1=p.2:=by try refine aj ?_;try simp)(hb:∃t,s.bx=bx++t:=by exact⟨_,rfl⟩)(hr:∃t,s.rw=rw++t:=by exact⟨_,rfl⟩):Le s (cR n l bx rw):=br hn hl hb hr
theorem cT {P:Program}{f:FuncId}{fn:Func}{code:Code}{ds:List D}{d:D}{n:Nat}{rs:Array ResultVar}(hf:P.funcs[f]? =some fn)(hn:fn.ntmps=n)(hr:fn.results=rs)(hc:∀(args:Array Value) (w:World),(callFunc f args).run P w= .ok (.enter f args) w)
  (h:∀(w0:World) (S0:Addr->Prop) (M0:MM),av ⟨P,w0,S0,M0,none,λb=>w0.heap.size<=b,[]⟩ code (bb P rs d) ⟨n,kQ 0 ds,[],[]⟩)(hb:fn.body=some code:=by rfl)(hl:ds.length<=n:=by simp):ak P f ds d:=akx hf hn hr hc hb hl h
theorem cU {P:Program}{f:FuncId}{fn:Func}{code:Code}{ds:List D}{bx:List Bx}{rw:List Row}{K:D->List Bx->List Row->Prop}{n:Nat}{rs:Array ResultVar}(hf:P.funcs[f]? =some fn)(hn:fn.ntmps=n)(hr:fn.results=rs)(hc:∀(args:Array Value) (w:World),(callFunc f args).run P w= .ok (.enter f args) w)
  (h:∀(w0:World) (S0:Addr->Prop) (M0:MM) (own:Nat->Prop) (β:List Nat),β.length=bx.length->av ⟨P,w0,S0,M0,none,own,β⟩ code (cC P rs K) ⟨n,kQ 0 ds,bx,rw⟩)(hb:fn.body=some code:=by rfl)(hl:ds.length<=n:=by simp):aH P f ds bx rw K:=akF hf hn hr hc hb hl h
theorem sX {E p q:Prop}(e:E)(k:q)(h:E->q->p:=by intro hX k;exact aa_ k):p:=h e k
theorem kh {E p q:Prop}(e:E)(k:q)(h:E->q->p:=by intro hX k;exact aa9 k):p:=h e k
end Go.Ab
namespace Go.Ab
def cS (l:List (Nat×D)):Nat->D:=l.foldr (λp f=>put f p.1 p.2) dJ
@[go_sem] theorem gk:cS []=dJ:=rfl
@[go_sem] theorem fN {n:Nat}{d:D}{l:List (Nat×D)}:cS ((n,d)::l)=put (cS l) n d:=rfl
theorem uZ {l:List (Nat×D)}{nb:Nat}(h:(l.all λp=>cq nb 0 p.2)=true):∀m,Names nb 0 (cS l m):=by
 intro m;have:=(ik (n:=0) (l:=l) (bx:=cD nb .dead) (rw:=[]) (by simpa using h) (by
  clear h;induction nb with
  |zero=>rfl
  |succ n ih=>
   have key:∀(k a b:Nat),a7 a b (cD k .dead)=true:=by
    intro k;induction k with
    |zero=>intros;rfl
    |succ k ih=>intro a b;exact ih a b
   exact key _ _ _)).1 m
 simpa[cR,cS]using this
theorem Hg {s:St}{n:Nat}{l:List (Nat×D)}{bx:List Bx}{rw:List Row}(hn:s.n=n)(hl:∀p∈l,s.sl p.1=p.2)(hb:∃t,s.bx=bx++t)(hr:∃t,s.rw=rw++t):
  Le s ⟨n,cS l,bx,rw⟩:=br hn hl hb hr
end Go.Ab
namespace Go.Proofs.YtafmfhkplgapjaaGreatDoor
set_option maxRecDepth 100000
set_option maxHeartbeats 4000000
open Go.Ab
abbrev ints (xs:List Int):D:= .list (xs.map (D.int .i64))
abbrev ug (Yg:List (List Int)):D:= .list (Yg.map ints)
abbrev i64 (n:Int):D:= .int .i64 n
theorem gi {b c:Bool}(h:b=true↔c=true):D.bool b=D.bool c:=by rw[Bool.eq_iff_iff.2 h]
def Cl (cs:List D):Prop:=(∀bx rw,jy bx rw cs=some cs)/\∀bx rw,gm bx rw cs=some cs
theorem KE {d:D}(h:pV [] [] d=some d)(nb nr:Nat):cq nb nr d=true:=by
 cases d<;>first|rfl|(simp[pV]at h;done)
theorem Q0 (nb nr:Nat):∀l:List D,pf [] [] l=some l->bN nb nr l=true:=by
 intro l;induction l with
 |nil=>intros;rfl
 |cons d l ih=>
  intro hl;simp only[pf]at hl;split at hl
  ·rename_i d' hd;simp only[cv,FD]at hl;obtain⟨l2,eN,rfl,rfl⟩:=hl;simp only[bN,c_];exact⟨KE hd nb nr,ih eN⟩
  ·cases hl
theorem ade {d:D}(h:qN [] [] d=some d)(nb nr:Nat):cq nb nr d=true:=by
 unfold qN at h;split at h
 ·simp only[cv,D.agg.injEq]at h;obtain⟨l,hl,rfl⟩:=h;simp only[cq];exact Q0 nb nr _ hl
 ·exact KE h nb nr
theorem adh (nb nr:Nat):∀l:List D,pW [] [] l=some l->bN nb nr l=true:=by
 intro l;induction l with
 |nil=>intros;rfl
 |cons d l ih=>
  intro hl;simp only[pW]at hl;split at hl
  ·rename_i d' hd;simp only[cv,FD]at hl;obtain⟨l2,eN,rfl,rfl⟩:=hl;simp only[bN,c_];exact⟨ade hd nb nr,ih eN⟩
  ·cases hl
theorem adk {d:D}(h:ph [] [] d=some d)(nb nr:Nat):cq nb nr d=true:=by
 unfold ph at h;split at h
 ·simp only[cv,D.cL.injEq]at h;obtain⟨l,hl,_,rfl⟩:=h;simp only[cq];exact adh nb nr _ hl
 ·simp only[cv,D.ag.injEq]at h;obtain⟨l,hl,_,rfl⟩:=h;simp only[cq];exact Q0 nb nr _ hl
 ·exact KE h nb nr
theorem Cl.names {cs:List D}(h:Cl cs)(nb nr:Nat):bN nb nr cs=true:=by
 have key:∀l:List D,jy [] [] l=some l->bN nb nr l=true:=by
  intro l;induction l with
  |nil=>intros;rfl
  |cons d l ih=>
   intro hl;simp only[jy]at hl;split at hl
   ·rename_i d' hd;simp only[cv,FD]at hl;obtain⟨l2,eN,rfl,rfl⟩:=hl;simp only[bN,c_];exact⟨adk hd nb nr,ih eN⟩
   ·cases hl
 exact key cs (h.1 [] [])
def rf {α:Type}(p:α->Bool)(l:List α):Int:=match l.findIdx? p with|some i=>i|none=> -1
theorem zw {α:Type}[Inhabited α]{p:α->Bool}{l:List α}(h:∀i,i < l.length->p (nth l i)=false):rf p l= -1:=by
 have:l.findIdx? p=none:=alK.2 λx hx=>by
  obtain⟨i,hi,rfl⟩:=zV hx;rw[<-wM l i hi];exact h i hi
 simp[rf,this]
theorem zu {α:Type}[Inhabited α]{p:α->Bool}{l:List α}{j:Nat}(hj:j < l.length)(h:∀i,i < j->p (nth l i)=false)(hp:p (nth l j)=true):rf p l=j:=by
 have:l.findIdx? p=some j:=alJ.2 ⟨hj,by rw[<-wM l j hj];exact hp,λi hi=>by rw[<-wM l i ae];simp[h i hi]⟩;simp[rf,this]
theorem zx {α:Type}{p:α->Bool}{l:List α}:decide (0<=rf p l)=l.any p:=by
 unfold rf;cases h:l.findIdx? p with
 |none=>have:=alK.1 h;simp;exact λx hx=>this x hx
 |some i=>
  obtain⟨h1,h2,_⟩:=alJ.1 h;simp;exact⟨l[i],zW h1,h2⟩
theorem WJ {α:Type}[Inhabited α]{p:α->Bool}{l:List α}:l.any p=true↔∃i,i < l.length/\p (nth l i)=true:=by
 rw[List.any_eq_true];constructor
 ·rintro⟨x,hx,hp⟩;obtain⟨i,hi,rfl⟩:=zV hx;exact⟨i,hi,by rw[wM l i hi];exact hp⟩
 ·rintro⟨i,hi,hp⟩;exact⟨l[i],zW hi,by rw[<-wM l i hi];exact hp⟩
def tM (f:Nat->Int):Nat->Int
 |0=>0
 |n + 1=>tM f n + f n
theorem PS {f:Nat->Int}{lo hi:Int}:∀(n:Nat),(∀i,i < n->lo<=f i/\f i<=hi)->lo * n<=tM f n/\tM f n<=hi * n
 |0,_=>by simp[tM]
 |n + 1,h=>by
  have h1:=PS n (λi hi=>h i ae);have h2:=h n ae;have e1:lo * ((n + 1:Nat):Int)=lo * n + lo:=by rw[Int.natCast_succ,Int.mul_add,Int.mul_one]
  have e2:hi * ((n + 1:Nat):Int)=hi * n + hi:=by rw[Int.natCast_succ,Int.mul_add,Int.mul_one]
  rw[e1,e2];simp only[tM];omega
structure Ck where
 day:Int
 lo:Int
 hi:Int
 deriving Inhabited,DecidableEq
structure b9 where
 hl:Int
 hh:Int
 gl:Int
 gh:Int
 dr:Int
 rd:Int
 ea:Int
 sl:Int
 ck:List Ck
 deriving Inhabited,DecidableEq
structure ew where
 day:Int
 min:Int
 BO:Int
 iX:Int
 al:Int
 ah:Int
 dl:Int
 dh:Int
 wl:Int
 wh:Int
 deriving Inhabited,DecidableEq
structure iz where
 ix:Int
 er:Int
 gr:Int
 ht:Int
 at_:Int
 dy:Int
 wt:Int
 deriving Inhabited,DecidableEq
abbrev sI (a b:Int):D:= .agg [i64 a,i64 b]
abbrev mE (c:Ck):D:= .agg [i64 c.day,i64 c.lo,i64 c.hi]
abbrev CM (s:b9):List D:=[i64 s.hl,i64 s.hh,i64 s.gl,i64 s.gh,i64 s.dr,i64 s.rd,i64 s.ea,i64 s.sl, .list (s.ck.map mE)]
abbrev jO (s:b9):D:= .agg [i64 s.hl,i64 s.hh,i64 s.gl,i64 s.gh,i64 s.dr,i64 s.rd,i64 s.ea,i64 s.sl, .list (s.ck.map mE)]
abbrev sK (r:ew):D:= .agg [i64 r.day,i64 r.min,i64 r.BO,i64 r.iX,i64 r.al,i64 r.ah,i64 r.dl,i64 r.dh,i64 r.wl,i64 r.wh]
abbrev CH (t:iz):D:= .agg [i64 t.ix,i64 t.er,i64 t.gr,i64 t.ht,i64 t.at_,i64 t.dy,i64 t.wt]
def In (x lo hi:Int):Prop:=lo<=x/\x<=hi
instance(x lo hi:Int):Decidable (In x lo hi):=by unfold In;infer_instance
def iL (a b lo hi:Int):Prop:=lo<=a/\a<=b/\b<=hi
instance(a b lo hi:Int):Decidable (iL a b lo hi):=by unfold iL;infer_instance
def tC (c:Ck):Prop:=(0<=c.day/\c.day<=400)/\iL c.lo c.hi (-2000) 2000
instance(c:Ck):Decidable (tC c):=by unfold tC;infer_instance
structure fY (s:b9):Prop where
 h:iL s.hl s.hh 0 3000
 g:iL s.gl s.gh (-3000) 3000
 d:0<=s.dr/\s.dr<=100
 r:0<=s.rd/\s.rd<=200
 e: -720<=s.ea/\s.ea<=720
 sl:0<=s.sl/\s.sl<=60
 n:s.ck.length<=12
 c:∀i,i < s.ck.length->tC (nth s.ck i)
structure j8 (r:ew):Prop where
 d:0<=r.day/\r.day<=400
 m:0<=r.min/\r.min<=1439
 c:1<=r.BO/\r.BO<=3
 q:40000<=r.iX/\r.iX<=90000
 a:iL r.al r.ah (-300) 500
 y:iL r.dl r.dh (-300) 500
 w:iL r.wl r.wh (-300) 500
theorem J' (s:b9):fY s↔(iL s.hl s.hh 0 3000/\iL s.gl s.gh (-3000) 3000/\(0<=s.dr/\s.dr<=100)/\(0<=s.rd/\s.rd<=200)/\(-720<=s.ea/\s.ea<=720)/\(0<=s.sl/\s.sl<=60)/\s.ck.length<=12/\∀i,i < s.ck.length->tC (nth s.ck i)):=
 ⟨λh=>⟨h.h,h.g,h.d,h.r,h.e,h.sl,h.n,h.c⟩,λ⟨a,b,c,d,e,f,g,i⟩=>⟨a,b,c,d,e,f,g,i⟩⟩
instance(s:b9):Decidable (fY s):=decidable_of_iff _ (J' s).symm
theorem QM (r:ew):j8 r↔((0<=r.day/\r.day<=400)/\(0<=r.min/\r.min<=1439)/\(1<=r.BO/\r.BO<=3)/\(40000<=r.iX/\r.iX<=90000)/\iL r.al r.ah (-300) 500/\iL r.dl r.dh (-300) 500/\iL r.wl r.wh (-300) 500):=
 ⟨λh=>⟨h.d,h.m,h.c,h.q,h.a,h.y,h.w⟩,λ⟨a,b,c,d,e,f,g⟩=>⟨a,b,c,d,e,f,g⟩⟩
instance(r:ew):Decidable (j8 r):=decidable_of_iff _ (QM r).symm
end Go.Proofs.YtafmfhkplgapjaaGreatDoor
namespace Go.Proofs.YtafmfhkplgapjaaGreatDoor
set_option maxRecDepth 100000
set_option maxHeartbeats 4000000
open Go.Ab
attribute[local irreducible] av dL dY ak aH cY IA ez aP fM
structure aS where
 p:Int
 lo:Int
 hi:Int
 deriving Inhabited,DecidableEq
abbrev dU (s:aS):D:= .agg [i64 s.p,i64 s.lo,i64 s.hi]
abbrev cx (W R:Nat)(sl:Int)(S:List aS):List D:=[i64 W,i64 R,i64 sl, .list (S.map dU)]
abbrev fy (W R:Nat)(sl:Int)(S:List aS):List D:=[i64 W,i64 R,i64 sl, .list (S.map dU),i64 W,i64 R]
structure dB (W R:Nat)(sl:Int)(S:List aS):Prop where
 w:1<=W/\W<=6
 r:1<=R/\R<=5
 s:0<=sl/\sl<=5000
 n:S.length<=12
 a:∀i,i < S.length->(0<=(nth S i).p/\(nth S i).p<=(W:Int) * R - 1)/\0<=(nth S i).lo/\(nth S i).lo<=(nth S i).hi/\(nth S i).hi<=99999
def dR (W a b:Int):Int:=max (a / W - b / W) (b / W - a / W) + max (a % W - b % W) (b % W - a % W)
theorem zB {W a:Int}(hw:1<=W/\W<=6)(ha:0<=a/\a<=29):(0<=a / W/\a / W<=29)/\0<=a % W/\a % W<=5:=by
 have h1:=Int.ediv_nonneg (a:=a) (b:=W) ha.1 ae;have h2:=Int.ediv_le_self (a:=a) W ha.1;have h3:=Int.emod_nonneg a (b:=W) ae;have h4:=Int.emod_lt_of_pos a (b:=W) ae;omega
theorem uA {W a b:Int}(hw:1<=W/\W<=6)(ha:0<=a/\a<=29)(hb:0<=b/\b<=29):0<=dR W a b/\dR W a b<=34:=by
 have h1:=zB hw ha;have h2:=zB hw hb;unfold dR;omega
theorem RV {a b A B:Int}(h0:0<=a)(h1:a<=A)(h2:0<=b)(h3:b<=B):0<=a * b/\a * b<=A * B:=
 ⟨wb h0 h2,Int.mul_le_mul h1 h3 h2 (Cs h0 h1)⟩
theorem BQ (x lo hi:Int):ak aa 122 [i64 x,i64 lo,i64 hi] (.bool (decide (lo<=x/\x<=hi))):=by
 refine cT func122 ntmps122 results122 call122 λw0 S0 M0=> ?_;repeat'(first|refine aq ?_|refine au λK hK=> ?_|(intro hg;try exact ai)|exact fin|apply af)
 all_goals(refine gi ?_;simp only[decide_eq_true_eq,bK,false_iff,iff_false,true_iff,iff_true];omega)
theorem MZ (a b:Int):ak aa 176 [ints [a,b]] (i64 (max a b)):=by
 have n0:nth [a,b] 0=a:=rfl;have n1:nth [a,b] 1=b:=rfl;have e1:max a a=a:=ae;refine cT func176 ntmps176 results176 call176 λw0 S0 M0=> ?_;repeat'(first|refine bh ?_|((first|refine bj λK hK=> ?_|refine bg ?_|show bb _ _ _ _ _);(refine sX (af @n0 (af @n1 (af @e1 (af @fb (@fe))))) ?_))|(intro hg;try exact ai)|exact fin|apply af)
 refine dn (ι:=Nat) (λk=>[(3,i64 (match k with|0=>a|1=>a|_=>max a b)),(9,ints [a,b]),(10,i64 2),(11,i64 k)]) (λ_=>[]) (λ_=>[]) (λk=>k<=2) (λk=>2 - k) (λ_ _=>⟨rfl,rfl⟩) 0 ae (br rfl (by try refine sX (af @n0 (af @n1 (af @e1 (af @fb (@fe))))) ?_;try simp) ⟨_,rfl⟩ ⟨_,rfl⟩) (λk hk=> ?_)
 match k,hk with
 |0,_=>
  refine sX (af @n0 (af @n1 (af @e1 (af @fb (@fe))))) ?_;repeat'(first|refine bh ?_|((first|refine bj λK hK=> ?_|refine bg ?_|show bb _ _ _ _ _);(refine sX (af @n0 (af @n1 (af @e1 (af @fb (@fe))))) ?_))|(intro hg;try exact ai)|exact fin|apply af)
  exact⟨1,ae,ae,br rfl (by try refine sX (af @n0 (af @n1 (af @e1 (af @fb (@fe))))) ?_;try simp) ⟨_,rfl⟩ ⟨_,rfl⟩⟩
 |1,_=>
  refine sX (af @n0 (af @n1 (af @e1 (af @fb (@fe))))) ?_;repeat'(first|refine bh ?_|((first|refine bj λK hK=> ?_|refine bg ?_|show bb _ _ _ _ _);(refine sX (af @n0 (af @n1 (af @e1 (af @fb (@fe))))) ?_))|(intro hg;try exact ai)|exact fin|apply af)
  exact⟨2,ae,ae,br rfl (by try refine sX (af @n0 (af @n1 (af @e1 (af @fb (@fe))))) ?_;try simp) ⟨_,rfl⟩ ⟨_,rfl⟩⟩
 |2,_=>
  refine sX (af @n0 (af @n1 (af @e1 (af @fb (@fe))))) ?_;repeat'(first|refine bh ?_|((first|refine bj λK hK=> ?_|refine bg ?_|show bb _ _ _ _ _);(refine sX (af @n0 (af @n1 (af @e1 (af @fb (@fe))))) ?_))|(intro hg;try exact ai)|exact fin|apply af)
  all_goals skip
theorem Wg (a b:Int):ak aa 175 [ints [a,b]] (i64 (min a b)):=by
 have n0:nth [a,b] 0=a:=rfl;have n1:nth [a,b] 1=b:=rfl;have e1:min a a=a:=ae;refine cT func175 ntmps175 results175 call175 λw0 S0 M0=> ?_;repeat'(first|refine bh ?_|((first|refine bj λK hK=> ?_|refine bg ?_|show bb _ _ _ _ _);(refine sX (af @n0 (af @n1 (af @e1 (af @fb (@fe))))) ?_))|(intro hg;try exact ai)|exact fin|apply af)
 refine dn (ι:=Nat) (λk=>[(3,i64 (match k with|0=>a|1=>a|_=>min a b)),(9,ints [a,b]),(10,i64 2),(11,i64 k)]) (λ_=>[]) (λ_=>[]) (λk=>k<=2) (λk=>2 - k) (λ_ _=>⟨rfl,rfl⟩) 0 ae (br rfl (by try refine sX (af @n0 (af @n1 (af @e1 (af @fb (@fe))))) ?_;try simp) ⟨_,rfl⟩ ⟨_,rfl⟩) (λk hk=> ?_)
 match k,hk with
 |0,_=>
  refine sX (af @n0 (af @n1 (af @e1 (af @fb (@fe))))) ?_;repeat'(first|refine bh ?_|((first|refine bj λK hK=> ?_|refine bg ?_|show bb _ _ _ _ _);(refine sX (af @n0 (af @n1 (af @e1 (af @fb (@fe))))) ?_))|(intro hg;try exact ai)|exact fin|apply af)
  exact⟨1,ae,ae,br rfl (by try refine sX (af @n0 (af @n1 (af @e1 (af @fb (@fe))))) ?_;try simp) ⟨_,rfl⟩ ⟨_,rfl⟩⟩
 |1,_=>
  refine sX (af @n0 (af @n1 (af @e1 (af @fb (@fe))))) ?_;repeat'(first|refine bh ?_|((first|refine bj λK hK=> ?_|refine bg ?_|show bb _ _ _ _ _);(refine sX (af @n0 (af @n1 (af @e1 (af @fb (@fe))))) ?_))|(intro hg;try exact ai)|exact fin|apply af)
  exact⟨2,ae,ae,br rfl (by try refine sX (af @n0 (af @n1 (af @e1 (af @fb (@fe))))) ?_;try simp) ⟨_,rfl⟩ ⟨_,rfl⟩⟩
 |2,_=>
  refine sX (af @n0 (af @n1 (af @e1 (af @fb (@fe))))) ?_;repeat'(first|refine bh ?_|((first|refine bj λK hK=> ?_|refine bg ?_|show bb _ _ _ _ _);(refine sX (af @n0 (af @n1 (af @e1 (af @fb (@fe))))) ?_))|(intro hg;try exact ai)|exact fin|apply af)
  all_goals skip
theorem EU (W R a:Int)(hw:1<=W/\W<=6)(ha:0<=a/\a<=29):ak aa 228 [.agg [i64 W,i64 R],i64 a] (i64 (a / W)):=by
 have h1:=zB hw ha;have e1:Int.tdiv a W=a / W:=Int.tdiv_eq_ediv_of_nonneg ha.1;refine cT func228 ntmps228 results228 call228 λw0 S0 M0=> ?_;repeat'(first|refine bh ?_|((first|refine bj λK hK=> ?_|refine bg ?_|show bb _ _ _ _ _);(refine sX (@e1) ?_))|(intro hg;try exact ai)|exact fin|apply af)
 all_goals first|omega|skip
theorem EZ (W R a:Int)(hw:1<=W/\W<=6)(ha:0<=a/\a<=29):ak aa 229 [.agg [i64 W,i64 R],i64 a] (i64 (a % W)):=by
 have h1:=zB hw ha;have e1:Int.tmod a W=a % W:=Int.tmod_eq_emod_of_nonneg ha.1;refine cT func229 ntmps229 results229 call229 λw0 S0 M0=> ?_;repeat'(first|refine bh ?_|((first|refine bj λK hK=> ?_|refine bg ?_|show bb _ _ _ _ _);(refine sX (@e1) ?_))|(intro hg;try exact ai)|exact fin|apply af)
 all_goals first|omega|skip
theorem Wk (a b:Int)(ha:0<=a/\a<=1000)(hb:0<=b/\b<=1000):ak aa 227 [i64 a,i64 b] (i64 (max (a - b) (b - a))):=by
 have h1:=MZ (a - b) (b - a);refine cT func227 ntmps227 results227 call227 λw0 S0 M0=> ?_;repeat'(first|refine aq ?_|refine au λK hK=> ?_|refine cA (h1) ?_|(intro hg;try exact ai)|exact fin|apply af)
 all_goals skip
theorem BT (W R a b:Int)(hw:1<=W/\W<=6)(ha:0<=a/\a<=29)(hb:0<=b/\b<=29):ak aa 174 [.agg [i64 W,i64 R],i64 a,i64 b] (i64 (dR W a b)):=by
 have h1:=zB hw ha;have h2:=zB hw hb;have c1:=EU W R a hw ha;have c2:=EU W R b hw hb;have c3:=EZ W R a hw ha;have c4:=EZ W R b hw hb;have c5:=Wk (a / W) (b / W) ae ae;have c6:=Wk (a % W) (b % W) ae ae;have hd:dR W a b=max (a / W - b / W) (b / W - a / W) + max (a % W - b % W) (b % W - a % W):=rfl;rw[hd];generalize a / W=a1 at *;generalize b / W=b1 at *;generalize a % W=a2 at *;generalize b % W=b2 at *;refine cT func174 ntmps174 results174 call174 λw0 S0 M0=> ?_;repeat'(first|refine aq ?_|refine au λK hK=> ?_|refine cA (c1) ?_|refine cA (c2) ?_|refine cA (c3) ?_|refine cA (c4) ?_|refine cA (c5) ?_|refine cA (c6) ?_|(intro hg;try exact ai)|exact fin|apply af)
 all_goals skip
def eU (W sl:Int)(S:List aS)(p:Int):Nat->Int
 |0=>0
 |j + 1=>max (eU W sl S p j) ((nth S j).lo - sl * dR W p (nth S j).p)
def eW (W sl:Int)(S:List aS)(p:Int):Nat->Int
 |0=>99999
 |j + 1=>min (eW W sl S p j) ((nth S j).hi + sl * dR W p (nth S j).p)
theorem tq {W R:Nat}(hw:1<=W/\W<=6)(hr:1<=R/\R<=5):W * R<=30:=Nat.mul_le_mul hw.2 hr.2
theorem u_ {W R:Nat}{sl:Int}{S:List aS}(h:dB W R sl S){i:Nat}(hi:i < S.length):0<=(nth S i).p/\(nth S i).p<=29:=by
 have h1:=(h.a i hi).1;have h2:=tq h.w h.r;have h3:(W:Int) * R=((W * R:Nat):Int):=by simp
 omega
theorem yx {W R:Nat}{sl:Int}{S:List aS}(h:dB W R sl S){p:Int}(hp:0<=p/\p<=29){i:Nat}(hi:i < S.length):0<=sl * dR W p (nth S i).p/\sl * dR W p (nth S i).p<=5000 * 34:=by
 have h1:=uA (W:=W) (a:=p) (b:=(nth S i).p) (by have:=h.w;omega) hp (u_ h hi);exact RV h.s.1 h.s.2 h1.1 h1.2
theorem AM {W R:Nat}{sl:Int}{S:List aS}(h:dB W R sl S){p:Int}(hp:0<=p/\p<=29):∀j,j<=S.length->0<=eU W sl S p j/\eU W sl S p j<=99999
 |0,_=>by simp[eU]
 |j + 1,hj=>by
  have h1:=AM h hp j ae;have h2:=yx h hp (i:=j) ae;have h3:=(h.a j ae).2;simp only[eU];omega
theorem Ef {W R:Nat}{sl:Int}{S:List aS}(h:dB W R sl S){p:Int}(hp:0<=p/\p<=29):∀j,j<=S.length->0<=eW W sl S p j/\eW W sl S p j<=99999
 |0,_=>by simp[eW]
 |j + 1,hj=>by
  have h1:=Ef h hp j ae;have h2:=yx h hp (i:=j) ae;have h3:=(h.a j ae).2;simp only[eW];omega
theorem aj2 (W R:Nat)(sl:Int)(S:List aS)(h:dB W R sl S)(p:Int)(hp:0<=p/\p<=29):ak aa 172 [.agg (fy W R sl S),i64 p] (i64 (eU W sl S p S.length)):=by
 have hn:=h.n;refine cT func172 ntmps172 results172 call172 λw0 S0 M0=> ?_;repeat'(first|refine aq ?_|refine au λK hK=> ?_|(intro hg;try exact ai)|exact fin|apply af)
 refine dn (ι:=Nat) (λj=>[(1,i64 p),(2, .box 0 0),(5,i64 (eU W sl S p j)),(10, .list (S.map dU)),(11,i64 S.length),(12,i64 j)]) (λ_=>[.mu (fy W R sl S)]) (λ_=>[]) (λj=>j<=S.length) (λj=>S.length - j) (λ_ _=>⟨rfl,rfl⟩) 0 (bD _) (br rfl (by try refine aj ?_;try simp[eU]) ⟨_,rfl⟩ ⟨_,rfl⟩) (λj hj=> ?_);have hb:=AM h hp j hj;by_cases aG:j < S.length
 ·have h2:=yx h hp aG;have h3:=(h.a j aG).2;have h4:=uA (W:=W) (a:=p) (b:=(nth S j).p) (by have:=h.w;omega) hp (u_ h aG);have c1:=BT W R p (nth S j).p (by have:=h.w;omega) hp (u_ h aG);have c2:=MZ (eU W sl S p j) ((nth S j).lo - sl * dR W p (nth S j).p);have e1:eU W sl S p (j + 1)=max (eU W sl S p j) ((nth S j).lo - sl * dR W p (nth S j).p):=rfl;refine aj ?_;repeat'(first|refine aq ?_|refine au λK hK=> ?_|refine cA (c1) ?_|refine cA (c2) ?_|(intro hg;try exact ai)|exact fin|apply af)
  all_goals first|exact⟨j + 1,ae,ae,br rfl (by try refine aj ?_;try simp[e1]) ⟨_,rfl⟩ ⟨_,rfl⟩⟩|skip
 ·obtain rfl:j=S.length:=ae;refine aj ?_;repeat'(first|refine aq ?_|refine au λK hK=> ?_|(intro hg;try exact ai)|exact fin|apply af)
  all_goals skip
theorem aj_ (W R:Nat)(sl:Int)(S:List aS)(h:dB W R sl S)(p:Int)(hp:0<=p/\p<=29):ak aa 173 [.agg (fy W R sl S),i64 p] (i64 (eW W sl S p S.length)):=by
 have hn:=h.n;refine cT func173 ntmps173 results173 call173 λw0 S0 M0=> ?_;repeat'(first|refine aq ?_|refine au λK hK=> ?_|(intro hg;try exact ai)|exact fin|apply af)
 refine dn (ι:=Nat) (λj=>[(1,i64 p),(2, .box 0 0),(5,i64 (eW W sl S p j)),(10, .list (S.map dU)),(11,i64 S.length),(12,i64 j)]) (λ_=>[.mu (fy W R sl S)]) (λ_=>[]) (λj=>j<=S.length) (λj=>S.length - j) (λ_ _=>⟨rfl,rfl⟩) 0 (bD _) (br rfl (by try refine aj ?_;try simp[eW]) ⟨_,rfl⟩ ⟨_,rfl⟩) (λj hj=> ?_);have hb:=Ef h hp j hj;by_cases aG:j < S.length
 ·have h2:=yx h hp aG;have h3:=(h.a j aG).2;have h4:=uA (W:=W) (a:=p) (b:=(nth S j).p) (by have:=h.w;omega) hp (u_ h aG);have c1:=BT W R p (nth S j).p (by have:=h.w;omega) hp (u_ h aG);have c2:=Wg (eW W sl S p j) ((nth S j).hi + sl * dR W p (nth S j).p);have e1:eW W sl S p (j + 1)=min (eW W sl S p j) ((nth S j).hi + sl * dR W p (nth S j).p):=rfl;refine aj ?_;repeat'(first|refine aq ?_|refine au λK hK=> ?_|refine cA (c1) ?_|refine cA (c2) ?_|(intro hg;try exact ai)|exact fin|apply af)
  all_goals first|exact⟨j + 1,ae,ae,br rfl (by try refine aj ?_;try simp[e1]) ⟨_,rfl⟩ ⟨_,rfl⟩⟩|skip
 ·obtain rfl:j=S.length:=ae;refine aj ?_;repeat'(first|refine aq ?_|refine au λK hK=> ?_|(intro hg;try exact ai)|exact fin|apply af)
  all_goals skip
def fp (W sl:Int)(S:List aS):Prop:=∀i k,i < k->k < S.length->(nth S i).lo - sl * dR W (nth S i).p (nth S k).p<=(nth S k).hi/\(nth S k).lo - sl * dR W (nth S i).p (nth S k).p<=(nth S i).hi
theorem akq (W R:Nat)(sl:Int)(S:List aS)(h:dB W R sl S)(hc:fp W sl S)(i k:Nat)(xk:i < k)(hk:k < S.length):ak aa 226 [.agg (fy W R sl S),dU (nth S i),dU (nth S k)] (.bool false):=by
 have h1:=u_ h (i:=i) ae;have h2:=u_ h hk;have c1:=BT W R (nth S i).p (nth S k).p (by have:=h.w;omega) h1 h2;have h3:=hc i k xk hk;have h4:=yx h h1 hk;have h5:=(h.a i ae).2;have h6:=(h.a k hk).2;have h7:=uA (W:=W) (a:=(nth S i).p) (b:=(nth S k).p) (by have:=h.w;omega) h1 h2;refine cT func226 ntmps226 results226 call226 λw0 S0 M0=> ?_;repeat'(first|refine aq ?_|refine au λK hK=> ?_|refine cA (c1) ?_|(intro hg;try exact ai)|exact fin|apply af)
 all_goals(rw[decide_eq_false ae])
theorem Wn (W R:Nat)(sl:Int)(S:List aS)(h:dB W R sl S)(hc:fp W sl S):ak aa 171 [.agg (fy W R sl S)] (.aF [i64 0,i64 0, .bool false]):=by
 have hn:=h.n;refine cT func171 ntmps171 results171 call171 λw0 S0 M0=> ?_;repeat'(first|refine aq ?_|refine au λK hK=> ?_|(intro hg;try exact ai)|exact fin|apply af)
 refine dn (ι:=Nat) (λi=>[(1, .box 0 0),(10, .list (S.map dU)),(11,i64 S.length),(12,i64 i)]) (λ_=>[.mu (fy W R sl S)]) (λ_=>[]) (λi=>i<=S.length) (λi=>S.length - i) (λ_ _=>⟨rfl,rfl⟩) 0 (bD _) bY (λi hi=> ?_);by_cases aG:i < S.length
 ·refine aj ?_;repeat'(first|refine aq ?_|refine au λK hK=> ?_|(intro hg;try exact ai)|exact fin|apply af)
  refine dn (ι:=Nat) (λk=>[(1, .box 0 0),(5,i64 i),(6, .box 1 0),(7,i64 k),(10, .list (S.map dU)),(11,i64 S.length),(12,i64 i)]) (λ_=>[.mu (fy W R sl S), .mu [i64 (nth S i).p,i64 (nth S i).lo,i64 (nth S i).hi]]) (λ_=>[]) (λk=>i < k/\k<=S.length) (λk=>S.length - k) (λ_ _=>⟨rfl,rfl⟩) (i + 1) ⟨ae,ae⟩ bY (λk ⟨cX,hk⟩=> ?_);by_cases zd:k < S.length
  ·have c1:=akq W R sl S h hc i k cX zd;refine aj ?_;repeat'(first|refine aq ?_|refine au λK hK=> ?_|refine cA (c1) ?_|(intro hg;try exact ai)|exact fin|apply af)
   all_goals first|exact⟨k + 1,⟨ae,ae⟩,ae,bY⟩|skip
  ·obtain rfl:k=S.length:=ae;refine aj ?_;repeat'(first|refine aq ?_|refine au λK hK=> ?_|(intro hg;try exact ai)|exact fin|apply af)
   all_goals first|exact⟨i + 1,ae,ae,bY⟩|skip
 ·obtain rfl:i=S.length:=ae;refine aj ?_;repeat'(first|refine aq ?_|refine au λK hK=> ?_|(intro hg;try exact ai)|exact fin|apply af)
  all_goals rfl
theorem ajd (W R:Nat)(sl:Int)(S:List aS)(h:dB W R sl S)(i:Nat)(hi:i < S.length):ak aa 149 [dU (nth S i), .ro (cx W R sl S)] (.bool false):=by
 have h1:=(h.a i hi);have h2:=tq h.w h.r;have h3:(W:Int) * R=((W * R:Nat):Int):=by simp
 have c1:ak aa 122 [i64 (nth S i).p,i64 0,i64 ((W:Int) * R - 1)] (.bool true):=by have:=BQ (nth S i).p 0 ((W:Int) * R - 1);rwa [decide_eq_true h1.1]at this
 refine cT func149 ntmps149 results149 call149 λw0 S0 M0=> ?_;repeat'(first|refine aq ?_|refine au λK hK=> ?_|refine cA (c1) ?_|(intro hg;try exact ai)|exact fin|apply af)
 all_goals(rw[decide_eq_false ae])
theorem akc (W R:Nat)(sl:Int)(S:List aS)(h:dB W R sl S):ak aa 148 [.list (S.map dU), .ag 149 [.ro (cx W R sl S)]] (.aF [.agg [i64 0,i64 0,i64 0], .bool false]):=by
 have hn:=h.n;refine cT func148 ntmps148 results148 call148 λw0 S0 M0=> ?_;repeat'(first|refine aq ?_|refine au λK hK=> ?_|(intro hg;try exact ai)|exact fin|apply af)
 refine dn (ι:=Nat) (λi=>[(1, .ag 149 [.ro (cx W R sl S)]),(4, .box 0 0),(9, .list (S.map dU)),(10,i64 S.length),(11,i64 i)]) (λ_=>[.mu [i64 0,i64 0,i64 0]]) (λ_=>[]) (λi=>i<=S.length) (λi=>S.length - i) (λ_ _=>⟨rfl,rfl⟩) 0 (bD _) bY (λi hi=> ?_);by_cases aG:i < S.length
 ·have c1:=ajd W R sl S h i aG;refine aj ?_;repeat'(first|refine aq ?_|refine au λK hK=> ?_|refine cA (c1) ?_|(intro hg;try exact ai)|exact fin|apply af)
  all_goals first|exact⟨i + 1,ae,ae,bY⟩|skip
 ·obtain rfl:i=S.length:=ae;refine aj ?_;repeat'(first|refine aq ?_|refine au λK hK=> ?_|(intro hg;try exact ai)|exact fin|apply af)
  all_goals rfl
theorem Iz (W R:Nat)(sl:Int)(S:List aS)(h:dB W R sl S):ak aa 111 [.agg (cx W R sl S)] (.bool true):=by
 have hn:=h.n;have hw:=h.w;have hr:=h.r;have hs:=h.s;have c1:ak aa 122 [i64 W,i64 1,i64 6] (.bool true):=by have:=BQ W 1 6;rwa [decide_eq_true ae]at this
 have c2:ak aa 122 [i64 R,i64 1,i64 5] (.bool true):=by have:=BQ R 1 5;rwa [decide_eq_true ae]at this
 have c3:ak aa 122 [i64 sl,i64 0,i64 5000] (.bool true):=by have:=BQ sl 0 5000;rwa [decide_eq_true ae]at this
 have c4:=akc W R sl S h;refine cT func111 ntmps111 results111 call111 λw0 S0 M0=> ?_;repeat'(first|(refine j6 0 _ _ rfl rfl ?_;simp only[aU,Nat.reduceAdd])|refine aq ?_|refine au λK hK=> ?_|refine cA (c1) ?_|refine cA (c2) ?_|refine cA (c3) ?_|refine cA (c4) ?_|(intro hg;try exact ai)|exact fin|apply af)
 all_goals rfl
theorem NO (W R:Nat)(sl:Int)(S:List aS):ak aa 170 [.agg (cx W R sl S)] (.agg (fy W R sl S)):=by
 refine cT func170 ntmps170 results170 call170 λw0 S0 M0=> ?_;repeat'(first|refine aq ?_|refine au λK hK=> ?_|(intro hg;try exact ai)|exact fin|apply af)
 all_goals rfl
theorem Wr (d:List D)(hd:d.all D.one=true):ak aa 118 [.agg d] (.bool true):=by
 refine cT func118 ntmps118 results118 call118 λw0 S0 M0=> ?_;repeat'(first|refine aq ?_|refine au λK hK=> ?_|(intro hg;try exact ai)|exact fin|apply af)
 all_goals first|rfl|exact hd|skip
theorem ajm (W R:Nat)(sl:Int)(S:List aS)(h:dB W R sl S)(hc:fp W sl S):ak aa 117 [.agg (cx W R sl S), .ag 118 []] (.aF [.agg (fy W R sl S),i64 0]):=by
 have c1:=Iz W R sl S h;have c2:=NO W R sl S;have c3:=Wr (fy W R sl S) rfl;have c4:=Wn W R sl S h hc;refine cT func117 ntmps117 results117 call117 λw0 S0 M0=> ?_;repeat'(first|refine aq ?_|refine au λK hK=> ?_|refine cA (c1) ?_|refine cA (c2) ?_|refine cA (c3) ?_|refine cA (c4) ?_|(intro hg;try exact ai)|exact fin|apply af)
 all_goals rfl
abbrev nQ (W sl:Int)(S:List aS)(n:Nat):List D:=(ct n).map λ(q:Nat)=>i64 (eU W sl S q S.length)
abbrev q8 (W sl:Int)(S:List aS)(n:Nat):List D:=(ct n).map λ(q:Nat)=>i64 (eW W sl S q S.length)
def GZ:Nat->List D
 |0=>[.val (.slice none 0 0), .val (.slice none 0 0)]
 |1=>[.own 0, .val (.slice none 0 0)]
 |_=>[.own 0, .own 1]
def GI (W sl:Int)(S:List aS)(n:Nat):Nat->List Row
 |0=>[]
 |1=>[⟨true,3,1,nQ W sl S n⟩]
 |_=>[⟨true,3,1,nQ W sl S n⟩,⟨true,3,1,q8 W sl S n⟩]
theorem aep (W sl:Int)(S:List aS)(n:Nat):nQ W sl S (n + 1)=nQ W sl S n++[i64 (eU W sl S n S.length)]:=by unfold nQ;rw[Fx,x_];rfl
theorem agu (W sl:Int)(S:List aS)(n:Nat):q8 W sl S (n + 1)=q8 W sl S n++[i64 (eW W sl S n S.length)]:=by unfold q8;rw[Fx,x_];rfl
theorem NP (W R:Nat)(sl:Int)(S:List aS)(h:dB W R sl S):ak aa 119 [.agg (fy W R sl S)] (.agg [.list (nQ W sl S (W * R)), .list (q8 W sl S (W * R))]):=by
 have hn:=h.n;have hw:=h.w;have hr:=h.r;have h2:=tq h.w h.r;have h3:(W:Int) * R=((W * R:Nat):Int):=by simp
 refine cT func119 ntmps119 results119 call119 λw0 S0 M0=> ?_;repeat'(first|refine bh ?_|((first|refine bj λK hK=> ?_|refine bg ?_|show bb _ _ _ _ _);(refine sX (@h3) ?_))|(intro hg;try exact ai)|exact fin|apply af)
 refine dn (ι:=Nat) (λi=>[(1, .box 0 0),(2, .box 1 0),(3, .box 2 0),(12, .agg [.cL 172 [.agg (fy W R sl S)], .cL 173 [.agg (fy W R sl S)]]),(13,i64 i)]) (λi=>[.mu (fy W R sl S), .mu [.val (.slice none 0 0), .val (.slice none 0 0)], .mu (GZ i)]) (λi=>GI W sl S (W * R) i)
  (λi=>i<=2) (λi=>2 - i) (λi hi=>by match i,hi with|0,_=>exact⟨rfl,rfl⟩|1,_=>exact⟨rfl,rfl⟩|2,_=>exact⟨rfl,rfl⟩) 0 ae (br rfl (by try refine sX (@h3) ?_;try simp) ⟨_,rfl⟩ ⟨_,rfl⟩) (λi hi=> ?_)
 match i,hi with
 |0,_=>
  have e0:GZ 0=[.val (.slice none 0 0), .val (.slice none 0 0)]:=rfl;have e1:GI W sl S (W * R) 0=[]:=rfl;rw[e0,e1];refine sX (af @h3 (@fb)) ?_;repeat'(first|refine bh ?_|((first|refine bj λK hK=> ?_|refine bg ?_|show bb _ _ _ _ _);(refine sX (af @h3 (@fb)) ?_))|(intro hg;try exact ai)|exact fin|apply af)
  refine B3 2 0 3 1 _ rfl rfl ?_;refine dn (ι:=Nat) (λp=>[(1, .box 0 0),(2, .box 1 0),(3, .box 2 0),(4,i64 0),(5, .cL 172 [.agg (fy W R sl S)]),(12, .agg [.cL 172 [.agg (fy W R sl S)], .cL 173 [.agg (fy W R sl S)]]),(13,i64 0),(23,i64 (W * R:Nat)),(24,i64 p)]) (λ_=>[.mu (fy W R sl S), .mu [.val (.slice none 0 0), .val (.slice none 0 0)], .mu [.own 0, .val (.slice none 0 0)]]) (λp=>[⟨true,3,1,nQ W sl S p⟩])
   (λp=>p<=W * R) (λp=>W * R - p) (λ_ _=>⟨rfl,rfl⟩) 0 (bD _) (br rfl (by try refine sX (af @h3 (@fb)) ?_;try simp) ⟨_,rfl⟩ ⟨_,rfl⟩) (λp hp=> ?_)
  by_cases aG:p < W * R
  ·have c1:=aj2 W R sl S h p ae;have hl:(nQ W sl S p).length=p:=by simp
   have hs:=aep W sl S p;generalize nQ W sl S p=xs at *;refine sX (af @h3 (@fb)) ?_;repeat'(first|refine bh ?_|((first|refine bj λK hK=> ?_|refine bg ?_|show bb _ _ _ _ _|refine bo (c1) ?_);(refine sX (af @h3 (@fb)) ?_))|(intro hg;try exact ai)|exact fin|apply af)
   all_goals first|exact⟨p + 1,ae,ae,br rfl (by try refine sX (af @h3 (@fb)) ?_;try simp) ⟨_,rfl⟩ ⟨[],by simp[hs]⟩⟩|skip
  ·obtain rfl:p=W * R:=ae;refine sX (af @h3 (@fb)) ?_;repeat'(first|refine bh ?_|((first|refine bj λK hK=> ?_|refine bg ?_|show bb _ _ _ _ _);(refine sX (af @h3 (@fb)) ?_))|(intro hg;try exact ai)|exact fin|apply af)
   all_goals first|exact⟨1,ae,ae,br rfl (by try refine sX (af @h3 (@fb)) ?_;try simp) ⟨_,rfl⟩ ⟨_,rfl⟩⟩|skip
 |1,_=>
  have e0:GZ 1=[.own 0, .val (.slice none 0 0)]:=rfl;have e1:GI W sl S (W * R) 1=[⟨true,3,1,nQ W sl S (W * R)⟩]:=rfl;rw[e0,e1];generalize lg:nQ W sl S (W * R)=ys at *;refine sX (af @h3 (@fe)) ?_;repeat'(first|refine bh ?_|((first|refine bj λK hK=> ?_|refine bg ?_|show bb _ _ _ _ _);(refine sX (af @h3 (@fe)) ?_))|(intro hg;try exact ai)|exact fin|apply af)
  refine B3 2 1 3 1 _ rfl rfl ?_;refine dn (ι:=Nat) (λp=>[(1, .box 0 0),(2, .box 1 0),(3, .box 2 0),(4,i64 1),(5, .cL 173 [.agg (fy W R sl S)]),(12, .agg [.cL 172 [.agg (fy W R sl S)], .cL 173 [.agg (fy W R sl S)]]),(13,i64 1),(23,i64 (W * R:Nat)),(24,i64 p)]) (λ_=>[.mu (fy W R sl S), .mu [.val (.slice none 0 0), .val (.slice none 0 0)], .mu [.own 0, .own 1]]) (λp=>[⟨true,3,1,ys⟩,⟨true,3,1,q8 W sl S p⟩])
   (λp=>p<=W * R) (λp=>W * R - p) (λ_ _=>⟨rfl,rfl⟩) 0 (bD _) (br rfl (by try refine sX (af @h3 (@fe)) ?_;try simp) ⟨_,rfl⟩ ⟨_,rfl⟩) (λp hp=> ?_)
  by_cases aG:p < W * R
  ·have c1:=aj_ W R sl S h p ae;have hl:(q8 W sl S p).length=p:=by simp
   have hs:=agu W sl S p;generalize q8 W sl S p=xs at *;refine sX (af @h3 (@fe)) ?_;repeat'(first|refine bh ?_|((first|refine bj λK hK=> ?_|refine bg ?_|show bb _ _ _ _ _|refine bo (c1) ?_);(refine sX (af @h3 (@fe)) ?_))|(intro hg;try exact ai)|exact fin|apply af)
   all_goals first|exact⟨p + 1,ae,ae,br rfl (by try refine sX (af @h3 (@fe)) ?_;try simp) ⟨_,rfl⟩ ⟨[],by simp[hs]⟩⟩|skip
  ·obtain rfl:p=W * R:=ae;refine sX (af @h3 (@fe)) ?_;repeat'(first|refine bh ?_|((first|refine bj λK hK=> ?_|refine bg ?_|show bb _ _ _ _ _);(refine sX (af @h3 (@fe)) ?_))|(intro hg;try exact ai)|exact fin|apply af)
   all_goals first|exact⟨2,ae,ae,br rfl (by try refine sX (af @h3 (@fe)) ?_;try simp) ⟨_,rfl⟩ ⟨[],by subst lg;rfl⟩⟩|skip
 |2,_=>
  have e0:GZ 2=[.own 0, .own 1]:=rfl;have e1:GI W sl S (W * R) 2=[⟨true,3,1,nQ W sl S (W * R)⟩,⟨true,3,1,q8 W sl S (W * R)⟩]:=rfl;rw[e0,e1];refine sX (@h3) ?_;repeat'(first|refine bh ?_|((first|refine bj λK hK=> ?_|refine bg ?_|show bb _ _ _ _ _);(refine sX (@h3) ?_))|(intro hg;try exact ai)|exact fin|apply af)
  all_goals skip
end Go.Proofs.YtafmfhkplgapjaaGreatDoor
namespace Go.oO
open Go.Lib
def parts (c:UInt8):List UInt8->List (List UInt8)
 |[]=>[[]]
 |b::s=>if b=c then[]::parts c s else match parts c s with
  |w::ws=>(b::w)::ws
  |[]=>[[b]]
theorem adt (c:UInt8):∀s,parts c s≠[]
 |[]=>by simp[parts]
 |b::s=>by
  unfold parts;split
  ·simp
  ·split<;>simp
theorem KV {c b:UInt8}{s:List UInt8}(h:b≠c):∃w ws,parts c s=w::ws/\parts c (b::s)=(b::w)::ws:=by
 cases hp:parts c s with
 |nil=>exact absurd hp (adt c s)
 |cons w ws=>
  refine⟨w,ws,rfl, ?_⟩;rw[parts,if_neg h,hp]
theorem Rh {c:UInt8}{s:List UInt8}:parts c (c::s)=[]::parts c s:=by rw[parts,if_pos rfl]
theorem KU (c:UInt8):∀s,∀w∈parts c s,c∉w
 |[],w,hw=>by simp[parts]at hw;subst hw;simp
 |b::s,w,hw=>by
  by_cases h:b=c
  ·subst h;rw[Rh]at hw;rcases eK.1 hw with rfl|hw
   ·simp
   ·exact KU b s w hw
  ·obtain⟨x,xs,h1,h2⟩:=KV (s:=s) h;rw[h2]at hw;rcases eK.1 hw with rfl|hw
   ·have:=KU c s x (by rw[h1];exact List.mem_cons_self ..);simp only[eK,not_or];exact⟨λe=>h e.symm,this⟩
   ·exact KU c s w (by rw[h1];exact List.mem_cons_of_mem _ hw)
theorem Ri (c:UInt8)(t:List UInt8):∀p:List UInt8,c∉p->parts c (p++c::t)=p::parts c t
 |[],_=>Rh
 |b::p,h=>by
  simp only[eK,not_or]at h;have ih:=Ri c t p h.2;obtain⟨w,ws,h1,h2⟩:=KV (c:=c) (b:=b) (s:=p++c::t) (λe=>h.1 e.symm);rw[List.cons_append,h2];rw[ih]at h1;cases h1;rfl
theorem Rg (c:UInt8):∀p:List UInt8,c∉p->parts c p=[p]
 |[],_=>rfl
 |b::p,h=>by
  simp only[eK,not_or]at h;have ih:=Rg c p h.2;obtain⟨w,ws,h1,h2⟩:=KV (c:=c) (b:=b) (s:=p) (λe=>h.1 e.symm);rw[h2];rw[ih]at h1;cases h1;rfl
theorem ajN (c:UInt8):∀p:List UInt8,c∉p->p.count c=0:=λp h=>List.count_eq_zero.2 h
theorem K_ {c:UInt8}{s:List UInt8}{j:Nat}:occAt s [c] j=true↔s[j]? =some c:=by
 unfold occAt;cases h:s.drop j with
 |nil=>
  have:s[j]? =none:=by rw[List.getElem?_eq_none_iff];have:=List.length_drop (l:=s) (i:=j);rw[h]at this;simp at this;omega
  simp[this]
 |cons a t=>
  have:s[j]? =some a:=by have:=List.getElem?_drop (xs:=s) (i:=j) (j:=0);rw[h]at this;simpa using this.symm
  rw[this];simp only[List.isPrefixOf,Bool.and_true,beq_iff_eq,Option.some.injEq];exact eq_comm
theorem afw {c:UInt8}{s:List UInt8}(h:c∉s):index s [c]= -1:=index_none λj _=>by
 rw[Bool.eq_false_iff];intro hh;exact h (ey (K_.1 hh))
theorem LD {c:UInt8}{p t:List UInt8}(h:c∉p):index (p++c::t) [c]=p.length:=
 index_first (by simp) (K_.2 (by simp)) λj hj=>by
  rw[Bool.eq_false_iff];intro hh;have:=K_.1 hh;rw[bQ hj]at this;exact h (ey this)
theorem NF {c:UInt8}:∀s:List UInt8,c∈s->∃p t,s=p++c::t/\c∉p
 |b::s,h=>by
  by_cases hb:b=c
  ·exact⟨[],s,by rw[hb];rfl,by simp⟩
  ·obtain⟨p,t,e,hp⟩:=NF s (by rcases eK.1 h with h|h;exact absurd h.symm hb;exact h);exact⟨b::p,t,by rw[e];rfl,by simp only[eK,not_or];exact⟨λe=>hb e.symm,hp⟩⟩
theorem PX (c:UInt8):∀(k:Nat) (s:List UInt8),s.count c=k->splitK [c] 0 k s=parts c s
 |0,s,h=>by
  have hf:c∉s:=List.count_eq_zero.1 h;rw[Rg c s hf];rfl
 |k + 1,s,h=>by
  obtain⟨p,t,rfl,hp⟩:=NF s (List.count_pos_iff.1 (show 0 < s.count c by omega));have hc:t.count c=k:=by rw[List.count_append,ajN c p hp]at h;simp at h;omega
  have e:splitK [c] 0 (k + 1) (p++c::t)=p::splitK [c] 0 k t:=by
   have h1:¬((index (p++c::t) [c] == -1)=true):=by rw[LD hp];simp
   rw[splitK,if_neg h1,LD hp];simp
  rw[Ri c t p hp,<-PX c k t hc,e]
def vb (c:UInt8)(s:ByteArray):List ByteArray:=(parts c s.data.toList).map λw=>⟨w.toArray⟩
theorem PY (c:UInt8)(s:ByteArray):splitB ⟨#[c]⟩ 0 (countB s ⟨#[c]⟩) s=vb c s:=by
 have h:=splitB_data ⟨#[c]⟩ 0 (countB s ⟨#[c]⟩) s;have e:countB s ⟨#[c]⟩=s.data.toList.count c:=by unfold countB;exact count_one c _
 rw[e]at h⊢;rw[show(ByteArray.mk #[c]).data.toList=[c]from rfl,PX c _ _ rfl]at h;unfold vb;rw[<-h,List.map_map]
 conv=>lhs;rw[<-List.map_id (splitB _ _ _ _)]
 refine List.map_congr_left λx _=> ?_;show x=⟨x.data.toList.toArray⟩;simp
theorem NB {u:Nat}(h:u < 10):decDigits u=[B6 (48 + u)]:=by rw[decDigits,dif_pos h]
theorem ND {u:Nat}(h:¬u < 10):decDigits u=decDigits (u / 10)++[B6 (48 + u % 10)]:=by rw[decDigits,dif_neg h]
def qT (b:UInt8):Prop:=48<=b.toNat/\b.toNat<=57
instance(b:UInt8):Decidable (qT b):=by unfold qT;infer_instance
theorem Iw {n:Nat}(h:n < 10):(B6 (48 + n)).toNat=48 + n:=by
 rw[UInt8.toNat_ofNat'];omega
theorem NC:∀(u:Nat),∀b∈decDigits u,qT b:=by
 intro u;induction u using Nat.strongRecOn with
 |_ u ih=>
  intro b hb;by_cases h:u < 10
  ·rw[NB h]at hb;simp only[oQ]at hb;subst hb;unfold qT;rw[Iw h];omega
  ·rw[ND h]at hb;rcases List.mem_append.1 hb with hb|hb
   ·exact ih (u / 10) (by omega) b hb
   ·simp only[oQ]at hb;subst hb;unfold qT;rw[Iw (Nat.mod_lt _ (by decide))];omega
def val (l:List UInt8):Nat:=l.foldl (λn b=>10 * n + (b.toNat - 48)) 0
theorem Py (l:List UInt8)(b:UInt8):val (l++[b])=10 * val l + (b.toNat - 48):=by simp[val]
theorem YQ:∀u:Nat,val (decDigits u)=u:=by
 intro u;induction u using Nat.strongRecOn with
 |_ u ih=>
  by_cases h:u < 10
  ·rw[NB h];show 10 * 0 + ((B6 (48 + u)).toNat - 48)=u;rw[Iw h];omega
  ·rw[ND h,Py,ih (u / 10) (by omega),Iw (Nat.mod_lt _ (by decide))];omega
theorem VW (u:Nat):decDigits u≠[]:=by
 by_cases h:u < 10
 ·rw[NB h];simp
 ·rw[ND h];simp
theorem SY (n:Int)(h:0<=n):itoa n=decDigits n.toNat:=by unfold itoa;rw[if_neg (by omega)]
theorem afo (n:Int)(h:n < 0):itoa n=45::decDigits n.natAbs:=by unfold itoa;rw[if_pos h]
theorem ai9 (u:Nat):(45:UInt8)∉decDigits u:=λh=>by have:=NC u 45 h;unfold qT at this;exact absurd this.1 (by decide)
end Go.oO
namespace Go.Lib
theorem afx (c:UInt8):∀s:List UInt8,index s [c]=indexByte s c:=by
 intro s;by_cases h:c∈s
 ·obtain⟨p,t,rfl,hp⟩:=Go.oO.NF s h;rw[Go.oO.LD hp];rcases Int.lt_or_le (indexByte (p++c::t) c) 0 with hn|hn
  ·have hm:indexByte (p++c::t) c= -1:=by have:=indexByte_ge (p++c::t) c;omega
   exact absurd (by simp) (indexByte_none hm p.length)
  ·obtain⟨o,ho⟩:=alN hn;obtain⟨h1,h2⟩:=indexByte_some ho;rw[ho];rcases Nat.lt_trichotomy o p.length with aG|he|HQ
   ·rw[bQ aG]at h1;exact absurd (ey h1) hp
   ·rw[he]
   ·exact absurd (by simp) (h2 p.length HQ)
 ·rw[Go.oO.afw h];rcases Int.lt_or_le (indexByte s c) 0 with hn|hn
  ·have:=indexByte_ge s c;omega
  ·obtain⟨o,ho⟩:=alN hn;exact absurd (ey (indexByte_some ho).1) h
end Go.Lib
namespace Go.Proofs
set_option maxRecDepth 100000
set_option maxHeartbeats 4000000
open Go.Shelf
open Go.RowKit in
def Tryz.Lr:Cu:=⟨λ|156=>131|165=>197|166=>69|169=>70|240=>104|241=>251|276=>133|277=>296|n=>n,λ|31=>79|9=>9|3=>3|4=>4|0=>0|20=>20|72=>130|76=>137|70=>127|37=>128|75=>136|127=>192|164=>223|5=>5|80=>139|n=>n,λ|n=>n⟩
theorem Tryz.Sx:Go.Proofs.Lays.n156 aa Tryz.Lr:={
 mixed:=by kernel_rfl
 f156:=func131.trans (congrArg some (by kernel_rfl))
 f165:=func197.trans (congrArg some (by kernel_rfl))
 f166:=func69.trans (congrArg some (by kernel_rfl))
 f169:=func70.trans (congrArg some (by kernel_rfl))
 f240:=func104.trans (congrArg some (by kernel_rfl))
 f241:=func251.trans (congrArg some (by kernel_rfl))
 f276:=func133.trans (congrArg some (by kernel_rfl))
 f277:=func296.trans (congrArg some (by kernel_rfl))
 t0:=Om
 a0:=isAgg0
 z0:=Oq
 v0:=Oh
 t3:=xR
 a3:=Cb
 z3:=B_
 v3:=B8
 t4:=zM
 a4:=Ca
 z4:=B9
 v4:=B7
 t9:=ia
 a9:=Fh
 z9:=Fe
 v9:=Fc
 t20:=underlying20
 a20:=isAgg20
 z20:=sizeOf20
 v20:=zeroValue20
 t31:=underlying79
 a31:=isAgg79
 z31:=sizeOf79
 v31:=zeroValue79
 t37:=underlying128
 a37:=isAgg128
 z37:=sizeOf128
 v37:=zeroValue128
 t70:=underlying127
 a70:=isAgg127
 z70:=sizeOf127
 v70:=zeroValue127
 t72:=underlying130
 a72:=isAgg130
 z72:=sizeOf130
 v72:=zeroValue130
 t75:=underlying136
 a75:=isAgg136
 z75:=sizeOf136
 v75:=zeroValue136
 t76:=underlying137
 a76:=isAgg137
 z76:=sizeOf137
 v76:=zeroValue137
 t127:=underlying192
 a127:=isAgg192
 z127:=sizeOf192
 v127:=zeroValue192
 t164:=underlying223
 a164:=isAgg223
 z164:=sizeOf223
 v164:=zeroValue223}
theorem Tryz.FW:Builder.Extra aa Tryz.Lr:={
 sizeBuilder:=by kernel_rfl
 liesBuilder:=by kernel_rfl
 t5:=I_
 a5:=Jg
 z5:=I'
 v5:=I9
 infoByte:=by kernel_rfl
 cellsByte:=by kernel_rfl
 sizeByte:=by kernel_rfl
 neB5:=by decide}
open Go.RowKit in
theorem Tryz.strings_Join (bk o c:Nat)(xs:List ByteArray)(sep:ByteArray)(w:World)(zj:∀(j:Nat) x,xs[j]? =some x->w.cell? ⟨bk,o + j,none⟩=some (.string x))(ly:bk < w.heap.size)(hN:xs.length<=140737488355328)(eO:xs.length<=c)(hlen:(Lib.join (xs.map (·.data.toList)) sep.data.toList).length<=140737488355328):
  Calls aa 131 #[.slice (some ⟨bk,o,none⟩) xs.length c, .string sep] w λe w'=>e= .returned (.string ⟨(Lib.join (xs.map (·.data.toList)) sep.data.toList).toArray⟩)/\Below w.heap.size w w':=Any.strings_Join Tryz.Sx Tryz.FW bk o c xs sep w zj ly hN eO hlen
def Tryz.aeE:Cu:=⟨λ|122=>213|215=>266|n=>n,λ|3=>3|4=>4|n=>n,λ|n=>n⟩
theorem Tryz.aeF:Go.Proofs.Lays.n122 aa Tryz.aeE:={
 mixed:=by kernel_rfl
 f122:=func213.trans (congrArg some (by kernel_rfl))
 f215:=func266.trans (congrArg some (by kernel_rfl))
 t3:=xR
 a3:=Cb
 z3:=B_
 v3:=B8
 t4:=zM
 a4:=Ca
 z4:=B9
 v4:=B7}
open Go.RowKit in
theorem Tryz.cmp_Compare_int (x y:Int)(w:World):
  Calls aa 213 #[.int .i64 x, .int .i64 y] w λe w'=>e= .returned (.int .i64 (Lib.compareInt x y))/\w'=w:=Any.cmp_Compare_int Tryz.aeF x y w
def Tryz.aez:Cu:=⟨λ|171=>68|243=>103|246=>132|283=>198|284=>199|285=>200|286=>201|129=>253|317=>252|318=>254|319=>255|320=>256|337=>297|338=>298|n=>n,λ|3=>3|9=>9|2=>2|4=>4|171=>268|0=>0|53=>269|37=>128|5=>5|173=>272|212=>315|51=>316|20=>20|213=>317|46=>283|232=>384|233=>385|n=>n,λ|17=>1|18=>2|19=>3|n=>n⟩
theorem Tryz.aeA:Go.Proofs.LaysM.n171 aa Tryz.aez:={
 mixed:=by kernel_rfl
 f129:=func253.trans (congrArg some (by kernel_rfl))
 f171:=func68.trans (congrArg some (by kernel_rfl))
 f243:=func103.trans (congrArg some (by kernel_rfl))
 f246:=func132.trans (congrArg some (by kernel_rfl))
 f283:=func198.trans (congrArg some (by kernel_rfl))
 f284:=func199.trans (congrArg some (by kernel_rfl))
 f285:=func200.trans (congrArg some (by kernel_rfl))
 f286:=func201.trans (congrArg some (by kernel_rfl))
 f317:=func252.trans (congrArg some (by kernel_rfl))
 f318:=func254.trans (congrArg some (by kernel_rfl))
 f319:=func255.trans (congrArg some (by kernel_rfl))
 f320:=func256.trans (congrArg some (by kernel_rfl))
 f337:=func297.trans (congrArg some (by kernel_rfl))
 f338:=func298.trans (congrArg some (by kernel_rfl))
 t0:=Om
 a0:=isAgg0
 z0:=Oq
 v0:=Oh
 t2:=underlying2
 a2:=isAgg2
 z2:=sizeOf2
 v2:=zeroValue2
 t3:=xR
 a3:=Cb
 z3:=B_
 v3:=B8
 t4:=zM
 a4:=Ca
 z4:=B9
 v4:=B7
 t5:=I_
 a5:=Jg
 z5:=I'
 v5:=I9
 t9:=ia
 a9:=Fh
 z9:=Fe
 v9:=Fc
 t20:=underlying20
 a20:=isAgg20
 z20:=sizeOf20
 v20:=zeroValue20
 t37:=underlying128
 a37:=isAgg128
 z37:=sizeOf128
 v37:=zeroValue128
 t46:=Ol
 a46:=Oy
 z46:=Oo
 v46:=Og
 t51:=Oi
 a51:=Ox
 z51:=On
 v51:=Of
 t53:=underlying269
 a53:=isAgg269
 z53:=sizeOf269
 v53:=zeroValue269
 t171:=underlying268
 a171:=isAgg268
 z171:=sizeOf268
 v171:=zeroValue268
 t173:=underlying272
 a173:=isAgg272
 z173:=sizeOf272
 v173:=zeroValue272
 t212:=underlying315
 a212:=isAgg315
 z212:=sizeOf315
 v212:=zeroValue315
 t213:=underlying317
 a213:=isAgg317
 z213:=sizeOf317
 t232:=underlying384
 a232:=isAgg384
 z232:=sizeOf384
 v232:=zeroValue384
 t233:=underlying385
 a233:=isAgg385
 z233:=sizeOf385
 v233:=zeroValue385
 g17:=by kernel_rfl
 g18:=by kernel_rfl
 g19:=by kernel_rfl
 i0:=by kernel_rfl
 i2:=by kernel_rfl
 i3:=by kernel_rfl
 i4:=by kernel_rfl
 i5:=by kernel_rfl
 i9:=by kernel_rfl
 i20:=by kernel_rfl
 i37:=by kernel_rfl
 i46:=by kernel_rfl
 i51:=by kernel_rfl
 i53:=by kernel_rfl
 i171:=by kernel_rfl
 i173:=by kernel_rfl
 i212:=by kernel_rfl
 i232:=by kernel_rfl
 i233:=by kernel_rfl
 m17:=by kernel_rfl
 m18:=by kernel_rfl
 m19:=by kernel_rfl}
open Go.RowKit Go.Sort Go.Lib in
theorem Tryz.strconv_Itoa (n:Int)(h0: -9223372036854775808<=n)(h1:n<=9223372036854775807)(w:World)(afS:Lib.TabIs aa w "internal/strconv.uint64pow10" .u64 Lib.pow10Tab):
  Calls aa 68 #[.int .i64 n] w λe w'=>e= .returned (.string ⟨(Lib.itoa n).toArray⟩)/\∃k os,w'=grow (w.drewN k) os:=Any.strconv_Itoa Tryz.aeA n h0 h1 w afS
def Tryz.aeD:Cu:=⟨λ|143=>238|219=>179|217=>232|225=>233|224=>234|267=>235|266=>270|314=>271|n=>n,λ|9=>9|3=>3|4=>4|5=>5|46=>283|146=>329|51=>316|n=>n,λ|1=>0|n=>n⟩
theorem Tryz.Sy:Go.Proofs.Lays.n143 aa Tryz.aeD:={
 mixed:=by kernel_rfl
 f143:=func238.trans (congrArg some (by kernel_rfl))
 f217:=func232.trans (congrArg some (by kernel_rfl))
 f219:=func179.trans (congrArg some (by kernel_rfl))
 f224:=func234.trans (congrArg some (by kernel_rfl))
 f225:=func233.trans (congrArg some (by kernel_rfl))
 f266:=func270.trans (congrArg some (by kernel_rfl))
 f267:=func235.trans (congrArg some (by kernel_rfl))
 f314:=func271.trans (congrArg some (by kernel_rfl))
 t3:=xR
 a3:=Cb
 z3:=B_
 v3:=B8
 t4:=zM
 a4:=Ca
 z4:=B9
 v4:=B7
 t5:=I_
 a5:=Jg
 z5:=I'
 v5:=I9
 t9:=ia
 a9:=Fh
 z9:=Fe
 v9:=Fc
 t46:=Ol
 a46:=Oy
 z46:=Oo
 v46:=Og
 t51:=Oi
 a51:=Ox
 z51:=On
 v51:=Of
 t146:=underlying329
 a146:=isAgg329
 z146:=sizeOf329
 v146:=zeroValue329
 g1:=by kernel_rfl}
open Go.RowKit Go.Lib in
theorem Tryz.strings_Index_one (s:ByteArray)(c:UInt8)(w:World):
  Calls aa 238 #[.string s, .string ⟨#[c]⟩] w λe w'=>e= .returned (.int .i64 (ya s.data.toList c))/\w'=w:=Any.strings_Index_one Tryz.Sy s c w
open Go.RowKit Go.Lib in
def Tryz.aeG:Cu:=⟨λ|101=>196|208=>250|206=>295|n=>n,λ|9=>9|4=>4|3=>3|n=>n,λ|n=>n⟩
theorem Tryz.aeH:Go.Proofs.Lays.n101 aa Tryz.aeG:={
 mixed:=by kernel_rfl
 f101:=func196.trans (congrArg some (by kernel_rfl))
 f206:=func295.trans (congrArg some (by kernel_rfl))
 f208:=func250.trans (congrArg some (by kernel_rfl))
 t3:=xR
 a3:=Cb
 z3:=B_
 v3:=B8
 t4:=zM
 a4:=Ca
 z4:=B9
 v4:=B7
 t9:=ia
 a9:=Fh
 z9:=Fe
 v9:=Fc}
open Go.RowKit Go.Lib in
theorem Tryz.strings_TrimPrefix (s p:ByteArray)(w:World):
  Calls aa 196 #[.string s, .string p] w λe w'=>e= .returned (.string ⟨(Lib.trimPrefix s.data.toList p.data.toList).toArray⟩)/\w'=w:=Any.strings_TrimPrefix Tryz.aeH s p w
def Tryz.aeB:Cu:=⟨λ|146=>128|221=>180|268=>236|138=>237|143=>238|195=>272|197=>273|218=>274|219=>179|260=>305|217=>232|225=>233|224=>234|267=>235|266=>270|314=>271|n=>n,λ|9=>9|31=>79|3=>3|4=>4|0=>0|105=>331|21=>21|5=>5|46=>283|119=>389|139=>392|138=>391|146=>329|51=>316|n=>n,λ|1=>0|3=>4|4=>5|n=>n⟩
theorem Tryz.aeC:Go.Proofs.Lays.n146 aa Tryz.aeB:={
 mixed:=by kernel_rfl
 f138:=func237.trans (congrArg some (by kernel_rfl))
 f143:=func238.trans (congrArg some (by kernel_rfl))
 f146:=func128.trans (congrArg some (by kernel_rfl))
 f195:=func272.trans (congrArg some (by kernel_rfl))
 f197:=func273.trans (congrArg some (by kernel_rfl))
 f217:=func232.trans (congrArg some (by kernel_rfl))
 f218:=func274.trans (congrArg some (by kernel_rfl))
 f219:=func179.trans (congrArg some (by kernel_rfl))
 f221:=func180.trans (congrArg some (by kernel_rfl))
 f224:=func234.trans (congrArg some (by kernel_rfl))
 f225:=func233.trans (congrArg some (by kernel_rfl))
 f260:=func305.trans (congrArg some (by kernel_rfl))
 f266:=func270.trans (congrArg some (by kernel_rfl))
 f267:=func235.trans (congrArg some (by kernel_rfl))
 f268:=func236.trans (congrArg some (by kernel_rfl))
 f314:=func271.trans (congrArg some (by kernel_rfl))
 t0:=Om
 a0:=isAgg0
 z0:=Oq
 v0:=Oh
 t3:=xR
 a3:=Cb
 z3:=B_
 v3:=B8
 t4:=zM
 a4:=Ca
 z4:=B9
 v4:=B7
 t5:=I_
 a5:=Jg
 z5:=I'
 v5:=I9
 t9:=ia
 a9:=Fh
 z9:=Fe
 v9:=Fc
 t21:=underlying21
 a21:=isAgg21
 z21:=sizeOf21
 v21:=zeroValue21
 t31:=underlying79
 a31:=isAgg79
 z31:=sizeOf79
 v31:=zeroValue79
 t46:=Ol
 a46:=Oy
 z46:=Oo
 v46:=Og
 t51:=Oi
 a51:=Ox
 z51:=On
 v51:=Of
 t105:=underlying331
 a105:=isAgg331
 z105:=sizeOf331
 v105:=zeroValue331
 t119:=underlying389
 a119:=isAgg389
 z119:=sizeOf389
 t138:=underlying391
 a138:=isAgg391
 z138:=sizeOf391
 v138:=zeroValue391
 t139:=underlying392
 a139:=isAgg392
 z139:=sizeOf392
 v139:=zeroValue392
 t146:=underlying329
 a146:=isAgg329
 z146:=sizeOf329
 v146:=zeroValue329
 g1:=by kernel_rfl
 g3:=by kernel_rfl
 g4:=by kernel_rfl}
end Go.Proofs
namespace Go.Proofs
set_option maxRecDepth 100000
set_option maxHeartbeats 4000000
open Go.Shelf Go.RowKit Go.Lib
theorem aaW {P:Program}{ρ:Ren}(L:Lays.n146 P ρ)(hi9:(P.info? (ρ.t 9)).map (λi=>(i.zero,i.size,i.bytes))=some (some (.string ByteArray.empty),1,16))(s:ByteArray)(ch:UInt8)(w:World)
  (hs:s.size < 4294967281):
  Calls P (ρ.f 146) #[.string s, .string ⟨#[ch]⟩] w λe w'=>
   e= .returned (.slice (some ⟨w.heap.size,0,none⟩) (zZ s ⟨#[ch]⟩ + 1) (zZ s ⟨#[ch]⟩ + 1))/\w'=w.alloc (.cells ((Lib.splitB ⟨#[ch]⟩ 0 (zZ s ⟨#[ch]⟩) s).map I7).toArray (ρ.t 9)):=by
 have h1:1<=(ByteArray.mk #[ch]).size:=aY _;have hle:=Lib.countB_le ⟨#[ch]⟩ h1 s.size s (aY _);have hlen:=Lib.splitB_all ⟨#[ch]⟩ h1 0 _ s rfl;have c:=Any.strings_genSplit_core {L with} hi9 s ⟨#[ch]⟩ 0 (-1) (zZ s ⟨#[ch]⟩ + 1) w hs h1 (bD _)
  (λx cc hx=>(Any.strings_Index_one {L with} x ch _).mono λe w' ⟨he,hw⟩=>⟨by
   rw[he];show JE (k7 .i64 _)=JE (k7 .i64 (Lib.index x.data.toList [ch]));rw[afx],hw⟩)
  ((Any.strings_Count_one {L with} s ch w).mono λe w' ⟨he,hw⟩=>⟨by
   rw[he];show _=JE (k7 .i64 ((Lib.count s.data.toList [ch]:Nat):Int));rw[Lib.count_one];rfl,hw⟩) (by decide) (by decide) (by rw[if_pos (by decide)];omega)
 rw[Nat.add_sub_cancel,hlen]at c;have e2:Lib.cellsOf (Lib.splitB ⟨#[ch]⟩ 0 (zZ s ⟨#[ch]⟩) s) (zZ s ⟨#[ch]⟩ + 1)=((Lib.splitB ⟨#[ch]⟩ 0 (zZ s ⟨#[ch]⟩) s).map I7).toArray:=by rw[<-hlen];exact Lib.cellsOf_full _
 rw[e2]at c;have t3:=L.t3;have t9:=L.t9;have t31:=L.t31
 have a3:=L.a3;have a9:=L.a9;have a31:=L.a31
 have z3:=L.z3;have v3:=L.v3;have z9:=L.z9;have v9:=L.v9;have z31:=L.z31;have v31:=L.v31
 have anm:∀args w,(callFunc (ρ.f 221) args).run P w= .ok (.enter (ρ.f 221) args) w:=enters_of L.f221 (by kernel_rfl) rfl
 go_enter L.f146,Body.n146_ntmps ρ
 go_wp2_with (go_at_fn (ρ.f 221);refine c.mono ?_;rintro e w' ⟨rfl,hw⟩;rw[hw])
 go_ret
 exact⟨rfl,rfl⟩
end Go.Proofs
namespace Go.Proofs.YtafmfhkplgapjaaGreatDoor
set_option maxRecDepth 100000
set_option maxHeartbeats 4000000
open Go.Ab
attribute[local irreducible] av dL dY ak aH cY IA ez aP fM
theorem AT (x a b:Int):ak aa 58 [i64 x,i64 a,i64 b] (.bool (decide (a<=x/\x<=b))):=by
 refine cT func58 ntmps58 results58 call58 λw0 S0 M0=> ?_;repeat'(first|refine aq ?_|refine au λK hK=> ?_|(intro hg;try exact ai)|exact fin|apply af)
 all_goals(refine gi ?_;simp only[decide_eq_true_eq,bK,false_iff,iff_false,true_iff,iff_true];omega)
theorem Ig (x a b:Int):ak aa 115 [i64 x,i64 a,i64 b] (.bool (decide (a<=x/\x<=b))):=by
 refine cT func115 ntmps115 results115 call115 λw0 S0 M0=> ?_;repeat'(first|refine aq ?_|refine au λK hK=> ?_|(intro hg;try exact ai)|exact fin|apply af)
 all_goals(refine gi ?_;simp only[decide_eq_true_eq,bK,false_iff,iff_false,true_iff,iff_true];omega)
theorem ajb (x:Int):ak aa 56 [i64 x] (.bool (decide (0<=x/\x<=400))):=by
 refine cT func56 ntmps56 results56 call56 λw0 S0 M0=> ?_;repeat'(first|refine aq ?_|refine au λK hK=> ?_|refine cA (AT _ _ _) ?_|(intro hg;try exact ai)|exact fin|apply af)
theorem aaX (x y a b:Int):ak aa 57 [sI x y,i64 a,i64 b] (.bool (decide (iL x y a b))):=by
 refine cT func57 ntmps57 results57 call57 λw0 S0 M0=> ?_;repeat'(first|refine aq ?_|refine au λK hK=> ?_|(intro hg;try exact ai)|exact fin|apply af)
 all_goals(refine gi ?_;simp only[decide_eq_true_eq,bK,false_iff,iff_false,true_iff,iff_true];try simp only[iL];omega)
theorem MU (x y a b:Int):ak aa 222 [sI x y,i64 a,i64 b] (.bool (decide (iL x y a b))):=by
 refine cT func222 ntmps222 results222 call222 λw0 S0 M0=> ?_;repeat'(first|refine aq ?_|refine au λK hK=> ?_|(intro hg;try exact ai)|exact fin|apply af)
 all_goals(refine gi ?_;simp only[decide_eq_true_eq,bK,false_iff,iff_false,true_iff,iff_true];try simp only[iL];omega)
theorem U8 (r:ew):ak aa 306 [sK r] (.bool (decide (j8 r))):=by
 refine cT func306 ntmps306 results306 call306 λw0 S0 M0=> ?_;repeat'(first|refine aq ?_|refine au λK hK=> ?_|refine cA (Ig _ _ _) ?_|refine cA (MU _ _ _ _) ?_|(intro hg;try exact ai)|exact fin|apply af)
 all_goals(refine gi ?_;simp only[decide_eq_true_eq,bK,false_iff,iff_false,true_iff,iff_true];simp only[QM,iL]at *;omega)
theorem ahk (c:Ck):ak aa 221 [mE c] (.bool (decide (tC c))):=by
 refine cT func221 ntmps221 results221 call221 λw0 S0 M0=> ?_;repeat'(first|refine aq ?_|refine au λK hK=> ?_|refine cA (Ig _ _ _) ?_|refine cA (MU _ _ _ _) ?_|(intro hg;try exact ai)|exact fin|apply af)
 all_goals(refine gi ?_;simp only[decide_eq_true_eq,bK,false_iff,iff_false,true_iff,iff_true];simp only[tC,iL]at *;omega)
def AO (l:List Int):Nat->Int
 |0=>nth l 0
 |k + 1=>min (AO l k) (nth l k)
def BA (l:List Int):Nat->Int
 |0=>nth l 0
 |k + 1=>max (BA l k) (nth l k)
theorem aex (l:List Int)(h1:1<=l.length)(h2:l.length<=10):ak aa 169 [ints l] (i64 (AO l l.length)):=by
 refine cT func169 ntmps169 results169 call169 λw0 S0 M0=> ?_;repeat'(first|refine aq ?_|refine au λK hK=> ?_|(intro hg;try exact ai)|exact fin|apply af)
 refine dn (ι:=Nat) (λj=>[(3,i64 (AO l j)),(9,ints l),(10,i64 l.length),(11,i64 j)]) (λ_=>[]) (λ_=>[])
  (λj=>j<=l.length) (λj=>l.length - j) (λ_ _=>⟨rfl,rfl⟩) 0 (bD _) (br rfl (by try refine aj ?_;try simp[AO]) ⟨_,rfl⟩ ⟨_,rfl⟩) (λj hj=> ?_)
 refine aj ?_;repeat'(first|refine aq ?_|refine au λK hK=> ?_|(intro hg;try exact ai)|exact fin|apply af)
 ·exact⟨j + 1,ae,ae,br rfl (by try refine aj ?_;try simp[AO]) ⟨_,rfl⟩ ⟨_,rfl⟩⟩
 ·obtain rfl:j=l.length:=ae;rfl
theorem ahd (l:List Int)(h1:1<=l.length)(h2:l.length<=10):ak aa 168 [ints l] (i64 (BA l l.length)):=by
 refine cT func168 ntmps168 results168 call168 λw0 S0 M0=> ?_;repeat'(first|refine aq ?_|refine au λK hK=> ?_|(intro hg;try exact ai)|exact fin|apply af)
 refine dn (ι:=Nat) (λj=>[(3,i64 (BA l j)),(9,ints l),(10,i64 l.length),(11,i64 j)]) (λ_=>[]) (λ_=>[])
  (λj=>j<=l.length) (λj=>l.length - j) (λ_ _=>⟨rfl,rfl⟩) 0 (bD _) (br rfl (by try refine aj ?_;try simp[BA]) ⟨_,rfl⟩ ⟨_,rfl⟩) (λj hj=> ?_)
 refine aj ?_;repeat'(first|refine aq ?_|refine au λK hK=> ?_|(intro hg;try exact ai)|exact fin|apply af)
 ·exact⟨j + 1,ae,ae,br rfl (by try refine aj ?_;try simp[BA]) ⟨_,rfl⟩ ⟨_,rfl⟩⟩
 ·obtain rfl:j=l.length:=ae;rfl
theorem Ss (a b:Int):ak aa 169 [.list [i64 a,i64 b]] (i64 (min a b)):=by
 have h:=aex [a,b] aO aO;have e:AO [a,b] [a,b].length=min a b:=by
  show min (min (nth [a,b] 0) (nth [a,b] 0)) (nth [a,b] 1)=_;show min (min a a) b=_;omega
 rw[e]at h;exact h
theorem MY (a b:Int):ak aa 168 [.list [i64 a,i64 b]] (i64 (max a b)):=by
 have h:=ahd [a,b] aO aO;have e:BA [a,b] [a,b].length=max a b:=by
  show max (max a a) b=_;omega
 rw[e]at h;exact h
theorem ahi (a b:Int)(h1:0<=a/\a<=400)(h2:0<=b/\b<=400):ak aa 225 [i64 a,i64 b] (i64 (max (a - b) (b - a))):=by
 refine cT func225 ntmps225 results225 call225 λw0 S0 M0=> ?_;repeat'(first|refine aq ?_|refine au λK hK=> ?_|refine cA (MY _ _) ?_|(intro hg;try exact ai)|exact fin|apply af)
theorem J_ {s:b9}{j:Nat}(hj:j < s.ck.length)(h:¬tC (nth s.ck j)):¬fY s:=λhs=>h (hs.c j hj)
theorem Ia (s:b9)(hl:s.ck.length<=9223372036854775807):ak aa 164 [jO s] (.bool (decide (fY s))):=by
 refine cT func164 ntmps164 results164 call164 λw0 S0 M0=> ?_;repeat'(first|refine aq ?_|refine au λK hK=> ?_|(intro hg;try exact ai)|exact fin|apply af)
 refine dn (ι:=Nat) (λj=>[(1, .box 0 0),(6, .list (s.ck.map mE)),(7,i64 s.ck.length),(8,i64 j)]) (λ_=>[.mu (CM s)]) (λ_=>[])
  (λj=>j<=s.ck.length/\∀i,i < j->tC (nth s.ck i)) (λj=>s.ck.length - j) (λ_ _=>⟨rfl,rfl⟩) 0 ⟨bD _,λi h=>absurd h (dF i)⟩ bY (λj ⟨hj,hi⟩=> ?_)
 refine aj ?_;repeat'(first|refine aq ?_|refine au λK hK=> ?_|refine cA (ahk _) ?_|refine cA (Ig _ _ _) ?_|refine cA (MU _ _ _ _) ?_|(intro hg;try exact ai)|exact fin|apply af)
 ·rw[decide_eq_false (J_ (j:=j) ae hg)]
 ·refine⟨j + 1,⟨ae,λi h=> ?_⟩,ae,bY⟩;by_cases h9:i=j
  ·rw[h9];exact hg
  ·exact hi i ae
 all_goals(
  have h9:(∀i,i < s.ck.length->tC (nth s.ck i))=True:=eq_true λi h=>hi i ae;refine gi ?_;simp only[decide_eq_true_eq,bK,false_iff,iff_false,true_iff,iff_true,J',h9,and_true];simp only[iL]at *;omega)
end Go.Proofs.YtafmfhkplgapjaaGreatDoor
namespace Go.Proofs.YtafmfhkplgapjaaGreatDoor
open Go.Ab
theorem Wt {f:FuncId}{ds:List D}{b:ByteArray}(hc:∀(args:Array Value) (w:World),(callFunc f args).run aa w= .ok (.enter f args) w)
  (h:∀(S:Addr->Prop) (M:MM) (w:World) (args:List Value),lG w->Go.Ab.Good w S->args.length=ds.length->(∀q x,ds[q]? =some x->Rel w ⟨S,[],[],M⟩ (args.getD q Go.undef) x)->
   Calls aa f args.toArray w λe w'=>e= .returned (.string b)/\XI w.heap.size w w'):ak aa f ds (.str b):=by
 refine⟨hc,λS M w args ht hg hM hl hr=>(h S M w args ht hg hl hr).mono ?_⟩;rintro e w' ⟨rfl,hb⟩;refine⟨_,S,M,rfl,⟨.of hb,λ_ h=>h,λ_ h=> .inl h,λ_ _ h=>h,λ_ _ h=> .inl h,λb f hf=> ?_⟩,hg.below hb, .str _ _⟩;obtain⟨es,cl,h1,h2⟩:=hM b f hf;exact⟨es,cl,(hb.block b (bt.1 h1).1).trans h1,h2⟩
theorem ZZ {w:World}(h:lG w):Lib.TabIs aa w "internal/strconv.uint64pow10" .u64 Lib.pow10Tab:=by
 obtain⟨t,fz,e⟩:=h 1 _ rfl;have hg:aa.globalNamed "internal/strconv.uint64pow10" =some 1:=ax;unfold Lib.TabIs World.var?;rw[hg];simp only[Option.bind_some,e]
def itoa (n:Int):ByteArray:=⟨(Lib.itoa n).toArray⟩
theorem SX (n:Int)(h0: -9223372036854775808<=n)(h1:n<=9223372036854775807):ak aa 68 [i64 n] (.str (itoa n)):=by
 refine Wt call68 λS M w args ht hg hl hr=> ?_
 match args,hl with
 |[a],_=>
  have h:=hr 0 _ rfl;cases h;refine(Tryz.strconv_Itoa n h0 h1 w (ZZ ht)).mono ?_;rintro e w' ⟨rfl,k,os,rfl⟩;exact⟨rfl,rfl,rfl,rfl,by simp[Go.Sort.grow],λi hi=>by simp[Go.Sort.grow,Array.getElem?_append_left hi]⟩
theorem Nb:∀xs:List ByteArray,flat (xs.map D.str)=xs.map D.str
 |[]=>rfl
 |x::xs=>by show D.cells (.str x)++flat (xs.map D.str)=_;rw[Nb xs];rfl
def Ho (xs:List ByteArray)(sep:ByteArray):ByteArray:=⟨(Lib.join (xs.map (·.data.toList)) sep.data.toList).toArray⟩
theorem afe (xs:List ByteArray)(sep:ByteArray)(bz:xs≠[])(hN:xs.length<=1000)(hlen:(Lib.join (xs.map (·.data.toList)) sep.data.toList).length<=140737488355328):ak aa 131 [.list (xs.map D.str), .str sep] (.str (Ho xs sep)):=by
 refine Wt call131 λS M w args ht hg hl hr=> ?_
 match args,hl with
 |[a,b],_=>
  have h1:=hr 0 _ rfl;have h2:=hr 1 _ rfl;simp only[Fz,Co]at h1 h2;cases h2;cases h1 with
  |list _ A n c _ sz u hn aR eO hm rR=>
  have fv:=Nb xs;rw[fv]at hm rR;have kS:0 < xs.length:=List.length_pos_iff.2 bz;obtain⟨ad,rfl,td,_⟩:=hm 0 (by simpa using kS);obtain⟨bk,o,pt⟩:=ad;have hp:pt=none:=by
   cases pt with
   |none=>rfl
   |some p=>
    unfold World.cell? at td;split at td<;>simp[Addr.add]at td
  subst hp;have n9:n=xs.length:=by rw[hn];simp
  subst n9;refine Tryz.strings_Join bk o c xs sep w (λj x hx=> ?_) (World.block_lt_of_cell? w _ td) ae eO hlen;have hj:=(List.getElem?_eq_some_iff.1 hx).1;obtain⟨ad2,e2,hc,_⟩:=hm j (by simpa using hj);cases e2;have hv:=rR j (.str x) (by rw[cO,hx];rfl);generalize u j=v at hc hv;cases hv;rw[nt]at hc;exact hc
theorem NV {f:FuncId}{ds:List D}{v:Value}{d:D}(bw:∀w g,Rel w g v d)(hc:∀(args:Array Value) (w:World),(callFunc f args).run aa w= .ok (.enter f args) w)
  (h:∀(S:Addr->Prop) (M:MM) (w:World) (args:List Value),args.length=ds.length->(∀q x,ds[q]? =some x->Rel w ⟨S,[],[],M⟩ (args.getD q Go.undef) x)->
   Calls aa f args.toArray w λe w'=>e= .returned v/\w'=w):ak aa f ds d:=by
 refine⟨hc,λS M w args ht hg hM hl hr=>(h S M w args hl hr).mono ?_⟩;rintro e w' ⟨rfl,rfl⟩;have hb:XI w'.heap.size w' w':=⟨rfl,rfl,rfl,aY _,λ_ _=>rfl⟩;exact⟨_,S,M,rfl,⟨.of hb,λ_ h=>h,λ_ h=> .inl h,λ_ _ h=>h,λ_ _ h=> .inl h,hM⟩,hg,bw _ _⟩
theorem aky {f:FuncId}{ds:List D}{bs:List ByteArray}{t:TypeId}(hc:∀(args:Array Value) (w:World),(callFunc f args).run aa w= .ok (.enter f args) w)
  (h:∀(S:Addr->Prop) (M:MM) (w:World) (args:List Value),args.length=ds.length->(∀q x,ds[q]? =some x->Rel w ⟨S,[],[],M⟩ (args.getD q Go.undef) x)->
   Calls aa f args.toArray w λe w'=>e= .returned (.slice (some ⟨w.heap.size,0,none⟩) bs.length bs.length)/\w'=w.alloc (.cells (bs.map I7).toArray t)):ak aa f ds (.list (bs.map D.str)):=by
 refine⟨hc,λS M w args ht hg hM hl hr=>(h S M w args hl hr).mono ?_⟩;rintro e w' ⟨rfl,rfl⟩;generalize hw:w.alloc (.cells (bs.map I7).toArray t)=w';have hold:∀i,i < w.heap.size->w'.heap[i]? =w.heap[i]? :=λi hi=>by
  rw[<-hw];show(w.heap.push _)[i]? =_;rw[Cy,if_neg (Nat.ne_of_lt hi)]
 have lj:w'.heap[w.heap.size]? =some (.cells (bs.map I7).toArray t (0,0)):=by
  rw[<-hw];show(w.heap.push _)[w.heap.size]? =_;rw[Cy,if_pos rfl]
 have aR:w'.heap.size=w.heap.size + 1:=by rw[<-hw];show(w.heap.push _).size=_;rw[Array.size_push]
 have hb:XI w.heap.size w w':=⟨by rw[<-hw];rfl,by rw[<-hw];rfl,by rw[<-hw];rfl,ae,hold⟩;have eX:∀j,j < bs.length->w'.cell? ⟨w.heap.size,j,none⟩=some (.string (bs.getD j .empty)):=λj hj=>by
  rw[cell_of_row w' w.heap.size j _ t (0,0) lj];simp[hj]
 refine⟨_,λx=>S x\/∃j,j < bs.length/\x=⟨w.heap.size,j,none⟩,M,rfl,⟨.of hb,λx h=> .inl h,λx h=> ?_,λ_ _ h=>h,λ_ _ h=> .inl h,λb f hf=> ?_⟩,λx hx=> ?_, ?_⟩
 ·rcases h with h|⟨j,_,rfl⟩
  ·exact .inl h
  ·exact .inr (aY _)
 ·obtain⟨es,cl,h1,h2⟩:=hM b f hf;exact⟨es,cl,(hold b (bt.1 h1).1).trans h1,h2⟩
 ·rcases hx with hx|⟨j,hj,rfl⟩
  ·exact hg.below hb x hx
  ·exact⟨_,eX j hj⟩
 ·have fv:=Nb bs;refine .list _ _ _ _ _ 1 (λq=> .string (bs.getD q .empty)) aO (λx hx=>by obtain⟨y,_,rfl⟩:=List.mem_map.1 hx;rfl) (aY _) (λq hq=> ?_) (λq d hd=> ?_)
  ·rw[fv]at hq;simp only[List.length_map]at hq;refine⟨_,rfl, ?_, .inr ⟨q,hq, ?_⟩,rfl⟩
   ·rw[nt,fK];exact eX q hq
   ·rw[nt,fK]
  ·rw[fv,cO,cv]at hd;obtain⟨b,h1,rfl⟩:=hd;rw[List.getD_eq_getElem?_getD,h1];exact .str _ _
theorem Ze (s p:ByteArray):ak aa 196 [.str s, .str p] (.str ⟨(Lib.trimPrefix s.data.toList p.data.toList).toArray⟩):=by
 refine NV (λ_ _=> .str _ _) call196 λS M w args hl hr=> ?_
 match args,hl with
 |[a,b],_=>
  have h1:=hr 0 _ rfl;have h2:=hr 1 _ rfl;simp only[Fz,Co]at h1 h2;cases h1;cases h2
  exact Tryz.strings_TrimPrefix s p w
theorem amJ (s:ByteArray)(c:UInt8):ak aa 238 [.str s, .str ⟨#[c]⟩] (i64 (ya s.data.toList c)):=by
 refine NV (λ_ _=> .int _ _ _) call238 λS M w args hl hr=> ?_
 match args,hl with
 |[a,b],_=>
  have h1:=hr 0 _ rfl;have h2:=hr 1 _ rfl;simp only[Fz,Co]at h1 h2;cases h1;cases h2
  exact Tryz.strings_Index_one s c w
theorem CO (s:ByteArray)(c:UInt8)(hs:s.size < 4294967281):ak aa 128 [.str s, .str ⟨#[c]⟩] (.list ((Go.oO.vb c s).map D.str)):=by
 have hlen:zZ s ⟨#[c]⟩ + 1=(Go.oO.vb c s).length:=by rw[<-Go.oO.PY];exact(Lib.splitB_all ⟨#[c]⟩ (aY _) 0 _ s rfl).symm
 refine aky (t:=9) call128 λS M w args hl hr=> ?_
 match args,hl with
 |[a,b],_=>
  have h1:=hr 0 _ rfl;have h2:=hr 1 _ rfl;simp only[Fz,Co]at h1 h2;cases h1;cases h2
  have h:=aaW Tryz.aeC ax s c w hs;rw[hlen,Go.oO.PY]at h;exact h
theorem rM {a b A B:Int}(h0:0<=a)(h1:a<=A)(h2:0<=b)(h3:b<=B):0<=a * b/\a * b<=A * B:=by
 refine⟨wb h0 h2, ?_⟩;exact Cs (OP h1 h2) (Cr h3 ae)
theorem G8 {a b:Int}(A B:Nat)(h: -(A:Int)<=a/\a<=A)(h2: -(B:Int)<=b/\b<=B): -((A * B:Nat):Int)<=a * b/\a * b<=((A * B:Nat):Int):=by
 have h3:(a * b).natAbs<=A * B:=by rw[Int.natAbs_mul];exact Nat.mul_le_mul ae ae
 omega
def fR (a b:Int):Int:=max (a - b) (b - a)
theorem BC {a b:Int}(h1:0<=a/\a<=400)(h2:0<=b/\b<=400):0<=fR a b/\fR a b<=400:=by unfold fR;omega
theorem Vu (a b:Int):fR a b=fR b a:=by unfold fR;omega
theorem ahD {D:Int}(h:0<=D)(a b c:Int):D * fR a c<=D * fR a b + D * fR b c:=by
 rw[<-Int.mul_add];exact Cr (by unfold fR;omega) h
theorem Nh {D:Int}(h:0<=D)(a b:Int):0<=D * fR a b:=wb h (by unfold fR;omega)
def qR (s:b9)(day:Int):Nat->Int
 |0=> -2000
 |k + 1=>max (qR s day k) ((nth s.ck k).lo - s.dr * fR day (nth s.ck k).day)
def q9 (s:b9)(day:Int):Nat->Int
 |0=>2000
 |k + 1=>min (q9 s day k) ((nth s.ck k).hi + s.dr * fR day (nth s.ck k).day)
def ue (s:b9)(day:Int):Int:=qR s day s.ck.length
def uf (s:b9)(day:Int):Int:=q9 s day s.ck.length
theorem fY.fR {s:b9}(h:fY s){day:Int}(hd:0<=day/\day<=400){k:Nat}(hk:k < s.ck.length):0<=s.dr * fR day (nth s.ck k).day/\s.dr * fR day (nth s.ck k).day<=40000:=
 rM h.d.1 h.d.2 (BC hd (h.c k hk).1).1 (BC hd (h.c k hk).1).2
theorem Sk {s:b9}(h:fY s)(day:Int)(hd:0<=day/\day<=400):∀k,k<=s.ck.length-> -2000<=qR s day k/\qR s day k<=2000
 |0,_=>by simp[qR]
 |k + 1,hk=>by
  have:=Sk h day hd k ae;have h2:=h.fR hd (k:=k) ae;have h3:=(h.c k ae).2;unfold iL at h3;simp only[qR];omega
theorem Ui {s:b9}(h:fY s)(day:Int)(hd:0<=day/\day<=400):∀k,k<=s.ck.length-> -2000<=q9 s day k/\q9 s day k<=2000
 |0,_=>by simp[q9]
 |k + 1,hk=>by
  have:=Ui h day hd k ae;have h2:=h.fR hd (k:=k) ae;have h3:=(h.c k ae).2;unfold iL at h3;simp only[q9];omega
theorem afl {s:b9}(h:fY s){day:Int}(hd:0<=day/\day<=400): -2000<=ue s day/\ue s day<=2000:=Sk h day hd _ (aY _)
theorem afm {s:b9}(h:fY s){day:Int}(hd:0<=day/\day<=400): -2000<=uf s day/\uf s day<=2000:=Ui h day hd _ (aY _)
theorem Sj {s:b9}{d z:Int}:∀k,qR s d k<=z↔ -2000<=z/\∀i,i < k->(nth s.ck i).lo - s.dr * fR d (nth s.ck i).day<=z
 |0=>by simp[qR]
 |k + 1=>by
  have ih:=Sj (s:=s) (d:=d) (z:=z) k;simp only[qR];rw[Int.max_le,ih];constructor
  ·rintro⟨⟨h1,h2⟩,h3⟩;refine⟨h1,λi hi=> ?_⟩;rcases Jt (Fu hi)with h|h
   ·exact h2 i h
   ·rw[h];exact h3
  ·rintro⟨h1,h2⟩;exact⟨⟨h1,λi hi=>h2 i ae⟩,h2 k ae⟩
theorem Sv {s:b9}{d z:Int}:∀k,z<=q9 s d k↔z<=2000/\∀i,i < k->z<=(nth s.ck i).hi + s.dr * fR d (nth s.ck i).day
 |0=>by simp[q9]
 |k + 1=>by
  have ih:=Sv (s:=s) (d:=d) (z:=z) k;simp only[q9];rw[Int.le_min,ih];constructor
  ·rintro⟨⟨h1,h2⟩,h3⟩;refine⟨h1,λi hi=> ?_⟩;rcases Jt (Fu hi)with h|h
   ·exact h2 i h
   ·rw[h];exact h3
  ·rintro⟨h1,h2⟩;exact⟨⟨h1,λi hi=>h2 i ae⟩,h2 k ae⟩
theorem SV {s:b9}{d z:Int}:ue s d<=z↔ -2000<=z/\∀i,i < s.ck.length->(nth s.ck i).lo - s.dr * fR d (nth s.ck i).day<=z:=Sj _
theorem aey {s:b9}{d z:Int}:z<=uf s d↔z<=2000/\∀i,i < s.ck.length->z<=(nth s.ck i).hi + s.dr * fR d (nth s.ck i).day:=Sv _
def mJ (s:b9)(i k:Nat):Prop:=s.dr * fR (nth s.ck i).day (nth s.ck k).day < max ((nth s.ck i).lo - (nth s.ck k).hi) ((nth s.ck k).lo - (nth s.ck i).hi)
instance(s:b9) (i k:Nat):Decidable (mJ s i k):=by unfold mJ;infer_instance
def uO (s:b9)(i k:Nat):Prop:=i < k/\k < s.ck.length/\mJ s i k/\∀a b,a < b->b < s.ck.length->(a < i\/a=i/\b < k)->¬mJ s a b
def lI (s:b9):Prop:=∀a b,a < b->b < s.ck.length->¬mJ s a b
noncomputable instance(s:b9):Decidable (lI s):=Classical.propDecidable _
open Classical in
noncomputable def EX (s:b9):Option (Nat×Nat):=if h:∃p:Nat×Nat,uO s p.1 p.2 then some h.choose else none
theorem aj8 {s:b9}(h:lI s):EX s=none:=by
 unfold EX;rw[dif_neg];rintro⟨p,h1,h2,h3,_⟩;exact h _ _ h1 h2 h3
theorem uO.uniq {s:b9}{i k a b:Nat}(h:uO s i k)(g:uO s a b):a=i/\b=k:=by
 have h1:¬(a < i\/a=i/\b < k):=λe=>h.2.2.2 a b g.1 g.2.1 e g.2.2.1;have h2:¬(i < a\/i=a/\k < b):=λe=>g.2.2.2 i k h.1 h.2.1 e h.2.2.1;omega
theorem aj7 {s:b9}{i k:Nat}(h:uO s i k):EX s=some (i,k):=by
 unfold EX;have hex:∃p:Nat×Nat,uO s p.1 p.2:=⟨(i,k),h⟩;rw[dif_pos hex];obtain⟨e1,e2⟩:=h.uniq hex.choose_spec
 congr 1;exact Prod.ext e1 e2
theorem Nd (p:Nat->Prop):∀n,(∀i,i < n->¬p i)\/∃i,i < n/\p i/\∀j,j < i->¬p j
 |0=> .inl λi hi=>absurd hi (dF i)
 |n + 1=>by
  rcases Nd p n with h|⟨i,hi,h1,h2⟩
  ·by_cases hp:p n
   ·exact .inr ⟨n,ae,hp,h⟩
   ·refine .inl λi hi=> ?_;rcases Jt (Fu hi)with h'|h'
    ·exact h i h'
    ·rw[h'];exact hp
  ·exact .inr ⟨i,ae,h1,h2⟩
theorem Wh (s:b9):lI s\/∃i k,uO s i k:=by
 rcases Nd (λa=>∃b,a < b/\b < s.ck.length/\mJ s a b) s.ck.length with h|⟨i,hi,⟨b,hb⟩,h2⟩
 ·exact .inl λa b h1 h3 h4=>h a ae ⟨b,h1,h3,h4⟩
 ·rcases Nd (λk=>i < k/\k < s.ck.length/\mJ s i k) s.ck.length with h|⟨k,hk,h3,h4⟩
  ·exact absurd hb (h b hb.2.1)
  ·refine .inr ⟨i,k,h3.1,h3.2.1,h3.2.2,λx y g1 g2 g3 g4=> ?_⟩;rcases g3 with g3|⟨rfl,g3⟩
   ·exact h2 x g3 ⟨y,g1,g2,g4⟩
   ·exact h4 y g3 ⟨g1,g2,g4⟩
theorem uO.no {s:b9}{i k:Nat}(h:uO s i k):¬lI s:=λhn=>hn i k h.1 h.2.1 h.2.2.1
theorem lI.all {s:b9}(h:lI s)(hs:fY s){i k:Nat}(hi:i < s.ck.length)(hk:k < s.ck.length):(nth s.ck i).lo - (nth s.ck k).hi<=s.dr * fR (nth s.ck i).day (nth s.ck k).day:=by
 rcases Nat.lt_trichotomy i k with aG|e|aG
 ·have:=h i k aG hk;unfold mJ at this;omega
 ·subst e;have:=(hs.c i hi).2;unfold iL at this
  have h2:=Nh hs.d.1 (nth s.ck i).day (nth s.ck i).day;omega
 ·have:=h k i aG hi;unfold mJ at this;rw[Vu];omega
theorem afg {s:b9}(hs:fY s)(hn:lI s)(d:Int):ue s d<=uf s d:=by
 refine aey.2 ⟨SV.2 ⟨ae,λi hi=> ?_⟩,λk hk=>SV.2 ⟨?_,λi hi=> ?_⟩⟩
 ·have:=(hs.c i hi).2;unfold iL at this
  have h2:=Nh hs.d.1 d (nth s.ck i).day;omega
 ·have:=(hs.c k hk).2;unfold iL at this
  have h2:=Nh hs.d.1 d (nth s.ck k).day;omega
 ·have h1:=hn.all hs hi hk;have h2:=ahD hs.d.1 (nth s.ck i).day d (nth s.ck k).day;rw[Vu (nth s.ck i).day d]at h2;omega
def lE:List Int:=[38,61,96,144,216,316,458,654,921,1279,1753,2376,3182,4218,5532,7188,9251]
def lF (t:Int):Int:=if(t + 300) % 50=0 then nth lE ((t + 300) / 50).toNat else
 nth lE ((t + 300) / 50).toNat + (nth lE (((t + 300) / 50).toNat + 1) - nth lE ((t + 300) / 50).toNat) * ((t + 300) % 50) / 50
theorem ala:((ct 801).all λk=>decide (38<=lF ((k:Int) - 300)/\lF ((k:Int) - 300)<=9251/\(k < 800->lF ((k:Int) - 300)<=lF ((k:Int) - 300 + 1))))=true:=by decide +kernel
theorem IX {t:Int}(h: -300<=t/\t<=500):38<=lF t/\lF t<=9251/\(t < 500->lF t<=lF (t + 1)):=by
 have:=List.all_eq_true.1 ala (t + 300).toNat (List.mem_range.2 ae);have e:(((t + 300).toNat:Nat):Int) - 300=t:=ae;simp only[e,decide_eq_true_eq]at this;exact⟨this.1,this.2.1,λh=>this.2.2 ae⟩
theorem ak' {a b:Int}(h1: -300<=a)(h2:a<=b)(h3:b<=500):lF a<=lF b:=by
 obtain⟨n,hn⟩:∃n:Nat,b=a + n:=⟨(b - a).toNat,ae⟩;subst hn;clear h2;induction n with
 |zero=>simp
 |succ n ih=>
  have:=ih ae;have h:=(IX (t:=a + n) ae).2.2 ae;rw[show a + ((n + 1:Nat):Int)=a + n + 1 by omega];omega
def s6 (m a:Int):Int:=m - m * a * 163 / 10000000
def El (h g:Int):Int:=h + h * g / 1000000
def HS (m a g:Int):Int:=El (s6 m a) g
def GD (h ht d:Int):Int:=h + h * ht * 10 / (79900 + 29 * d)
def Aj (h d w:Int):Int:=max 0 (lF (min w d) - h * (d - min w d) * 8 / 100000)
def afQ (h d w:Int):Int:=100 * Aj h d w / lF d
theorem Mo {m a:Int}(hm:37800<=m/\m<=92200)(ha: -300<=a/\a<=500):(-46100000<=m * a/\m * a<=46100000)/\37000<=s6 m a/\s6 m a<=92700:=by
 have h:=G8 92200 500 (a:=m) (b:=a) ae ae;have h1:m * a<=92200 * 500:=by
  have:=h.2;omega
 have h2: -(92200 * 300)<=m * a:=by
  have e:m * (-a)<=92200 * 300:=by
   rcases Int.le_total 0 (-a)with h|h
   ·exact(rM (A:=92200) (B:=300) ae hm.2 h ae).2
   ·have:=Cr h (show(0:Int)<=m by omega);omega
  rw[Int.mul_neg]at e;omega
 refine⟨ae, ?_⟩;unfold s6;omega
theorem Uw {h g:Int}(hh:37000<=h/\h<=92700)(hg: -3000<=g/\g<=3000):(-278100000<=h * g/\h * g<=278100000)/\36700<=El h g/\El h g<=93000:=by
 have h2:=G8 92700 3000 (a:=h) (b:=g) ae ae;unfold El;omega
theorem agF {m a g:Int}(hm:37800<=m/\m<=92200)(ha: -300<=a/\a<=500)(hg: -3000<=g/\g<=3000):36700<=HS m a g/\HS m a g<=93000:=(Uw (Mo hm ha).2 hg).2
theorem abp {h ht d:Int}(hh:36700<=h/\h<=93000)(Hw:0<=ht/\ht<=3000)(hd: -300<=d/\d<=500):(0<=h * ht/\h * ht<=279000000)/\(0<=h * ht * 10 / (79900 + 29 * d)/\h * ht * 10 / (79900 + 29 * d)<=2790000000)/\h<=GD h ht d/\GD h ht d<=3000000000:=by
 have h1:=rM (A:=93000) (B:=3000) ae hh.2 Hw.1 Hw.2;have h2:0<=h * ht * 10 / (79900 + 29 * d):=Int.ediv_nonneg ae ae;have h3:h * ht * 10 / (79900 + 29 * d)<=h * ht * 10:=Int.ediv_le_self _ ae;unfold GD;omega
theorem YM {h d w:Int}(hh:36700<=h/\h<=93000)(hd: -300<=d/\d<=500)(hw: -300<=w/\w<=500):(0<=h * (d - min w d)/\h * (d - min w d)<=74400000)/\0<=Aj h d w/\Aj h d w<=lF d:=by
 have h1:=rM (A:=93000) (B:=800) (a:=h) (b:=d - min w d) ae hh.2 ae ae;have h2:=ak' (a:=min w d) (b:=d) ae ae ae;have h3:=IX hd;unfold Aj;omega
end Go.Proofs.YtafmfhkplgapjaaGreatDoor
namespace Go.Proofs.YtafmfhkplgapjaaGreatDoor
set_option maxRecDepth 100000
set_option maxHeartbeats 4000000
open Go.Ab
attribute[local irreducible] av dL dY ak aH cY IA ez aP fM
theorem U9 (a b:Int)(h1:0<=a/\a<=400)(h2:0<=b/\b<=400):ak aa 225 [i64 a,i64 b] (i64 (fR a b)):=ahi a b h1 h2
noncomputable def BP (s:b9):D:=match EX s with
 |some p=> .aF [i64 p.1,i64 p.2, .bool true]
 |none=> .aF [i64 0,i64 0, .bool false]
theorem II {s:b9}(h:lI s):BP s= .aF [i64 0,i64 0, .bool false]:=by unfold BP;rw[aj8 h]
theorem IH {s:b9}{i k:Nat}(h:uO s i k):BP s= .aF [i64 i,i64 k, .bool true]:=by unfold BP;rw[aj7 h]
end Go.Proofs.YtafmfhkplgapjaaGreatDoor
namespace Go.Proofs.YtafmfhkplgapjaaGreatDoor.Sc
open Go.Ab
def OG (l:List Int):Prop:=(∀i,i < l.length->0<=nth l i/\nth l i<=100)/\2<=l.length/\l.length<=3/\tM (nth l) l.length=100
instance(l:List Int):Decidable (OG l):=by unfold OG;infer_instance
def Step (n:Int):Prop:=1<=n/\n<=100/\(100:Int) % n=0
instance(n:Int):Decidable (Step n):=by unfold Step;infer_instance
def Small (l:List Int):Prop:=l.length<=3/\∀i:Nat,0<=nth l i/\nth l i<=100
theorem rM {a b A B:Int}(h0:0<=a)(h1:a<=A)(h2:0<=b)(h3:b<=B):0<=a * b/\a * b<=A * B:=by
 refine⟨wb h0 h2, ?_⟩;exact Cs (OP h1 h2) (Cr h3 ae)
theorem G8 {a b A B:Int}(h0:0<=a)(h1:a<=A)(h2: -B<=b)(h3:b<=B): -(A * B)<=a * b/\a * b<=A * B:=by
 have hB:0<=B:=ae;constructor
 ·have e1:a * (-B)<=a * b:=Cr h2 h0;have e2:a * B<=A * B:=OP h1 hB;have e3:a * (-B)= -(a * B):=Int.mul_neg a B;omega
 ·exact Cs (Cr h3 h0) (OP h1 hB)
def KT (base GP least Dd:Int):Int:=max least (base + (GP * Dd) / 10000)
def ss (base GP least:Int):Prop:=(0<=base/\base<=100000)/\(0<=least/\least<=100000)/\0<=GP/\GP<=1000
instance(a b c:Int):Decidable (ss a b c):=by unfold ss;infer_instance
end Go.Proofs.YtafmfhkplgapjaaGreatDoor.Sc
