/- What the plain layer asks of the types of this translation. Printed by a program. -/
import Derived.Test.YtdbiiegohemahaaDoorAbI
import Derived.Test.YtdbiiegohemahaaDoorRows
namespace Go.Proofs.YtdbiiegohemahaaDoor
open Go.Ab
@[go_sem] theorem Tryd.ty.sz1 : Go.Ab.szOf Tryd.prog 1 = 1 := by kernel_rfl
@[go_sem] theorem Tryd.ty.ag1 : Go.Ab.aggO Tryd.prog 1 = some false := by kernel_rfl
@[go_sem] theorem Tryd.ty.ze1 : Go.Ab.zeroD Tryd.prog 1 = some [.val .nilFunc] := by kernel_rfl
@[go_sem] theorem Tryd.ty.el1 : Go.Ab.elemOf Tryd.prog 1 = none := by kernel_rfl
@[go_sem] theorem Tryd.ty.sz2 : Go.Ab.szOf Tryd.prog 2 = 1 := by kernel_rfl
@[go_sem] theorem Tryd.ty.ag2 : Go.Ab.aggO Tryd.prog 2 = some false := by kernel_rfl
@[go_sem] theorem Tryd.ty.el2 : Go.Ab.elemOf Tryd.prog 2 = none := by kernel_rfl
@[go_sem] theorem Tryd.ty.by2 : Go.Ab.bytesOf Tryd.prog 2 = 8 := by kernel_rfl
@[go_sem] theorem Tryd.ty.st2 : Go.Ab.strTy Tryd.prog 2 = false := by kernel_rfl
@[go_sem] theorem Tryd.ty.in2 : Go.Ab.intOfTy Tryd.prog 2 = some .i64 := by kernel_rfl
@[go_sem] theorem Tryd.ty.ar2 : Go.Ab.arrOf Tryd.prog 2 = none := by kernel_rfl
@[go_sem] theorem Tryd.ty.ze2 : Go.Ab.zeroD Tryd.prog 2 = some [.int .i64 0] := by kernel_rfl
@[go_sem] theorem Tryd.ty.sz3 : Go.Ab.szOf Tryd.prog 3 = 1 := by kernel_rfl
@[go_sem] theorem Tryd.ty.ag3 : Go.Ab.aggO Tryd.prog 3 = some false := by kernel_rfl
@[go_sem] theorem Tryd.ty.el3 : Go.Ab.elemOf Tryd.prog 3 = none := by kernel_rfl
@[go_sem] theorem Tryd.ty.by3 : Go.Ab.bytesOf Tryd.prog 3 = 8 := by kernel_rfl
@[go_sem] theorem Tryd.ty.st3 : Go.Ab.strTy Tryd.prog 3 = false := by kernel_rfl
@[go_sem] theorem Tryd.ty.in3 : Go.Ab.intOfTy Tryd.prog 3 = some .i64 := by kernel_rfl
@[go_sem] theorem Tryd.ty.ar3 : Go.Ab.arrOf Tryd.prog 3 = none := by kernel_rfl
@[go_sem] theorem Tryd.ty.ze3 : Go.Ab.zeroD Tryd.prog 3 = some [.int .i64 0] := by kernel_rfl
@[go_sem] theorem Tryd.ty.sz4 : Go.Ab.szOf Tryd.prog 4 = 1 := by kernel_rfl
@[go_sem] theorem Tryd.ty.ag4 : Go.Ab.aggO Tryd.prog 4 = some false := by kernel_rfl
@[go_sem] theorem Tryd.ty.el4 : Go.Ab.elemOf Tryd.prog 4 = none := by kernel_rfl
@[go_sem] theorem Tryd.ty.by4 : Go.Ab.bytesOf Tryd.prog 4 = 1 := by kernel_rfl
@[go_sem] theorem Tryd.ty.st4 : Go.Ab.strTy Tryd.prog 4 = false := by kernel_rfl
@[go_sem] theorem Tryd.ty.ar4 : Go.Ab.arrOf Tryd.prog 4 = none := by kernel_rfl
@[go_sem] theorem Tryd.ty.ze4 : Go.Ab.zeroD Tryd.prog 4 = some [.bool false] := by kernel_rfl
@[go_sem] theorem Tryd.ty.sz5 : Go.Ab.szOf Tryd.prog 5 = 1 := by kernel_rfl
@[go_sem] theorem Tryd.ty.ag5 : Go.Ab.aggO Tryd.prog 5 = some false := by kernel_rfl
@[go_sem] theorem Tryd.ty.el5 : Go.Ab.elemOf Tryd.prog 5 = none := by kernel_rfl
@[go_sem] theorem Tryd.ty.by5 : Go.Ab.bytesOf Tryd.prog 5 = 1 := by kernel_rfl
@[go_sem] theorem Tryd.ty.st5 : Go.Ab.strTy Tryd.prog 5 = false := by kernel_rfl
@[go_sem] theorem Tryd.ty.in5 : Go.Ab.intOfTy Tryd.prog 5 = some .u8 := by kernel_rfl
@[go_sem] theorem Tryd.ty.ar5 : Go.Ab.arrOf Tryd.prog 5 = none := by kernel_rfl
@[go_sem] theorem Tryd.ty.ze5 : Go.Ab.zeroD Tryd.prog 5 = some [.int .u8 0] := by kernel_rfl
@[go_sem] theorem Tryd.ty.sz6 : Go.Ab.szOf Tryd.prog 6 = 1 := by kernel_rfl
@[go_sem] theorem Tryd.ty.ag6 : Go.Ab.aggO Tryd.prog 6 = some false := by kernel_rfl
@[go_sem] theorem Tryd.ty.el6 : Go.Ab.elemOf Tryd.prog 6 = none := by kernel_rfl
@[go_sem] theorem Tryd.ty.by6 : Go.Ab.bytesOf Tryd.prog 6 = 1 := by kernel_rfl
@[go_sem] theorem Tryd.ty.st6 : Go.Ab.strTy Tryd.prog 6 = false := by kernel_rfl
@[go_sem] theorem Tryd.ty.in6 : Go.Ab.intOfTy Tryd.prog 6 = some .u8 := by kernel_rfl
@[go_sem] theorem Tryd.ty.ar6 : Go.Ab.arrOf Tryd.prog 6 = none := by kernel_rfl
@[go_sem] theorem Tryd.ty.ze6 : Go.Ab.zeroD Tryd.prog 6 = some [.int .u8 0] := by kernel_rfl
@[go_sem] theorem Tryd.ty.sz9 : Go.Ab.szOf Tryd.prog 9 = 1 := by kernel_rfl
@[go_sem] theorem Tryd.ty.ag9 : Go.Ab.aggO Tryd.prog 9 = some false := by kernel_rfl
@[go_sem] theorem Tryd.ty.el9 : Go.Ab.elemOf Tryd.prog 9 = none := by kernel_rfl
@[go_sem] theorem Tryd.ty.by9 : Go.Ab.bytesOf Tryd.prog 9 = 16 := by kernel_rfl
@[go_sem] theorem Tryd.ty.st9 : Go.Ab.strTy Tryd.prog 9 = true := by kernel_rfl
@[go_sem] theorem Tryd.ty.ar9 : Go.Ab.arrOf Tryd.prog 9 = none := by kernel_rfl
@[go_sem] theorem Tryd.ty.ze9 : Go.Ab.zeroD Tryd.prog 9 = some [.str ⟨#[]⟩] := by kernel_rfl
@[go_sem] theorem Tryd.ty.sz21 : Go.Ab.szOf Tryd.prog 21 = 1 := by kernel_rfl
@[go_sem] theorem Tryd.ty.ag21 : Go.Ab.aggO Tryd.prog 21 = some false := by kernel_rfl
@[go_sem] theorem Tryd.ty.el21 : Go.Ab.elemOf Tryd.prog 21 = none := by kernel_rfl
@[go_sem] theorem Tryd.ty.by21 : Go.Ab.bytesOf Tryd.prog 21 = 4 := by kernel_rfl
@[go_sem] theorem Tryd.ty.st21 : Go.Ab.strTy Tryd.prog 21 = false := by kernel_rfl
@[go_sem] theorem Tryd.ty.in21 : Go.Ab.intOfTy Tryd.prog 21 = some .i32 := by kernel_rfl
@[go_sem] theorem Tryd.ty.ar21 : Go.Ab.arrOf Tryd.prog 21 = none := by kernel_rfl
@[go_sem] theorem Tryd.ty.ze21 : Go.Ab.zeroD Tryd.prog 21 = some [.int .i32 0] := by kernel_rfl
@[go_sem] theorem Tryd.ty.sz22 : Go.Ab.szOf Tryd.prog 22 = 2 := by kernel_rfl
@[go_sem] theorem Tryd.ty.ag22 : Go.Ab.aggO Tryd.prog 22 = some true := by kernel_rfl
@[go_sem] theorem Tryd.ty.el22 : Go.Ab.elemOf Tryd.prog 22 = none := by kernel_rfl
@[go_sem] theorem Tryd.ty.by22 : Go.Ab.bytesOf Tryd.prog 22 = 16 := by kernel_rfl
@[go_sem] theorem Tryd.ty.st22 : Go.Ab.strTy Tryd.prog 22 = false := by kernel_rfl
@[go_sem] theorem Tryd.ty.ar22 : Go.Ab.arrOf Tryd.prog 22 = none := by kernel_rfl
@[go_sem] theorem Tryd.ty.eq22 : Go.Ab.EqInts Tryd.prog 22 2 := Go.Ab.eq_struct (by kernel_rfl) (by kernel_rfl) (by kernel_rfl) (by kernel_rfl)
@[go_sem] theorem Tryd.ty.ze22 : Go.Ab.zeroD Tryd.prog 22 = some [.int .i64 0, .int .i64 0] := by kernel_rfl
@[go_sem] theorem Tryd.ty.fo22_0 : Go.Ab.fieldOff Tryd.prog 22 0 = some (0, 3) := by kernel_rfl
@[go_sem] theorem Tryd.ty.fo22_1 : Go.Ab.fieldOff Tryd.prog 22 1 = some (1, 3) := by kernel_rfl
@[go_sem] theorem Tryd.ty.pl22 : Go.Ab.placeD Tryd.prog 22 = some fun i => ([(0, 1), (1, 1)] : List (Nat × Nat))[i]? := by kernel_rfl
@[go_sem] theorem Tryd.ty.sz23 : Go.Ab.szOf Tryd.prog 23 = 2 := by kernel_rfl
@[go_sem] theorem Tryd.ty.ag23 : Go.Ab.aggO Tryd.prog 23 = some true := by kernel_rfl
@[go_sem] theorem Tryd.ty.el23 : Go.Ab.elemOf Tryd.prog 23 = none := by kernel_rfl
@[go_sem] theorem Tryd.ty.by23 : Go.Ab.bytesOf Tryd.prog 23 = 16 := by kernel_rfl
@[go_sem] theorem Tryd.ty.st23 : Go.Ab.strTy Tryd.prog 23 = false := by kernel_rfl
@[go_sem] theorem Tryd.ty.ar23 : Go.Ab.arrOf Tryd.prog 23 = none := by kernel_rfl
@[go_sem] theorem Tryd.ty.eq23 : Go.Ab.EqInts Tryd.prog 23 2 := Go.Ab.eq_struct (by kernel_rfl) (by kernel_rfl) (by kernel_rfl) (by kernel_rfl)
@[go_sem] theorem Tryd.ty.ze23 : Go.Ab.zeroD Tryd.prog 23 = some [.int .i64 0, .int .i64 0] := by kernel_rfl
@[go_sem] theorem Tryd.ty.fo23_0 : Go.Ab.fieldOff Tryd.prog 23 0 = some (0, 3) := by kernel_rfl
@[go_sem] theorem Tryd.ty.fo23_1 : Go.Ab.fieldOff Tryd.prog 23 1 = some (1, 3) := by kernel_rfl
@[go_sem] theorem Tryd.ty.pl23 : Go.Ab.placeD Tryd.prog 23 = some fun i => ([(0, 1), (1, 1)] : List (Nat × Nat))[i]? := by kernel_rfl
@[go_sem] theorem Tryd.ty.sz24 : Go.Ab.szOf Tryd.prog 24 = 1 := by kernel_rfl
@[go_sem] theorem Tryd.ty.ag24 : Go.Ab.aggO Tryd.prog 24 = some false := by kernel_rfl
@[go_sem] theorem Tryd.ty.el24 : Go.Ab.elemOf Tryd.prog 24 = some 35 := by kernel_rfl
@[go_sem] theorem Tryd.ty.by24 : Go.Ab.bytesOf Tryd.prog 24 = 24 := by kernel_rfl
@[go_sem] theorem Tryd.ty.st24 : Go.Ab.strTy Tryd.prog 24 = false := by kernel_rfl
@[go_sem] theorem Tryd.ty.ze24 : Go.Ab.zeroD Tryd.prog 24 = some [.val (.slice none 0 0)] := by kernel_rfl
@[go_sem] theorem Tryd.ty.sz25 : Go.Ab.szOf Tryd.prog 25 = 9 := by kernel_rfl
@[go_sem] theorem Tryd.ty.ag25 : Go.Ab.aggO Tryd.prog 25 = some true := by kernel_rfl
@[go_sem] theorem Tryd.ty.el25 : Go.Ab.elemOf Tryd.prog 25 = none := by kernel_rfl
@[go_sem] theorem Tryd.ty.by25 : Go.Ab.bytesOf Tryd.prog 25 = 88 := by kernel_rfl
@[go_sem] theorem Tryd.ty.st25 : Go.Ab.strTy Tryd.prog 25 = false := by kernel_rfl
@[go_sem] theorem Tryd.ty.ar25 : Go.Ab.arrOf Tryd.prog 25 = none := by kernel_rfl
@[go_sem] theorem Tryd.ty.ze25 : Go.Ab.zeroD Tryd.prog 25 = some [.int .i64 0, .int .i64 0, .int .i64 0, .int .i64 0, .int .i64 0, .int .i64 0, .int .i64 0, .int .i64 0, .val (.slice none 0 0)] := by kernel_rfl
@[go_sem] theorem Tryd.ty.fo25_0 : Go.Ab.fieldOff Tryd.prog 25 0 = some (0, 23) := by kernel_rfl
@[go_sem] theorem Tryd.ty.fo25_1 : Go.Ab.fieldOff Tryd.prog 25 1 = some (2, 23) := by kernel_rfl
@[go_sem] theorem Tryd.ty.fo25_2 : Go.Ab.fieldOff Tryd.prog 25 2 = some (4, 3) := by kernel_rfl
@[go_sem] theorem Tryd.ty.fo25_3 : Go.Ab.fieldOff Tryd.prog 25 3 = some (5, 3) := by kernel_rfl
@[go_sem] theorem Tryd.ty.fo25_4 : Go.Ab.fieldOff Tryd.prog 25 4 = some (6, 3) := by kernel_rfl
@[go_sem] theorem Tryd.ty.fo25_5 : Go.Ab.fieldOff Tryd.prog 25 5 = some (7, 3) := by kernel_rfl
@[go_sem] theorem Tryd.ty.fo25_6 : Go.Ab.fieldOff Tryd.prog 25 6 = some (8, 24) := by kernel_rfl
@[go_sem] theorem Tryd.ty.pl25 : Go.Ab.placeD Tryd.prog 25 = some fun i => ([(0, 2), (2, 2), (4, 1), (5, 1), (6, 1), (7, 1), (8, 1)] : List (Nat × Nat))[i]? := by kernel_rfl
@[go_sem] theorem Tryd.ty.sz26 : Go.Ab.szOf Tryd.prog 26 = 9 := by kernel_rfl
@[go_sem] theorem Tryd.ty.ag26 : Go.Ab.aggO Tryd.prog 26 = some true := by kernel_rfl
@[go_sem] theorem Tryd.ty.el26 : Go.Ab.elemOf Tryd.prog 26 = none := by kernel_rfl
@[go_sem] theorem Tryd.ty.by26 : Go.Ab.bytesOf Tryd.prog 26 = 88 := by kernel_rfl
@[go_sem] theorem Tryd.ty.st26 : Go.Ab.strTy Tryd.prog 26 = false := by kernel_rfl
@[go_sem] theorem Tryd.ty.ar26 : Go.Ab.arrOf Tryd.prog 26 = none := by kernel_rfl
@[go_sem] theorem Tryd.ty.ze26 : Go.Ab.zeroD Tryd.prog 26 = some [.int .i64 0, .int .i64 0, .int .i64 0, .int .i64 0, .int .i64 0, .int .i64 0, .int .i64 0, .int .i64 0, .val (.slice none 0 0)] := by kernel_rfl
@[go_sem] theorem Tryd.ty.fo26_0 : Go.Ab.fieldOff Tryd.prog 26 0 = some (0, 23) := by kernel_rfl
@[go_sem] theorem Tryd.ty.fo26_1 : Go.Ab.fieldOff Tryd.prog 26 1 = some (2, 23) := by kernel_rfl
@[go_sem] theorem Tryd.ty.fo26_2 : Go.Ab.fieldOff Tryd.prog 26 2 = some (4, 3) := by kernel_rfl
@[go_sem] theorem Tryd.ty.fo26_3 : Go.Ab.fieldOff Tryd.prog 26 3 = some (5, 3) := by kernel_rfl
@[go_sem] theorem Tryd.ty.fo26_4 : Go.Ab.fieldOff Tryd.prog 26 4 = some (6, 3) := by kernel_rfl
@[go_sem] theorem Tryd.ty.fo26_5 : Go.Ab.fieldOff Tryd.prog 26 5 = some (7, 3) := by kernel_rfl
@[go_sem] theorem Tryd.ty.fo26_6 : Go.Ab.fieldOff Tryd.prog 26 6 = some (8, 24) := by kernel_rfl
@[go_sem] theorem Tryd.ty.pl26 : Go.Ab.placeD Tryd.prog 26 = some fun i => ([(0, 2), (2, 2), (4, 1), (5, 1), (6, 1), (7, 1), (8, 1)] : List (Nat × Nat))[i]? := by kernel_rfl
@[go_sem] theorem Tryd.ty.sz30 : Go.Ab.szOf Tryd.prog 30 = 1 := by kernel_rfl
@[go_sem] theorem Tryd.ty.ag30 : Go.Ab.aggO Tryd.prog 30 = some false := by kernel_rfl
@[go_sem] theorem Tryd.ty.el30 : Go.Ab.elemOf Tryd.prog 30 = none := by kernel_rfl
@[go_sem] theorem Tryd.ty.by30 : Go.Ab.bytesOf Tryd.prog 30 = 8 := by kernel_rfl
@[go_sem] theorem Tryd.ty.st30 : Go.Ab.strTy Tryd.prog 30 = false := by kernel_rfl
@[go_sem] theorem Tryd.ty.in30 : Go.Ab.intOfTy Tryd.prog 30 = some .i64 := by kernel_rfl
@[go_sem] theorem Tryd.ty.ar30 : Go.Ab.arrOf Tryd.prog 30 = none := by kernel_rfl
@[go_sem] theorem Tryd.ty.ze30 : Go.Ab.zeroD Tryd.prog 30 = some [.int .i64 0] := by kernel_rfl
@[go_sem] theorem Tryd.ty.sz34 : Go.Ab.szOf Tryd.prog 34 = 3 := by kernel_rfl
@[go_sem] theorem Tryd.ty.ag34 : Go.Ab.aggO Tryd.prog 34 = some true := by kernel_rfl
@[go_sem] theorem Tryd.ty.el34 : Go.Ab.elemOf Tryd.prog 34 = none := by kernel_rfl
@[go_sem] theorem Tryd.ty.by34 : Go.Ab.bytesOf Tryd.prog 34 = 24 := by kernel_rfl
@[go_sem] theorem Tryd.ty.st34 : Go.Ab.strTy Tryd.prog 34 = false := by kernel_rfl
@[go_sem] theorem Tryd.ty.ar34 : Go.Ab.arrOf Tryd.prog 34 = none := by kernel_rfl
@[go_sem] theorem Tryd.ty.ze34 : Go.Ab.zeroD Tryd.prog 34 = some [.int .i64 0, .int .i64 0, .int .i64 0] := by kernel_rfl
@[go_sem] theorem Tryd.ty.fo34_0 : Go.Ab.fieldOff Tryd.prog 34 0 = some (0, 3) := by kernel_rfl
@[go_sem] theorem Tryd.ty.fo34_1 : Go.Ab.fieldOff Tryd.prog 34 1 = some (1, 23) := by kernel_rfl
@[go_sem] theorem Tryd.ty.pl34 : Go.Ab.placeD Tryd.prog 34 = some fun i => ([(0, 1), (1, 2)] : List (Nat × Nat))[i]? := by kernel_rfl
@[go_sem] theorem Tryd.ty.sz35 : Go.Ab.szOf Tryd.prog 35 = 3 := by kernel_rfl
@[go_sem] theorem Tryd.ty.ag35 : Go.Ab.aggO Tryd.prog 35 = some true := by kernel_rfl
@[go_sem] theorem Tryd.ty.el35 : Go.Ab.elemOf Tryd.prog 35 = none := by kernel_rfl
@[go_sem] theorem Tryd.ty.by35 : Go.Ab.bytesOf Tryd.prog 35 = 24 := by kernel_rfl
@[go_sem] theorem Tryd.ty.st35 : Go.Ab.strTy Tryd.prog 35 = false := by kernel_rfl
@[go_sem] theorem Tryd.ty.ar35 : Go.Ab.arrOf Tryd.prog 35 = none := by kernel_rfl
@[go_sem] theorem Tryd.ty.ze35 : Go.Ab.zeroD Tryd.prog 35 = some [.int .i64 0, .int .i64 0, .int .i64 0] := by kernel_rfl
@[go_sem] theorem Tryd.ty.fo35_0 : Go.Ab.fieldOff Tryd.prog 35 0 = some (0, 3) := by kernel_rfl
@[go_sem] theorem Tryd.ty.fo35_1 : Go.Ab.fieldOff Tryd.prog 35 1 = some (1, 23) := by kernel_rfl
@[go_sem] theorem Tryd.ty.pl35 : Go.Ab.placeD Tryd.prog 35 = some fun i => ([(0, 1), (1, 2)] : List (Nat × Nat))[i]? := by kernel_rfl
@[go_sem] theorem Tryd.ty.sz44 : Go.Ab.szOf Tryd.prog 44 = 1 := by kernel_rfl
@[go_sem] theorem Tryd.ty.ag44 : Go.Ab.aggO Tryd.prog 44 = some false := by kernel_rfl
@[go_sem] theorem Tryd.ty.el44 : Go.Ab.elemOf Tryd.prog 44 = none := by kernel_rfl
@[go_sem] theorem Tryd.ty.by44 : Go.Ab.bytesOf Tryd.prog 44 = 8 := by kernel_rfl
@[go_sem] theorem Tryd.ty.st44 : Go.Ab.strTy Tryd.prog 44 = false := by kernel_rfl
@[go_sem] theorem Tryd.ty.in44 : Go.Ab.intOfTy Tryd.prog 44 = some .i64 := by kernel_rfl
@[go_sem] theorem Tryd.ty.ar44 : Go.Ab.arrOf Tryd.prog 44 = none := by kernel_rfl
@[go_sem] theorem Tryd.ty.ze44 : Go.Ab.zeroD Tryd.prog 44 = some [.int .i64 0] := by kernel_rfl
@[go_sem] theorem Tryd.ty.sz45 : Go.Ab.szOf Tryd.prog 45 = 10 := by kernel_rfl
@[go_sem] theorem Tryd.ty.ag45 : Go.Ab.aggO Tryd.prog 45 = some true := by kernel_rfl
@[go_sem] theorem Tryd.ty.el45 : Go.Ab.elemOf Tryd.prog 45 = none := by kernel_rfl
@[go_sem] theorem Tryd.ty.by45 : Go.Ab.bytesOf Tryd.prog 45 = 80 := by kernel_rfl
@[go_sem] theorem Tryd.ty.st45 : Go.Ab.strTy Tryd.prog 45 = false := by kernel_rfl
@[go_sem] theorem Tryd.ty.ar45 : Go.Ab.arrOf Tryd.prog 45 = none := by kernel_rfl
@[go_sem] theorem Tryd.ty.ze45 : Go.Ab.zeroD Tryd.prog 45 = some [.int .i64 0, .int .i64 0, .int .i64 0, .int .i64 0, .int .i64 0, .int .i64 0, .int .i64 0, .int .i64 0, .int .i64 0, .int .i64 0] := by kernel_rfl
@[go_sem] theorem Tryd.ty.fo45_0 : Go.Ab.fieldOff Tryd.prog 45 0 = some (0, 3) := by kernel_rfl
@[go_sem] theorem Tryd.ty.fo45_1 : Go.Ab.fieldOff Tryd.prog 45 1 = some (1, 3) := by kernel_rfl
@[go_sem] theorem Tryd.ty.fo45_2 : Go.Ab.fieldOff Tryd.prog 45 2 = some (2, 44) := by kernel_rfl
@[go_sem] theorem Tryd.ty.fo45_3 : Go.Ab.fieldOff Tryd.prog 45 3 = some (3, 3) := by kernel_rfl
@[go_sem] theorem Tryd.ty.fo45_4 : Go.Ab.fieldOff Tryd.prog 45 4 = some (4, 23) := by kernel_rfl
@[go_sem] theorem Tryd.ty.fo45_5 : Go.Ab.fieldOff Tryd.prog 45 5 = some (6, 23) := by kernel_rfl
@[go_sem] theorem Tryd.ty.fo45_6 : Go.Ab.fieldOff Tryd.prog 45 6 = some (8, 23) := by kernel_rfl
@[go_sem] theorem Tryd.ty.pl45 : Go.Ab.placeD Tryd.prog 45 = some fun i => ([(0, 1), (1, 1), (2, 1), (3, 1), (4, 2), (6, 2), (8, 2)] : List (Nat × Nat))[i]? := by kernel_rfl
@[go_sem] theorem Tryd.ty.sz46 : Go.Ab.szOf Tryd.prog 46 = 10 := by kernel_rfl
@[go_sem] theorem Tryd.ty.ag46 : Go.Ab.aggO Tryd.prog 46 = some true := by kernel_rfl
@[go_sem] theorem Tryd.ty.el46 : Go.Ab.elemOf Tryd.prog 46 = none := by kernel_rfl
@[go_sem] theorem Tryd.ty.by46 : Go.Ab.bytesOf Tryd.prog 46 = 80 := by kernel_rfl
@[go_sem] theorem Tryd.ty.st46 : Go.Ab.strTy Tryd.prog 46 = false := by kernel_rfl
@[go_sem] theorem Tryd.ty.ar46 : Go.Ab.arrOf Tryd.prog 46 = none := by kernel_rfl
@[go_sem] theorem Tryd.ty.ze46 : Go.Ab.zeroD Tryd.prog 46 = some [.int .i64 0, .int .i64 0, .int .i64 0, .int .i64 0, .int .i64 0, .int .i64 0, .int .i64 0, .int .i64 0, .int .i64 0, .int .i64 0] := by kernel_rfl
@[go_sem] theorem Tryd.ty.fo46_0 : Go.Ab.fieldOff Tryd.prog 46 0 = some (0, 3) := by kernel_rfl
@[go_sem] theorem Tryd.ty.fo46_1 : Go.Ab.fieldOff Tryd.prog 46 1 = some (1, 3) := by kernel_rfl
@[go_sem] theorem Tryd.ty.fo46_2 : Go.Ab.fieldOff Tryd.prog 46 2 = some (2, 44) := by kernel_rfl
@[go_sem] theorem Tryd.ty.fo46_3 : Go.Ab.fieldOff Tryd.prog 46 3 = some (3, 3) := by kernel_rfl
@[go_sem] theorem Tryd.ty.fo46_4 : Go.Ab.fieldOff Tryd.prog 46 4 = some (4, 23) := by kernel_rfl
@[go_sem] theorem Tryd.ty.fo46_5 : Go.Ab.fieldOff Tryd.prog 46 5 = some (6, 23) := by kernel_rfl
@[go_sem] theorem Tryd.ty.fo46_6 : Go.Ab.fieldOff Tryd.prog 46 6 = some (8, 23) := by kernel_rfl
@[go_sem] theorem Tryd.ty.pl46 : Go.Ab.placeD Tryd.prog 46 = some fun i => ([(0, 1), (1, 1), (2, 1), (3, 1), (4, 2), (6, 2), (8, 2)] : List (Nat × Nat))[i]? := by kernel_rfl
@[go_sem] theorem Tryd.ty.sz47 : Go.Ab.szOf Tryd.prog 47 = 7 := by kernel_rfl
@[go_sem] theorem Tryd.ty.ag47 : Go.Ab.aggO Tryd.prog 47 = some true := by kernel_rfl
@[go_sem] theorem Tryd.ty.el47 : Go.Ab.elemOf Tryd.prog 47 = none := by kernel_rfl
@[go_sem] theorem Tryd.ty.by47 : Go.Ab.bytesOf Tryd.prog 47 = 56 := by kernel_rfl
@[go_sem] theorem Tryd.ty.st47 : Go.Ab.strTy Tryd.prog 47 = false := by kernel_rfl
@[go_sem] theorem Tryd.ty.ar47 : Go.Ab.arrOf Tryd.prog 47 = none := by kernel_rfl
@[go_sem] theorem Tryd.ty.eq47 : Go.Ab.EqInts Tryd.prog 47 7 := Go.Ab.eq_struct (by kernel_rfl) (by kernel_rfl) (by kernel_rfl) (by kernel_rfl)
@[go_sem] theorem Tryd.ty.ze47 : Go.Ab.zeroD Tryd.prog 47 = some [.int .i64 0, .int .i64 0, .int .i64 0, .int .i64 0, .int .i64 0, .int .i64 0, .int .i64 0] := by kernel_rfl
@[go_sem] theorem Tryd.ty.fo47_0 : Go.Ab.fieldOff Tryd.prog 47 0 = some (0, 3) := by kernel_rfl
@[go_sem] theorem Tryd.ty.fo47_1 : Go.Ab.fieldOff Tryd.prog 47 1 = some (1, 3) := by kernel_rfl
@[go_sem] theorem Tryd.ty.fo47_2 : Go.Ab.fieldOff Tryd.prog 47 2 = some (2, 3) := by kernel_rfl
@[go_sem] theorem Tryd.ty.fo47_3 : Go.Ab.fieldOff Tryd.prog 47 3 = some (3, 3) := by kernel_rfl
@[go_sem] theorem Tryd.ty.fo47_4 : Go.Ab.fieldOff Tryd.prog 47 4 = some (4, 3) := by kernel_rfl
@[go_sem] theorem Tryd.ty.fo47_5 : Go.Ab.fieldOff Tryd.prog 47 5 = some (5, 3) := by kernel_rfl
@[go_sem] theorem Tryd.ty.fo47_6 : Go.Ab.fieldOff Tryd.prog 47 6 = some (6, 3) := by kernel_rfl
@[go_sem] theorem Tryd.ty.pl47 : Go.Ab.placeD Tryd.prog 47 = some fun i => ([(0, 1), (1, 1), (2, 1), (3, 1), (4, 1), (5, 1), (6, 1)] : List (Nat × Nat))[i]? := by kernel_rfl
@[go_sem] theorem Tryd.ty.sz48 : Go.Ab.szOf Tryd.prog 48 = 7 := by kernel_rfl
@[go_sem] theorem Tryd.ty.ag48 : Go.Ab.aggO Tryd.prog 48 = some true := by kernel_rfl
@[go_sem] theorem Tryd.ty.el48 : Go.Ab.elemOf Tryd.prog 48 = none := by kernel_rfl
@[go_sem] theorem Tryd.ty.by48 : Go.Ab.bytesOf Tryd.prog 48 = 56 := by kernel_rfl
@[go_sem] theorem Tryd.ty.st48 : Go.Ab.strTy Tryd.prog 48 = false := by kernel_rfl
@[go_sem] theorem Tryd.ty.ar48 : Go.Ab.arrOf Tryd.prog 48 = none := by kernel_rfl
@[go_sem] theorem Tryd.ty.eq48 : Go.Ab.EqInts Tryd.prog 48 7 := Go.Ab.eq_struct (by kernel_rfl) (by kernel_rfl) (by kernel_rfl) (by kernel_rfl)
@[go_sem] theorem Tryd.ty.ze48 : Go.Ab.zeroD Tryd.prog 48 = some [.int .i64 0, .int .i64 0, .int .i64 0, .int .i64 0, .int .i64 0, .int .i64 0, .int .i64 0] := by kernel_rfl
@[go_sem] theorem Tryd.ty.fo48_0 : Go.Ab.fieldOff Tryd.prog 48 0 = some (0, 3) := by kernel_rfl
@[go_sem] theorem Tryd.ty.fo48_1 : Go.Ab.fieldOff Tryd.prog 48 1 = some (1, 3) := by kernel_rfl
@[go_sem] theorem Tryd.ty.fo48_2 : Go.Ab.fieldOff Tryd.prog 48 2 = some (2, 3) := by kernel_rfl
@[go_sem] theorem Tryd.ty.fo48_3 : Go.Ab.fieldOff Tryd.prog 48 3 = some (3, 3) := by kernel_rfl
@[go_sem] theorem Tryd.ty.fo48_4 : Go.Ab.fieldOff Tryd.prog 48 4 = some (4, 3) := by kernel_rfl
@[go_sem] theorem Tryd.ty.fo48_5 : Go.Ab.fieldOff Tryd.prog 48 5 = some (5, 3) := by kernel_rfl
@[go_sem] theorem Tryd.ty.fo48_6 : Go.Ab.fieldOff Tryd.prog 48 6 = some (6, 3) := by kernel_rfl
@[go_sem] theorem Tryd.ty.pl48 : Go.Ab.placeD Tryd.prog 48 = some fun i => ([(0, 1), (1, 1), (2, 1), (3, 1), (4, 1), (5, 1), (6, 1)] : List (Nat × Nat))[i]? := by kernel_rfl
@[go_sem] theorem Tryd.ty.sz49 : Go.Ab.szOf Tryd.prog 49 = 3 := by kernel_rfl
@[go_sem] theorem Tryd.ty.ag49 : Go.Ab.aggO Tryd.prog 49 = some true := by kernel_rfl
@[go_sem] theorem Tryd.ty.el49 : Go.Ab.elemOf Tryd.prog 49 = none := by kernel_rfl
@[go_sem] theorem Tryd.ty.by49 : Go.Ab.bytesOf Tryd.prog 49 = 24 := by kernel_rfl
@[go_sem] theorem Tryd.ty.st49 : Go.Ab.strTy Tryd.prog 49 = false := by kernel_rfl
@[go_sem] theorem Tryd.ty.ar49 : Go.Ab.arrOf Tryd.prog 49 = none := by kernel_rfl
@[go_sem] theorem Tryd.ty.eq49 : Go.Ab.EqInts Tryd.prog 49 3 := Go.Ab.eq_struct (by kernel_rfl) (by kernel_rfl) (by kernel_rfl) (by kernel_rfl)
@[go_sem] theorem Tryd.ty.ze49 : Go.Ab.zeroD Tryd.prog 49 = some [.int .i64 0, .int .i64 0, .int .i64 0] := by kernel_rfl
@[go_sem] theorem Tryd.ty.fo49_0 : Go.Ab.fieldOff Tryd.prog 49 0 = some (0, 3) := by kernel_rfl
@[go_sem] theorem Tryd.ty.fo49_1 : Go.Ab.fieldOff Tryd.prog 49 1 = some (1, 3) := by kernel_rfl
@[go_sem] theorem Tryd.ty.fo49_2 : Go.Ab.fieldOff Tryd.prog 49 2 = some (2, 3) := by kernel_rfl
@[go_sem] theorem Tryd.ty.pl49 : Go.Ab.placeD Tryd.prog 49 = some fun i => ([(0, 1), (1, 1), (2, 1)] : List (Nat × Nat))[i]? := by kernel_rfl
@[go_sem] theorem Tryd.ty.sz50 : Go.Ab.szOf Tryd.prog 50 = 3 := by kernel_rfl
@[go_sem] theorem Tryd.ty.ag50 : Go.Ab.aggO Tryd.prog 50 = some true := by kernel_rfl
@[go_sem] theorem Tryd.ty.el50 : Go.Ab.elemOf Tryd.prog 50 = none := by kernel_rfl
@[go_sem] theorem Tryd.ty.by50 : Go.Ab.bytesOf Tryd.prog 50 = 24 := by kernel_rfl
@[go_sem] theorem Tryd.ty.st50 : Go.Ab.strTy Tryd.prog 50 = false := by kernel_rfl
@[go_sem] theorem Tryd.ty.ar50 : Go.Ab.arrOf Tryd.prog 50 = none := by kernel_rfl
@[go_sem] theorem Tryd.ty.eq50 : Go.Ab.EqInts Tryd.prog 50 3 := Go.Ab.eq_struct (by kernel_rfl) (by kernel_rfl) (by kernel_rfl) (by kernel_rfl)
@[go_sem] theorem Tryd.ty.ze50 : Go.Ab.zeroD Tryd.prog 50 = some [.int .i64 0, .int .i64 0, .int .i64 0] := by kernel_rfl
@[go_sem] theorem Tryd.ty.fo50_0 : Go.Ab.fieldOff Tryd.prog 50 0 = some (0, 3) := by kernel_rfl
@[go_sem] theorem Tryd.ty.fo50_1 : Go.Ab.fieldOff Tryd.prog 50 1 = some (1, 3) := by kernel_rfl
@[go_sem] theorem Tryd.ty.fo50_2 : Go.Ab.fieldOff Tryd.prog 50 2 = some (2, 3) := by kernel_rfl
@[go_sem] theorem Tryd.ty.pl50 : Go.Ab.placeD Tryd.prog 50 = some fun i => ([(0, 1), (1, 1), (2, 1)] : List (Nat × Nat))[i]? := by kernel_rfl
@[go_sem] theorem Tryd.ty.sz56 : Go.Ab.szOf Tryd.prog 56 = 6 := by kernel_rfl
@[go_sem] theorem Tryd.ty.ag56 : Go.Ab.aggO Tryd.prog 56 = some true := by kernel_rfl
@[go_sem] theorem Tryd.ty.el56 : Go.Ab.elemOf Tryd.prog 56 = none := by kernel_rfl
@[go_sem] theorem Tryd.ty.by56 : Go.Ab.bytesOf Tryd.prog 56 = 48 := by kernel_rfl
@[go_sem] theorem Tryd.ty.st56 : Go.Ab.strTy Tryd.prog 56 = false := by kernel_rfl
@[go_sem] theorem Tryd.ty.ar56 : Go.Ab.arrOf Tryd.prog 56 = none := by kernel_rfl
@[go_sem] theorem Tryd.ty.ze56 : Go.Ab.zeroD Tryd.prog 56 = some [.int .i64 0, .int .i64 0, .int .i64 0, .int .i64 0, .int .i64 0, .int .i64 0] := by kernel_rfl
@[go_sem] theorem Tryd.ty.fo56_0 : Go.Ab.fieldOff Tryd.prog 56 0 = some (0, 23) := by kernel_rfl
@[go_sem] theorem Tryd.ty.fo56_1 : Go.Ab.fieldOff Tryd.prog 56 1 = some (2, 23) := by kernel_rfl
@[go_sem] theorem Tryd.ty.fo56_2 : Go.Ab.fieldOff Tryd.prog 56 2 = some (4, 23) := by kernel_rfl
@[go_sem] theorem Tryd.ty.pl56 : Go.Ab.placeD Tryd.prog 56 = some fun i => ([(0, 2), (2, 2), (4, 2)] : List (Nat × Nat))[i]? := by kernel_rfl
@[go_sem] theorem Tryd.ty.sz57 : Go.Ab.szOf Tryd.prog 57 = 6 := by kernel_rfl
@[go_sem] theorem Tryd.ty.ag57 : Go.Ab.aggO Tryd.prog 57 = some true := by kernel_rfl
@[go_sem] theorem Tryd.ty.el57 : Go.Ab.elemOf Tryd.prog 57 = none := by kernel_rfl
@[go_sem] theorem Tryd.ty.by57 : Go.Ab.bytesOf Tryd.prog 57 = 48 := by kernel_rfl
@[go_sem] theorem Tryd.ty.st57 : Go.Ab.strTy Tryd.prog 57 = false := by kernel_rfl
@[go_sem] theorem Tryd.ty.ar57 : Go.Ab.arrOf Tryd.prog 57 = none := by kernel_rfl
@[go_sem] theorem Tryd.ty.ze57 : Go.Ab.zeroD Tryd.prog 57 = some [.int .i64 0, .int .i64 0, .int .i64 0, .int .i64 0, .int .i64 0, .int .i64 0] := by kernel_rfl
@[go_sem] theorem Tryd.ty.fo57_0 : Go.Ab.fieldOff Tryd.prog 57 0 = some (0, 23) := by kernel_rfl
@[go_sem] theorem Tryd.ty.fo57_1 : Go.Ab.fieldOff Tryd.prog 57 1 = some (2, 23) := by kernel_rfl
@[go_sem] theorem Tryd.ty.fo57_2 : Go.Ab.fieldOff Tryd.prog 57 2 = some (4, 23) := by kernel_rfl
@[go_sem] theorem Tryd.ty.pl57 : Go.Ab.placeD Tryd.prog 57 = some fun i => ([(0, 2), (2, 2), (4, 2)] : List (Nat × Nat))[i]? := by kernel_rfl
@[go_sem] theorem Tryd.ty.sz64 : Go.Ab.szOf Tryd.prog 64 = 1 := by kernel_rfl
@[go_sem] theorem Tryd.ty.ag64 : Go.Ab.aggO Tryd.prog 64 = some false := by kernel_rfl
@[go_sem] theorem Tryd.ty.el64 : Go.Ab.elemOf Tryd.prog 64 = some 4 := by kernel_rfl
@[go_sem] theorem Tryd.ty.by64 : Go.Ab.bytesOf Tryd.prog 64 = 24 := by kernel_rfl
@[go_sem] theorem Tryd.ty.st64 : Go.Ab.strTy Tryd.prog 64 = false := by kernel_rfl
@[go_sem] theorem Tryd.ty.ze64 : Go.Ab.zeroD Tryd.prog 64 = some [.val (.slice none 0 0)] := by kernel_rfl
@[go_sem] theorem Tryd.ty.sz71 : Go.Ab.szOf Tryd.prog 71 = 1 := by kernel_rfl
@[go_sem] theorem Tryd.ty.ag71 : Go.Ab.aggO Tryd.prog 71 = some false := by kernel_rfl
@[go_sem] theorem Tryd.ty.el71 : Go.Ab.elemOf Tryd.prog 71 = some 23 := by kernel_rfl
@[go_sem] theorem Tryd.ty.by71 : Go.Ab.bytesOf Tryd.prog 71 = 24 := by kernel_rfl
@[go_sem] theorem Tryd.ty.st71 : Go.Ab.strTy Tryd.prog 71 = false := by kernel_rfl
@[go_sem] theorem Tryd.ty.ze71 : Go.Ab.zeroD Tryd.prog 71 = some [.val (.slice none 0 0)] := by kernel_rfl
@[go_sem] theorem Tryd.ty.sz81 : Go.Ab.szOf Tryd.prog 81 = 1 := by kernel_rfl
@[go_sem] theorem Tryd.ty.ag81 : Go.Ab.aggO Tryd.prog 81 = some false := by kernel_rfl
@[go_sem] theorem Tryd.ty.el81 : Go.Ab.elemOf Tryd.prog 81 = some 26 := by kernel_rfl
@[go_sem] theorem Tryd.ty.by81 : Go.Ab.bytesOf Tryd.prog 81 = 24 := by kernel_rfl
@[go_sem] theorem Tryd.ty.st81 : Go.Ab.strTy Tryd.prog 81 = false := by kernel_rfl
@[go_sem] theorem Tryd.ty.ze81 : Go.Ab.zeroD Tryd.prog 81 = some [.val (.slice none 0 0)] := by kernel_rfl
@[go_sem] theorem Tryd.ty.sz86 : Go.Ab.szOf Tryd.prog 86 = 1 := by kernel_rfl
@[go_sem] theorem Tryd.ty.ag86 : Go.Ab.aggO Tryd.prog 86 = some false := by kernel_rfl
@[go_sem] theorem Tryd.ty.el86 : Go.Ab.elemOf Tryd.prog 86 = some 3 := by kernel_rfl
@[go_sem] theorem Tryd.ty.by86 : Go.Ab.bytesOf Tryd.prog 86 = 24 := by kernel_rfl
@[go_sem] theorem Tryd.ty.st86 : Go.Ab.strTy Tryd.prog 86 = false := by kernel_rfl
@[go_sem] theorem Tryd.ty.ze86 : Go.Ab.zeroD Tryd.prog 86 = some [.val (.slice none 0 0)] := by kernel_rfl
@[go_sem] theorem Tryd.ty.sz98 : Go.Ab.szOf Tryd.prog 98 = 1 := by kernel_rfl
@[go_sem] theorem Tryd.ty.ag98 : Go.Ab.aggO Tryd.prog 98 = some false := by kernel_rfl
@[go_sem] theorem Tryd.ty.el98 : Go.Ab.elemOf Tryd.prog 98 = some 46 := by kernel_rfl
@[go_sem] theorem Tryd.ty.by98 : Go.Ab.bytesOf Tryd.prog 98 = 24 := by kernel_rfl
@[go_sem] theorem Tryd.ty.st98 : Go.Ab.strTy Tryd.prog 98 = false := by kernel_rfl
@[go_sem] theorem Tryd.ty.ze98 : Go.Ab.zeroD Tryd.prog 98 = some [.val (.slice none 0 0)] := by kernel_rfl
@[go_sem] theorem Tryd.ty.sz99 : Go.Ab.szOf Tryd.prog 99 = 1 := by kernel_rfl
@[go_sem] theorem Tryd.ty.ag99 : Go.Ab.aggO Tryd.prog 99 = some false := by kernel_rfl
@[go_sem] theorem Tryd.ty.el99 : Go.Ab.elemOf Tryd.prog 99 = none := by kernel_rfl
@[go_sem] theorem Tryd.ty.by99 : Go.Ab.bytesOf Tryd.prog 99 = 8 := by kernel_rfl
@[go_sem] theorem Tryd.ty.st99 : Go.Ab.strTy Tryd.prog 99 = false := by kernel_rfl
@[go_sem] theorem Tryd.ty.ar99 : Go.Ab.arrOf Tryd.prog 99 = none := by kernel_rfl
@[go_sem] theorem Tryd.ty.mp99 : Go.Ab.mapOf Tryd.prog 99 = some (3, 23) := by kernel_rfl
@[go_sem] theorem Tryd.ty.zv99_23 : Go.Ab.zeroV Tryd.prog 23 = some (.agg [.int .i64 0, .int .i64 0]) := by kernel_rfl
@[go_sem] theorem Tryd.ty.ky99 : Go.Ab.KeyOk Tryd.prog 3 false 1 := Go.Ab.key_int (by kernel_rfl)
@[go_sem] theorem Tryd.ty.ze99 : Go.Ab.zeroD Tryd.prog 99 = some [.val (.map none)] := by kernel_rfl
@[go_sem] theorem Tryd.ty.sz100 : Go.Ab.szOf Tryd.prog 100 = 10 := by kernel_rfl
@[go_sem] theorem Tryd.ty.ag100 : Go.Ab.aggO Tryd.prog 100 = some true := by kernel_rfl
@[go_sem] theorem Tryd.ty.el100 : Go.Ab.elemOf Tryd.prog 100 = none := by kernel_rfl
@[go_sem] theorem Tryd.ty.by100 : Go.Ab.bytesOf Tryd.prog 100 = 96 := by kernel_rfl
@[go_sem] theorem Tryd.ty.st100 : Go.Ab.strTy Tryd.prog 100 = false := by kernel_rfl
@[go_sem] theorem Tryd.ty.ar100 : Go.Ab.arrOf Tryd.prog 100 = none := by kernel_rfl
@[go_sem] theorem Tryd.ty.ze100 : Go.Ab.zeroD Tryd.prog 100 = some [.int .i64 0, .int .i64 0, .int .i64 0, .int .i64 0, .int .i64 0, .int .i64 0, .int .i64 0, .int .i64 0, .val (.slice none 0 0), .val (.map none)] := by kernel_rfl
@[go_sem] theorem Tryd.ty.fo100_0 : Go.Ab.fieldOff Tryd.prog 100 0 = some (0, 26) := by kernel_rfl
@[go_sem] theorem Tryd.ty.fo100_1 : Go.Ab.fieldOff Tryd.prog 100 1 = some (9, 99) := by kernel_rfl
@[go_sem] theorem Tryd.ty.pl100 : Go.Ab.placeD Tryd.prog 100 = some fun i => ([(0, 9), (9, 1)] : List (Nat × Nat))[i]? := by kernel_rfl
@[go_sem] theorem Tryd.ty.sz101 : Go.Ab.szOf Tryd.prog 101 = 10 := by kernel_rfl
@[go_sem] theorem Tryd.ty.ag101 : Go.Ab.aggO Tryd.prog 101 = some true := by kernel_rfl
@[go_sem] theorem Tryd.ty.el101 : Go.Ab.elemOf Tryd.prog 101 = none := by kernel_rfl
@[go_sem] theorem Tryd.ty.by101 : Go.Ab.bytesOf Tryd.prog 101 = 96 := by kernel_rfl
@[go_sem] theorem Tryd.ty.st101 : Go.Ab.strTy Tryd.prog 101 = false := by kernel_rfl
@[go_sem] theorem Tryd.ty.ar101 : Go.Ab.arrOf Tryd.prog 101 = none := by kernel_rfl
@[go_sem] theorem Tryd.ty.ze101 : Go.Ab.zeroD Tryd.prog 101 = some [.int .i64 0, .int .i64 0, .int .i64 0, .int .i64 0, .int .i64 0, .int .i64 0, .int .i64 0, .int .i64 0, .val (.slice none 0 0), .val (.map none)] := by kernel_rfl
@[go_sem] theorem Tryd.ty.fo101_0 : Go.Ab.fieldOff Tryd.prog 101 0 = some (0, 26) := by kernel_rfl
@[go_sem] theorem Tryd.ty.fo101_1 : Go.Ab.fieldOff Tryd.prog 101 1 = some (9, 99) := by kernel_rfl
@[go_sem] theorem Tryd.ty.pl101 : Go.Ab.placeD Tryd.prog 101 = some fun i => ([(0, 9), (9, 1)] : List (Nat × Nat))[i]? := by kernel_rfl
@[go_sem] theorem Tryd.ty.sz104 : Go.Ab.szOf Tryd.prog 104 = 1 := by kernel_rfl
@[go_sem] theorem Tryd.ty.ag104 : Go.Ab.aggO Tryd.prog 104 = some false := by kernel_rfl
@[go_sem] theorem Tryd.ty.ze104 : Go.Ab.zeroD Tryd.prog 104 = some [.val .nilFunc] := by kernel_rfl
@[go_sem] theorem Tryd.ty.el104 : Go.Ab.elemOf Tryd.prog 104 = none := by kernel_rfl
@[go_sem] theorem Tryd.ty.sz105 : Go.Ab.szOf Tryd.prog 105 = 1 := by kernel_rfl
@[go_sem] theorem Tryd.ty.ag105 : Go.Ab.aggO Tryd.prog 105 = some false := by kernel_rfl
@[go_sem] theorem Tryd.ty.ze105 : Go.Ab.zeroD Tryd.prog 105 = some [.val .nilFunc] := by kernel_rfl
@[go_sem] theorem Tryd.ty.el105 : Go.Ab.elemOf Tryd.prog 105 = none := by kernel_rfl
@[go_sem] theorem Tryd.ty.sz107 : Go.Ab.szOf Tryd.prog 107 = 1 := by kernel_rfl
@[go_sem] theorem Tryd.ty.ag107 : Go.Ab.aggO Tryd.prog 107 = some false := by kernel_rfl
@[go_sem] theorem Tryd.ty.ze107 : Go.Ab.zeroD Tryd.prog 107 = some [.val .nilFunc] := by kernel_rfl
@[go_sem] theorem Tryd.ty.el107 : Go.Ab.elemOf Tryd.prog 107 = none := by kernel_rfl
@[go_sem] theorem Tryd.ty.sz108 : Go.Ab.szOf Tryd.prog 108 = 1 := by kernel_rfl
@[go_sem] theorem Tryd.ty.ag108 : Go.Ab.aggO Tryd.prog 108 = some false := by kernel_rfl
@[go_sem] theorem Tryd.ty.ze108 : Go.Ab.zeroD Tryd.prog 108 = some [.val .nilFunc] := by kernel_rfl
@[go_sem] theorem Tryd.ty.el108 : Go.Ab.elemOf Tryd.prog 108 = none := by kernel_rfl
@[go_sem] theorem Tryd.ty.sz109 : Go.Ab.szOf Tryd.prog 109 = 1 := by kernel_rfl
@[go_sem] theorem Tryd.ty.ag109 : Go.Ab.aggO Tryd.prog 109 = some false := by kernel_rfl
@[go_sem] theorem Tryd.ty.ze109 : Go.Ab.zeroD Tryd.prog 109 = some [.val .nilFunc] := by kernel_rfl
@[go_sem] theorem Tryd.ty.el109 : Go.Ab.elemOf Tryd.prog 109 = none := by kernel_rfl
@[go_sem] theorem Tryd.ty.sz110 : Go.Ab.szOf Tryd.prog 110 = 1 := by kernel_rfl
@[go_sem] theorem Tryd.ty.ag110 : Go.Ab.aggO Tryd.prog 110 = some false := by kernel_rfl
@[go_sem] theorem Tryd.ty.ze110 : Go.Ab.zeroD Tryd.prog 110 = some [.val .nilFunc] := by kernel_rfl
@[go_sem] theorem Tryd.ty.el110 : Go.Ab.elemOf Tryd.prog 110 = none := by kernel_rfl
@[go_sem] theorem Tryd.ty.sz113 : Go.Ab.szOf Tryd.prog 113 = 18 := by kernel_rfl
@[go_sem] theorem Tryd.ty.ag113 : Go.Ab.aggO Tryd.prog 113 = some true := by kernel_rfl
@[go_sem] theorem Tryd.ty.el113 : Go.Ab.elemOf Tryd.prog 113 = none := by kernel_rfl
@[go_sem] theorem Tryd.ty.by113 : Go.Ab.bytesOf Tryd.prog 113 = 144 := by kernel_rfl
@[go_sem] theorem Tryd.ty.st113 : Go.Ab.strTy Tryd.prog 113 = false := by kernel_rfl
@[go_sem] theorem Tryd.ty.ar113 : Go.Ab.arrOf Tryd.prog 113 = some (6, 50) := by kernel_rfl
@[go_sem] theorem Tryd.ty.ze113 : Go.Ab.zeroD Tryd.prog 113 = some [.int .i64 0, .int .i64 0, .int .i64 0, .int .i64 0, .int .i64 0, .int .i64 0, .int .i64 0, .int .i64 0, .int .i64 0, .int .i64 0, .int .i64 0, .int .i64 0, .int .i64 0, .int .i64 0, .int .i64 0, .int .i64 0, .int .i64 0, .int .i64 0] := by kernel_rfl
@[go_sem] theorem Tryd.ty.pl113 : Go.Ab.placeD Tryd.prog 113 = some fun i => some (i * 3, 3) := by kernel_rfl
@[go_sem] theorem Tryd.ty.sz114 : Go.Ab.szOf Tryd.prog 114 = 1 := by kernel_rfl
@[go_sem] theorem Tryd.ty.ag114 : Go.Ab.aggO Tryd.prog 114 = some false := by kernel_rfl
@[go_sem] theorem Tryd.ty.ze114 : Go.Ab.zeroD Tryd.prog 114 = some [.val .nilFunc] := by kernel_rfl
@[go_sem] theorem Tryd.ty.el114 : Go.Ab.elemOf Tryd.prog 114 = none := by kernel_rfl
@[go_sem] theorem Tryd.ty.sz122 : Go.Ab.szOf Tryd.prog 122 = 1 := by kernel_rfl
@[go_sem] theorem Tryd.ty.ag122 : Go.Ab.aggO Tryd.prog 122 = some false := by kernel_rfl
@[go_sem] theorem Tryd.ty.ze122 : Go.Ab.zeroD Tryd.prog 122 = some [.val .nilFunc] := by kernel_rfl
@[go_sem] theorem Tryd.ty.el122 : Go.Ab.elemOf Tryd.prog 122 = none := by kernel_rfl
@[go_sem] theorem Tryd.ty.sz124 : Go.Ab.szOf Tryd.prog 124 = 8 := by kernel_rfl
@[go_sem] theorem Tryd.ty.ag124 : Go.Ab.aggO Tryd.prog 124 = some true := by kernel_rfl
@[go_sem] theorem Tryd.ty.el124 : Go.Ab.elemOf Tryd.prog 124 = none := by kernel_rfl
@[go_sem] theorem Tryd.ty.by124 : Go.Ab.bytesOf Tryd.prog 124 = 64 := by kernel_rfl
@[go_sem] theorem Tryd.ty.st124 : Go.Ab.strTy Tryd.prog 124 = false := by kernel_rfl
@[go_sem] theorem Tryd.ty.ar124 : Go.Ab.arrOf Tryd.prog 124 = none := by kernel_rfl
@[go_sem] theorem Tryd.ty.ze124 : Go.Ab.zeroD Tryd.prog 124 = some [.int .i64 0, .int .i64 0, .int .i64 0, .int .i64 0, .int .i64 0, .int .i64 0, .int .i64 0, .int .i64 0] := by kernel_rfl
@[go_sem] theorem Tryd.ty.fo124_0 : Go.Ab.fieldOff Tryd.prog 124 0 = some (0, 48) := by kernel_rfl
@[go_sem] theorem Tryd.ty.fo124_1 : Go.Ab.fieldOff Tryd.prog 124 1 = some (7, 3) := by kernel_rfl
@[go_sem] theorem Tryd.ty.pl124 : Go.Ab.placeD Tryd.prog 124 = some fun i => ([(0, 7), (7, 1)] : List (Nat × Nat))[i]? := by kernel_rfl
@[go_sem] theorem Tryd.ty.sz125 : Go.Ab.szOf Tryd.prog 125 = 8 := by kernel_rfl
@[go_sem] theorem Tryd.ty.ag125 : Go.Ab.aggO Tryd.prog 125 = some true := by kernel_rfl
@[go_sem] theorem Tryd.ty.el125 : Go.Ab.elemOf Tryd.prog 125 = none := by kernel_rfl
@[go_sem] theorem Tryd.ty.by125 : Go.Ab.bytesOf Tryd.prog 125 = 64 := by kernel_rfl
@[go_sem] theorem Tryd.ty.st125 : Go.Ab.strTy Tryd.prog 125 = false := by kernel_rfl
@[go_sem] theorem Tryd.ty.ar125 : Go.Ab.arrOf Tryd.prog 125 = none := by kernel_rfl
@[go_sem] theorem Tryd.ty.ze125 : Go.Ab.zeroD Tryd.prog 125 = some [.int .i64 0, .int .i64 0, .int .i64 0, .int .i64 0, .int .i64 0, .int .i64 0, .int .i64 0, .int .i64 0] := by kernel_rfl
@[go_sem] theorem Tryd.ty.fo125_0 : Go.Ab.fieldOff Tryd.prog 125 0 = some (0, 48) := by kernel_rfl
@[go_sem] theorem Tryd.ty.fo125_1 : Go.Ab.fieldOff Tryd.prog 125 1 = some (7, 3) := by kernel_rfl
@[go_sem] theorem Tryd.ty.pl125 : Go.Ab.placeD Tryd.prog 125 = some fun i => ([(0, 7), (7, 1)] : List (Nat × Nat))[i]? := by kernel_rfl
@[go_sem] theorem Tryd.ty.sz130 : Go.Ab.szOf Tryd.prog 130 = 1 := by kernel_rfl
@[go_sem] theorem Tryd.ty.ag130 : Go.Ab.aggO Tryd.prog 130 = some false := by kernel_rfl
@[go_sem] theorem Tryd.ty.el130 : Go.Ab.elemOf Tryd.prog 130 = some 9 := by kernel_rfl
@[go_sem] theorem Tryd.ty.by130 : Go.Ab.bytesOf Tryd.prog 130 = 24 := by kernel_rfl
@[go_sem] theorem Tryd.ty.st130 : Go.Ab.strTy Tryd.prog 130 = false := by kernel_rfl
@[go_sem] theorem Tryd.ty.ze130 : Go.Ab.zeroD Tryd.prog 130 = some [.val (.slice none 0 0)] := by kernel_rfl
@[go_sem] theorem Tryd.ty.sz131 : Go.Ab.szOf Tryd.prog 131 = 7 := by kernel_rfl
@[go_sem] theorem Tryd.ty.ag131 : Go.Ab.aggO Tryd.prog 131 = some true := by kernel_rfl
@[go_sem] theorem Tryd.ty.el131 : Go.Ab.elemOf Tryd.prog 131 = none := by kernel_rfl
@[go_sem] theorem Tryd.ty.by131 : Go.Ab.bytesOf Tryd.prog 131 = 56 := by kernel_rfl
@[go_sem] theorem Tryd.ty.st131 : Go.Ab.strTy Tryd.prog 131 = false := by kernel_rfl
@[go_sem] theorem Tryd.ty.ar131 : Go.Ab.arrOf Tryd.prog 131 = some (7, 3) := by kernel_rfl
@[go_sem] theorem Tryd.ty.ze131 : Go.Ab.zeroD Tryd.prog 131 = some [.int .i64 0, .int .i64 0, .int .i64 0, .int .i64 0, .int .i64 0, .int .i64 0, .int .i64 0] := by kernel_rfl
@[go_sem] theorem Tryd.ty.pl131 : Go.Ab.placeD Tryd.prog 131 = some fun i => some (i * 1, 1) := by kernel_rfl
@[go_sem] theorem Tryd.ty.sz133 : Go.Ab.szOf Tryd.prog 133 = 3 := by kernel_rfl
@[go_sem] theorem Tryd.ty.ag133 : Go.Ab.aggO Tryd.prog 133 = some true := by kernel_rfl
@[go_sem] theorem Tryd.ty.el133 : Go.Ab.elemOf Tryd.prog 133 = none := by kernel_rfl
@[go_sem] theorem Tryd.ty.by133 : Go.Ab.bytesOf Tryd.prog 133 = 24 := by kernel_rfl
@[go_sem] theorem Tryd.ty.st133 : Go.Ab.strTy Tryd.prog 133 = false := by kernel_rfl
@[go_sem] theorem Tryd.ty.ar133 : Go.Ab.arrOf Tryd.prog 133 = some (3, 107) := by kernel_rfl
@[go_sem] theorem Tryd.ty.ze133 : Go.Ab.zeroD Tryd.prog 133 = some [.val .nilFunc, .val .nilFunc, .val .nilFunc] := by kernel_rfl
@[go_sem] theorem Tryd.ty.pl133 : Go.Ab.placeD Tryd.prog 133 = some fun i => some (i * 1, 1) := by kernel_rfl
theorem Tryd.ty.mixed : Tryd.prog.follows .mixedOrders = true := by kernel_rfl
end Go.Proofs.YtdbiiegohemahaaDoor
