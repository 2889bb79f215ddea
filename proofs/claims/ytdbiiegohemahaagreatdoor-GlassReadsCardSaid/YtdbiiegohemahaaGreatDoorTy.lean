/- What the plain layer asks of the types of this translation. Printed by a program. -/
import Derived.Test.YtdbiiegohemahaaGreatDoorAbI
import Derived.Test.YtdbiiegohemahaaGreatDoorRows
namespace Go.Proofs.YtdbiiegohemahaaGreatDoor
open Go.Ab
@[go_sem] theorem Tryz.ty.sz1 : Go.Ab.szOf Tryz.prog 1 = 1 := by kernel_rfl
@[go_sem] theorem Tryz.ty.ag1 : Go.Ab.aggO Tryz.prog 1 = some false := by kernel_rfl
@[go_sem] theorem Tryz.ty.ze1 : Go.Ab.zeroD Tryz.prog 1 = some [.val .nilFunc] := by kernel_rfl
@[go_sem] theorem Tryz.ty.el1 : Go.Ab.elemOf Tryz.prog 1 = none := by kernel_rfl
@[go_sem] theorem Tryz.ty.sz2 : Go.Ab.szOf Tryz.prog 2 = 1 := by kernel_rfl
@[go_sem] theorem Tryz.ty.ag2 : Go.Ab.aggO Tryz.prog 2 = some false := by kernel_rfl
@[go_sem] theorem Tryz.ty.el2 : Go.Ab.elemOf Tryz.prog 2 = none := by kernel_rfl
@[go_sem] theorem Tryz.ty.by2 : Go.Ab.bytesOf Tryz.prog 2 = 8 := by kernel_rfl
@[go_sem] theorem Tryz.ty.st2 : Go.Ab.strTy Tryz.prog 2 = false := by kernel_rfl
@[go_sem] theorem Tryz.ty.in2 : Go.Ab.intOfTy Tryz.prog 2 = some .i64 := by kernel_rfl
@[go_sem] theorem Tryz.ty.ar2 : Go.Ab.arrOf Tryz.prog 2 = none := by kernel_rfl
@[go_sem] theorem Tryz.ty.ze2 : Go.Ab.zeroD Tryz.prog 2 = some [.int .i64 0] := by kernel_rfl
@[go_sem] theorem Tryz.ty.sz3 : Go.Ab.szOf Tryz.prog 3 = 1 := by kernel_rfl
@[go_sem] theorem Tryz.ty.ag3 : Go.Ab.aggO Tryz.prog 3 = some false := by kernel_rfl
@[go_sem] theorem Tryz.ty.el3 : Go.Ab.elemOf Tryz.prog 3 = none := by kernel_rfl
@[go_sem] theorem Tryz.ty.by3 : Go.Ab.bytesOf Tryz.prog 3 = 8 := by kernel_rfl
@[go_sem] theorem Tryz.ty.st3 : Go.Ab.strTy Tryz.prog 3 = false := by kernel_rfl
@[go_sem] theorem Tryz.ty.in3 : Go.Ab.intOfTy Tryz.prog 3 = some .i64 := by kernel_rfl
@[go_sem] theorem Tryz.ty.ar3 : Go.Ab.arrOf Tryz.prog 3 = none := by kernel_rfl
@[go_sem] theorem Tryz.ty.ze3 : Go.Ab.zeroD Tryz.prog 3 = some [.int .i64 0] := by kernel_rfl
@[go_sem] theorem Tryz.ty.sz4 : Go.Ab.szOf Tryz.prog 4 = 1 := by kernel_rfl
@[go_sem] theorem Tryz.ty.ag4 : Go.Ab.aggO Tryz.prog 4 = some false := by kernel_rfl
@[go_sem] theorem Tryz.ty.el4 : Go.Ab.elemOf Tryz.prog 4 = none := by kernel_rfl
@[go_sem] theorem Tryz.ty.by4 : Go.Ab.bytesOf Tryz.prog 4 = 1 := by kernel_rfl
@[go_sem] theorem Tryz.ty.st4 : Go.Ab.strTy Tryz.prog 4 = false := by kernel_rfl
@[go_sem] theorem Tryz.ty.ar4 : Go.Ab.arrOf Tryz.prog 4 = none := by kernel_rfl
@[go_sem] theorem Tryz.ty.ze4 : Go.Ab.zeroD Tryz.prog 4 = some [.bool false] := by kernel_rfl
@[go_sem] theorem Tryz.ty.sz5 : Go.Ab.szOf Tryz.prog 5 = 1 := by kernel_rfl
@[go_sem] theorem Tryz.ty.ag5 : Go.Ab.aggO Tryz.prog 5 = some false := by kernel_rfl
@[go_sem] theorem Tryz.ty.el5 : Go.Ab.elemOf Tryz.prog 5 = none := by kernel_rfl
@[go_sem] theorem Tryz.ty.by5 : Go.Ab.bytesOf Tryz.prog 5 = 1 := by kernel_rfl
@[go_sem] theorem Tryz.ty.st5 : Go.Ab.strTy Tryz.prog 5 = false := by kernel_rfl
@[go_sem] theorem Tryz.ty.in5 : Go.Ab.intOfTy Tryz.prog 5 = some .u8 := by kernel_rfl
@[go_sem] theorem Tryz.ty.ar5 : Go.Ab.arrOf Tryz.prog 5 = none := by kernel_rfl
@[go_sem] theorem Tryz.ty.ze5 : Go.Ab.zeroD Tryz.prog 5 = some [.int .u8 0] := by kernel_rfl
@[go_sem] theorem Tryz.ty.sz6 : Go.Ab.szOf Tryz.prog 6 = 1 := by kernel_rfl
@[go_sem] theorem Tryz.ty.ag6 : Go.Ab.aggO Tryz.prog 6 = some false := by kernel_rfl
@[go_sem] theorem Tryz.ty.el6 : Go.Ab.elemOf Tryz.prog 6 = none := by kernel_rfl
@[go_sem] theorem Tryz.ty.by6 : Go.Ab.bytesOf Tryz.prog 6 = 1 := by kernel_rfl
@[go_sem] theorem Tryz.ty.st6 : Go.Ab.strTy Tryz.prog 6 = false := by kernel_rfl
@[go_sem] theorem Tryz.ty.in6 : Go.Ab.intOfTy Tryz.prog 6 = some .u8 := by kernel_rfl
@[go_sem] theorem Tryz.ty.ar6 : Go.Ab.arrOf Tryz.prog 6 = none := by kernel_rfl
@[go_sem] theorem Tryz.ty.ze6 : Go.Ab.zeroD Tryz.prog 6 = some [.int .u8 0] := by kernel_rfl
@[go_sem] theorem Tryz.ty.sz9 : Go.Ab.szOf Tryz.prog 9 = 1 := by kernel_rfl
@[go_sem] theorem Tryz.ty.ag9 : Go.Ab.aggO Tryz.prog 9 = some false := by kernel_rfl
@[go_sem] theorem Tryz.ty.el9 : Go.Ab.elemOf Tryz.prog 9 = none := by kernel_rfl
@[go_sem] theorem Tryz.ty.by9 : Go.Ab.bytesOf Tryz.prog 9 = 16 := by kernel_rfl
@[go_sem] theorem Tryz.ty.st9 : Go.Ab.strTy Tryz.prog 9 = true := by kernel_rfl
@[go_sem] theorem Tryz.ty.ar9 : Go.Ab.arrOf Tryz.prog 9 = none := by kernel_rfl
@[go_sem] theorem Tryz.ty.ze9 : Go.Ab.zeroD Tryz.prog 9 = some [.str ⟨#[]⟩] := by kernel_rfl
@[go_sem] theorem Tryz.ty.sz21 : Go.Ab.szOf Tryz.prog 21 = 1 := by kernel_rfl
@[go_sem] theorem Tryz.ty.ag21 : Go.Ab.aggO Tryz.prog 21 = some false := by kernel_rfl
@[go_sem] theorem Tryz.ty.el21 : Go.Ab.elemOf Tryz.prog 21 = none := by kernel_rfl
@[go_sem] theorem Tryz.ty.by21 : Go.Ab.bytesOf Tryz.prog 21 = 4 := by kernel_rfl
@[go_sem] theorem Tryz.ty.st21 : Go.Ab.strTy Tryz.prog 21 = false := by kernel_rfl
@[go_sem] theorem Tryz.ty.in21 : Go.Ab.intOfTy Tryz.prog 21 = some .i32 := by kernel_rfl
@[go_sem] theorem Tryz.ty.ar21 : Go.Ab.arrOf Tryz.prog 21 = none := by kernel_rfl
@[go_sem] theorem Tryz.ty.ze21 : Go.Ab.zeroD Tryz.prog 21 = some [.int .i32 0] := by kernel_rfl
@[go_sem] theorem Tryz.ty.sz22 : Go.Ab.szOf Tryz.prog 22 = 1 := by kernel_rfl
@[go_sem] theorem Tryz.ty.ag22 : Go.Ab.aggO Tryz.prog 22 = some false := by kernel_rfl
@[go_sem] theorem Tryz.ty.el22 : Go.Ab.elemOf Tryz.prog 22 = some 53 := by kernel_rfl
@[go_sem] theorem Tryz.ty.by22 : Go.Ab.bytesOf Tryz.prog 22 = 24 := by kernel_rfl
@[go_sem] theorem Tryz.ty.st22 : Go.Ab.strTy Tryz.prog 22 = false := by kernel_rfl
@[go_sem] theorem Tryz.ty.ze22 : Go.Ab.zeroD Tryz.prog 22 = some [.val (.slice none 0 0)] := by kernel_rfl
@[go_sem] theorem Tryz.ty.sz24 : Go.Ab.szOf Tryz.prog 24 = 1 := by kernel_rfl
@[go_sem] theorem Tryz.ty.ag24 : Go.Ab.aggO Tryz.prog 24 = some false := by kernel_rfl
@[go_sem] theorem Tryz.ty.el24 : Go.Ab.elemOf Tryz.prog 24 = none := by kernel_rfl
@[go_sem] theorem Tryz.ty.by24 : Go.Ab.bytesOf Tryz.prog 24 = 8 := by kernel_rfl
@[go_sem] theorem Tryz.ty.st24 : Go.Ab.strTy Tryz.prog 24 = false := by kernel_rfl
@[go_sem] theorem Tryz.ty.in24 : Go.Ab.intOfTy Tryz.prog 24 = some .i64 := by kernel_rfl
@[go_sem] theorem Tryz.ty.ar24 : Go.Ab.arrOf Tryz.prog 24 = none := by kernel_rfl
@[go_sem] theorem Tryz.ty.ze24 : Go.Ab.zeroD Tryz.prog 24 = some [.int .i64 0] := by kernel_rfl
@[go_sem] theorem Tryz.ty.sz35 : Go.Ab.szOf Tryz.prog 35 = 1 := by kernel_rfl
@[go_sem] theorem Tryz.ty.ag35 : Go.Ab.aggO Tryz.prog 35 = some false := by kernel_rfl
@[go_sem] theorem Tryz.ty.el35 : Go.Ab.elemOf Tryz.prog 35 = some 5 := by kernel_rfl
@[go_sem] theorem Tryz.ty.by35 : Go.Ab.bytesOf Tryz.prog 35 = 24 := by kernel_rfl
@[go_sem] theorem Tryz.ty.st35 : Go.Ab.strTy Tryz.prog 35 = false := by kernel_rfl
@[go_sem] theorem Tryz.ty.ze35 : Go.Ab.zeroD Tryz.prog 35 = some [.val (.slice none 0 0)] := by kernel_rfl
@[go_sem] theorem Tryz.ty.sz37 : Go.Ab.szOf Tryz.prog 37 = 2 := by kernel_rfl
@[go_sem] theorem Tryz.ty.ag37 : Go.Ab.aggO Tryz.prog 37 = some true := by kernel_rfl
@[go_sem] theorem Tryz.ty.el37 : Go.Ab.elemOf Tryz.prog 37 = none := by kernel_rfl
@[go_sem] theorem Tryz.ty.by37 : Go.Ab.bytesOf Tryz.prog 37 = 16 := by kernel_rfl
@[go_sem] theorem Tryz.ty.st37 : Go.Ab.strTy Tryz.prog 37 = false := by kernel_rfl
@[go_sem] theorem Tryz.ty.ar37 : Go.Ab.arrOf Tryz.prog 37 = none := by kernel_rfl
@[go_sem] theorem Tryz.ty.eq37 : Go.Ab.EqInts Tryz.prog 37 2 := Go.Ab.eq_struct (by kernel_rfl) (by kernel_rfl) (by kernel_rfl) (by kernel_rfl)
@[go_sem] theorem Tryz.ty.ze37 : Go.Ab.zeroD Tryz.prog 37 = some [.int .i64 0, .int .i64 0] := by kernel_rfl
@[go_sem] theorem Tryz.ty.fo37_0 : Go.Ab.fieldOff Tryz.prog 37 0 = some (0, 3) := by kernel_rfl
@[go_sem] theorem Tryz.ty.fo37_1 : Go.Ab.fieldOff Tryz.prog 37 1 = some (1, 3) := by kernel_rfl
@[go_sem] theorem Tryz.ty.pl37 : Go.Ab.placeD Tryz.prog 37 = some fun i => ([(0, 1), (1, 1)] : List (Nat × Nat))[i]? := by kernel_rfl
@[go_sem] theorem Tryz.ty.sz38 : Go.Ab.szOf Tryz.prog 38 = 2 := by kernel_rfl
@[go_sem] theorem Tryz.ty.ag38 : Go.Ab.aggO Tryz.prog 38 = some true := by kernel_rfl
@[go_sem] theorem Tryz.ty.el38 : Go.Ab.elemOf Tryz.prog 38 = none := by kernel_rfl
@[go_sem] theorem Tryz.ty.by38 : Go.Ab.bytesOf Tryz.prog 38 = 16 := by kernel_rfl
@[go_sem] theorem Tryz.ty.st38 : Go.Ab.strTy Tryz.prog 38 = false := by kernel_rfl
@[go_sem] theorem Tryz.ty.ar38 : Go.Ab.arrOf Tryz.prog 38 = none := by kernel_rfl
@[go_sem] theorem Tryz.ty.eq38 : Go.Ab.EqInts Tryz.prog 38 2 := Go.Ab.eq_struct (by kernel_rfl) (by kernel_rfl) (by kernel_rfl) (by kernel_rfl)
@[go_sem] theorem Tryz.ty.ze38 : Go.Ab.zeroD Tryz.prog 38 = some [.int .i64 0, .int .i64 0] := by kernel_rfl
@[go_sem] theorem Tryz.ty.fo38_0 : Go.Ab.fieldOff Tryz.prog 38 0 = some (0, 3) := by kernel_rfl
@[go_sem] theorem Tryz.ty.fo38_1 : Go.Ab.fieldOff Tryz.prog 38 1 = some (1, 3) := by kernel_rfl
@[go_sem] theorem Tryz.ty.pl38 : Go.Ab.placeD Tryz.prog 38 = some fun i => ([(0, 1), (1, 1)] : List (Nat × Nat))[i]? := by kernel_rfl
@[go_sem] theorem Tryz.ty.sz41 : Go.Ab.szOf Tryz.prog 41 = 1 := by kernel_rfl
@[go_sem] theorem Tryz.ty.ag41 : Go.Ab.aggO Tryz.prog 41 = some false := by kernel_rfl
@[go_sem] theorem Tryz.ty.el41 : Go.Ab.elemOf Tryz.prog 41 = some 87 := by kernel_rfl
@[go_sem] theorem Tryz.ty.by41 : Go.Ab.bytesOf Tryz.prog 41 = 24 := by kernel_rfl
@[go_sem] theorem Tryz.ty.st41 : Go.Ab.strTy Tryz.prog 41 = false := by kernel_rfl
@[go_sem] theorem Tryz.ty.ze41 : Go.Ab.zeroD Tryz.prog 41 = some [.val (.slice none 0 0)] := by kernel_rfl
@[go_sem] theorem Tryz.ty.sz42 : Go.Ab.szOf Tryz.prog 42 = 9 := by kernel_rfl
@[go_sem] theorem Tryz.ty.ag42 : Go.Ab.aggO Tryz.prog 42 = some true := by kernel_rfl
@[go_sem] theorem Tryz.ty.el42 : Go.Ab.elemOf Tryz.prog 42 = none := by kernel_rfl
@[go_sem] theorem Tryz.ty.by42 : Go.Ab.bytesOf Tryz.prog 42 = 88 := by kernel_rfl
@[go_sem] theorem Tryz.ty.st42 : Go.Ab.strTy Tryz.prog 42 = false := by kernel_rfl
@[go_sem] theorem Tryz.ty.ar42 : Go.Ab.arrOf Tryz.prog 42 = none := by kernel_rfl
@[go_sem] theorem Tryz.ty.ze42 : Go.Ab.zeroD Tryz.prog 42 = some [.int .i64 0, .int .i64 0, .int .i64 0, .int .i64 0, .int .i64 0, .int .i64 0, .int .i64 0, .int .i64 0, .val (.slice none 0 0)] := by kernel_rfl
@[go_sem] theorem Tryz.ty.fo42_0 : Go.Ab.fieldOff Tryz.prog 42 0 = some (0, 38) := by kernel_rfl
@[go_sem] theorem Tryz.ty.fo42_1 : Go.Ab.fieldOff Tryz.prog 42 1 = some (2, 38) := by kernel_rfl
@[go_sem] theorem Tryz.ty.fo42_2 : Go.Ab.fieldOff Tryz.prog 42 2 = some (4, 3) := by kernel_rfl
@[go_sem] theorem Tryz.ty.fo42_3 : Go.Ab.fieldOff Tryz.prog 42 3 = some (5, 3) := by kernel_rfl
@[go_sem] theorem Tryz.ty.fo42_4 : Go.Ab.fieldOff Tryz.prog 42 4 = some (6, 3) := by kernel_rfl
@[go_sem] theorem Tryz.ty.fo42_5 : Go.Ab.fieldOff Tryz.prog 42 5 = some (7, 3) := by kernel_rfl
@[go_sem] theorem Tryz.ty.fo42_6 : Go.Ab.fieldOff Tryz.prog 42 6 = some (8, 41) := by kernel_rfl
@[go_sem] theorem Tryz.ty.pl42 : Go.Ab.placeD Tryz.prog 42 = some fun i => ([(0, 2), (2, 2), (4, 1), (5, 1), (6, 1), (7, 1), (8, 1)] : List (Nat × Nat))[i]? := by kernel_rfl
@[go_sem] theorem Tryz.ty.sz43 : Go.Ab.szOf Tryz.prog 43 = 9 := by kernel_rfl
@[go_sem] theorem Tryz.ty.ag43 : Go.Ab.aggO Tryz.prog 43 = some true := by kernel_rfl
@[go_sem] theorem Tryz.ty.el43 : Go.Ab.elemOf Tryz.prog 43 = none := by kernel_rfl
@[go_sem] theorem Tryz.ty.by43 : Go.Ab.bytesOf Tryz.prog 43 = 88 := by kernel_rfl
@[go_sem] theorem Tryz.ty.st43 : Go.Ab.strTy Tryz.prog 43 = false := by kernel_rfl
@[go_sem] theorem Tryz.ty.ar43 : Go.Ab.arrOf Tryz.prog 43 = none := by kernel_rfl
@[go_sem] theorem Tryz.ty.ze43 : Go.Ab.zeroD Tryz.prog 43 = some [.int .i64 0, .int .i64 0, .int .i64 0, .int .i64 0, .int .i64 0, .int .i64 0, .int .i64 0, .int .i64 0, .val (.slice none 0 0)] := by kernel_rfl
@[go_sem] theorem Tryz.ty.fo43_0 : Go.Ab.fieldOff Tryz.prog 43 0 = some (0, 38) := by kernel_rfl
@[go_sem] theorem Tryz.ty.fo43_1 : Go.Ab.fieldOff Tryz.prog 43 1 = some (2, 38) := by kernel_rfl
@[go_sem] theorem Tryz.ty.fo43_2 : Go.Ab.fieldOff Tryz.prog 43 2 = some (4, 3) := by kernel_rfl
@[go_sem] theorem Tryz.ty.fo43_3 : Go.Ab.fieldOff Tryz.prog 43 3 = some (5, 3) := by kernel_rfl
@[go_sem] theorem Tryz.ty.fo43_4 : Go.Ab.fieldOff Tryz.prog 43 4 = some (6, 3) := by kernel_rfl
@[go_sem] theorem Tryz.ty.fo43_5 : Go.Ab.fieldOff Tryz.prog 43 5 = some (7, 3) := by kernel_rfl
@[go_sem] theorem Tryz.ty.fo43_6 : Go.Ab.fieldOff Tryz.prog 43 6 = some (8, 41) := by kernel_rfl
@[go_sem] theorem Tryz.ty.pl43 : Go.Ab.placeD Tryz.prog 43 = some fun i => ([(0, 2), (2, 2), (4, 1), (5, 1), (6, 1), (7, 1), (8, 1)] : List (Nat × Nat))[i]? := by kernel_rfl
@[go_sem] theorem Tryz.ty.sz47 : Go.Ab.szOf Tryz.prog 47 = 3 := by kernel_rfl
@[go_sem] theorem Tryz.ty.ag47 : Go.Ab.aggO Tryz.prog 47 = some true := by kernel_rfl
@[go_sem] theorem Tryz.ty.el47 : Go.Ab.elemOf Tryz.prog 47 = none := by kernel_rfl
@[go_sem] theorem Tryz.ty.by47 : Go.Ab.bytesOf Tryz.prog 47 = 24 := by kernel_rfl
@[go_sem] theorem Tryz.ty.st47 : Go.Ab.strTy Tryz.prog 47 = false := by kernel_rfl
@[go_sem] theorem Tryz.ty.ar47 : Go.Ab.arrOf Tryz.prog 47 = none := by kernel_rfl
@[go_sem] theorem Tryz.ty.eq47 : Go.Ab.EqInts Tryz.prog 47 3 := Go.Ab.eq_struct (by kernel_rfl) (by kernel_rfl) (by kernel_rfl) (by kernel_rfl)
@[go_sem] theorem Tryz.ty.ze47 : Go.Ab.zeroD Tryz.prog 47 = some [.int .i64 0, .int .i64 0, .int .i64 0] := by kernel_rfl
@[go_sem] theorem Tryz.ty.fo47_0 : Go.Ab.fieldOff Tryz.prog 47 0 = some (0, 3) := by kernel_rfl
@[go_sem] theorem Tryz.ty.fo47_1 : Go.Ab.fieldOff Tryz.prog 47 1 = some (1, 3) := by kernel_rfl
@[go_sem] theorem Tryz.ty.fo47_2 : Go.Ab.fieldOff Tryz.prog 47 2 = some (2, 3) := by kernel_rfl
@[go_sem] theorem Tryz.ty.pl47 : Go.Ab.placeD Tryz.prog 47 = some fun i => ([(0, 1), (1, 1), (2, 1)] : List (Nat × Nat))[i]? := by kernel_rfl
@[go_sem] theorem Tryz.ty.sz48 : Go.Ab.szOf Tryz.prog 48 = 3 := by kernel_rfl
@[go_sem] theorem Tryz.ty.ag48 : Go.Ab.aggO Tryz.prog 48 = some true := by kernel_rfl
@[go_sem] theorem Tryz.ty.el48 : Go.Ab.elemOf Tryz.prog 48 = none := by kernel_rfl
@[go_sem] theorem Tryz.ty.by48 : Go.Ab.bytesOf Tryz.prog 48 = 24 := by kernel_rfl
@[go_sem] theorem Tryz.ty.st48 : Go.Ab.strTy Tryz.prog 48 = false := by kernel_rfl
@[go_sem] theorem Tryz.ty.ar48 : Go.Ab.arrOf Tryz.prog 48 = none := by kernel_rfl
@[go_sem] theorem Tryz.ty.eq48 : Go.Ab.EqInts Tryz.prog 48 3 := Go.Ab.eq_struct (by kernel_rfl) (by kernel_rfl) (by kernel_rfl) (by kernel_rfl)
@[go_sem] theorem Tryz.ty.ze48 : Go.Ab.zeroD Tryz.prog 48 = some [.int .i64 0, .int .i64 0, .int .i64 0] := by kernel_rfl
@[go_sem] theorem Tryz.ty.fo48_0 : Go.Ab.fieldOff Tryz.prog 48 0 = some (0, 3) := by kernel_rfl
@[go_sem] theorem Tryz.ty.fo48_1 : Go.Ab.fieldOff Tryz.prog 48 1 = some (1, 3) := by kernel_rfl
@[go_sem] theorem Tryz.ty.fo48_2 : Go.Ab.fieldOff Tryz.prog 48 2 = some (2, 3) := by kernel_rfl
@[go_sem] theorem Tryz.ty.pl48 : Go.Ab.placeD Tryz.prog 48 = some fun i => ([(0, 1), (1, 1), (2, 1)] : List (Nat × Nat))[i]? := by kernel_rfl
@[go_sem] theorem Tryz.ty.sz51 : Go.Ab.szOf Tryz.prog 51 = 1 := by kernel_rfl
@[go_sem] theorem Tryz.ty.ag51 : Go.Ab.aggO Tryz.prog 51 = some false := by kernel_rfl
@[go_sem] theorem Tryz.ty.el51 : Go.Ab.elemOf Tryz.prog 51 = none := by kernel_rfl
@[go_sem] theorem Tryz.ty.by51 : Go.Ab.bytesOf Tryz.prog 51 = 8 := by kernel_rfl
@[go_sem] theorem Tryz.ty.st51 : Go.Ab.strTy Tryz.prog 51 = false := by kernel_rfl
@[go_sem] theorem Tryz.ty.in51 : Go.Ab.intOfTy Tryz.prog 51 = some .i64 := by kernel_rfl
@[go_sem] theorem Tryz.ty.ar51 : Go.Ab.arrOf Tryz.prog 51 = none := by kernel_rfl
@[go_sem] theorem Tryz.ty.ze51 : Go.Ab.zeroD Tryz.prog 51 = some [.int .i64 0] := by kernel_rfl
@[go_sem] theorem Tryz.ty.sz52 : Go.Ab.szOf Tryz.prog 52 = 10 := by kernel_rfl
@[go_sem] theorem Tryz.ty.ag52 : Go.Ab.aggO Tryz.prog 52 = some true := by kernel_rfl
@[go_sem] theorem Tryz.ty.el52 : Go.Ab.elemOf Tryz.prog 52 = none := by kernel_rfl
@[go_sem] theorem Tryz.ty.by52 : Go.Ab.bytesOf Tryz.prog 52 = 80 := by kernel_rfl
@[go_sem] theorem Tryz.ty.st52 : Go.Ab.strTy Tryz.prog 52 = false := by kernel_rfl
@[go_sem] theorem Tryz.ty.ar52 : Go.Ab.arrOf Tryz.prog 52 = none := by kernel_rfl
@[go_sem] theorem Tryz.ty.ze52 : Go.Ab.zeroD Tryz.prog 52 = some [.int .i64 0, .int .i64 0, .int .i64 0, .int .i64 0, .int .i64 0, .int .i64 0, .int .i64 0, .int .i64 0, .int .i64 0, .int .i64 0] := by kernel_rfl
@[go_sem] theorem Tryz.ty.fo52_0 : Go.Ab.fieldOff Tryz.prog 52 0 = some (0, 3) := by kernel_rfl
@[go_sem] theorem Tryz.ty.fo52_1 : Go.Ab.fieldOff Tryz.prog 52 1 = some (1, 3) := by kernel_rfl
@[go_sem] theorem Tryz.ty.fo52_2 : Go.Ab.fieldOff Tryz.prog 52 2 = some (2, 51) := by kernel_rfl
@[go_sem] theorem Tryz.ty.fo52_3 : Go.Ab.fieldOff Tryz.prog 52 3 = some (3, 3) := by kernel_rfl
@[go_sem] theorem Tryz.ty.fo52_4 : Go.Ab.fieldOff Tryz.prog 52 4 = some (4, 38) := by kernel_rfl
@[go_sem] theorem Tryz.ty.fo52_5 : Go.Ab.fieldOff Tryz.prog 52 5 = some (6, 38) := by kernel_rfl
@[go_sem] theorem Tryz.ty.fo52_6 : Go.Ab.fieldOff Tryz.prog 52 6 = some (8, 38) := by kernel_rfl
@[go_sem] theorem Tryz.ty.pl52 : Go.Ab.placeD Tryz.prog 52 = some fun i => ([(0, 1), (1, 1), (2, 1), (3, 1), (4, 2), (6, 2), (8, 2)] : List (Nat × Nat))[i]? := by kernel_rfl
@[go_sem] theorem Tryz.ty.sz53 : Go.Ab.szOf Tryz.prog 53 = 10 := by kernel_rfl
@[go_sem] theorem Tryz.ty.ag53 : Go.Ab.aggO Tryz.prog 53 = some true := by kernel_rfl
@[go_sem] theorem Tryz.ty.el53 : Go.Ab.elemOf Tryz.prog 53 = none := by kernel_rfl
@[go_sem] theorem Tryz.ty.by53 : Go.Ab.bytesOf Tryz.prog 53 = 80 := by kernel_rfl
@[go_sem] theorem Tryz.ty.st53 : Go.Ab.strTy Tryz.prog 53 = false := by kernel_rfl
@[go_sem] theorem Tryz.ty.ar53 : Go.Ab.arrOf Tryz.prog 53 = none := by kernel_rfl
@[go_sem] theorem Tryz.ty.ze53 : Go.Ab.zeroD Tryz.prog 53 = some [.int .i64 0, .int .i64 0, .int .i64 0, .int .i64 0, .int .i64 0, .int .i64 0, .int .i64 0, .int .i64 0, .int .i64 0, .int .i64 0] := by kernel_rfl
@[go_sem] theorem Tryz.ty.fo53_0 : Go.Ab.fieldOff Tryz.prog 53 0 = some (0, 3) := by kernel_rfl
@[go_sem] theorem Tryz.ty.fo53_1 : Go.Ab.fieldOff Tryz.prog 53 1 = some (1, 3) := by kernel_rfl
@[go_sem] theorem Tryz.ty.fo53_2 : Go.Ab.fieldOff Tryz.prog 53 2 = some (2, 51) := by kernel_rfl
@[go_sem] theorem Tryz.ty.fo53_3 : Go.Ab.fieldOff Tryz.prog 53 3 = some (3, 3) := by kernel_rfl
@[go_sem] theorem Tryz.ty.fo53_4 : Go.Ab.fieldOff Tryz.prog 53 4 = some (4, 38) := by kernel_rfl
@[go_sem] theorem Tryz.ty.fo53_5 : Go.Ab.fieldOff Tryz.prog 53 5 = some (6, 38) := by kernel_rfl
@[go_sem] theorem Tryz.ty.fo53_6 : Go.Ab.fieldOff Tryz.prog 53 6 = some (8, 38) := by kernel_rfl
@[go_sem] theorem Tryz.ty.pl53 : Go.Ab.placeD Tryz.prog 53 = some fun i => ([(0, 1), (1, 1), (2, 1), (3, 1), (4, 2), (6, 2), (8, 2)] : List (Nat × Nat))[i]? := by kernel_rfl
@[go_sem] theorem Tryz.ty.sz55 : Go.Ab.szOf Tryz.prog 55 = 7 := by kernel_rfl
@[go_sem] theorem Tryz.ty.ag55 : Go.Ab.aggO Tryz.prog 55 = some true := by kernel_rfl
@[go_sem] theorem Tryz.ty.el55 : Go.Ab.elemOf Tryz.prog 55 = none := by kernel_rfl
@[go_sem] theorem Tryz.ty.by55 : Go.Ab.bytesOf Tryz.prog 55 = 56 := by kernel_rfl
@[go_sem] theorem Tryz.ty.st55 : Go.Ab.strTy Tryz.prog 55 = false := by kernel_rfl
@[go_sem] theorem Tryz.ty.ar55 : Go.Ab.arrOf Tryz.prog 55 = none := by kernel_rfl
@[go_sem] theorem Tryz.ty.eq55 : Go.Ab.EqInts Tryz.prog 55 7 := Go.Ab.eq_struct (by kernel_rfl) (by kernel_rfl) (by kernel_rfl) (by kernel_rfl)
@[go_sem] theorem Tryz.ty.ze55 : Go.Ab.zeroD Tryz.prog 55 = some [.int .i64 0, .int .i64 0, .int .i64 0, .int .i64 0, .int .i64 0, .int .i64 0, .int .i64 0] := by kernel_rfl
@[go_sem] theorem Tryz.ty.fo55_0 : Go.Ab.fieldOff Tryz.prog 55 0 = some (0, 3) := by kernel_rfl
@[go_sem] theorem Tryz.ty.fo55_1 : Go.Ab.fieldOff Tryz.prog 55 1 = some (1, 3) := by kernel_rfl
@[go_sem] theorem Tryz.ty.fo55_2 : Go.Ab.fieldOff Tryz.prog 55 2 = some (2, 3) := by kernel_rfl
@[go_sem] theorem Tryz.ty.fo55_3 : Go.Ab.fieldOff Tryz.prog 55 3 = some (3, 3) := by kernel_rfl
@[go_sem] theorem Tryz.ty.fo55_4 : Go.Ab.fieldOff Tryz.prog 55 4 = some (4, 3) := by kernel_rfl
@[go_sem] theorem Tryz.ty.fo55_5 : Go.Ab.fieldOff Tryz.prog 55 5 = some (5, 3) := by kernel_rfl
@[go_sem] theorem Tryz.ty.fo55_6 : Go.Ab.fieldOff Tryz.prog 55 6 = some (6, 3) := by kernel_rfl
@[go_sem] theorem Tryz.ty.pl55 : Go.Ab.placeD Tryz.prog 55 = some fun i => ([(0, 1), (1, 1), (2, 1), (3, 1), (4, 1), (5, 1), (6, 1)] : List (Nat × Nat))[i]? := by kernel_rfl
@[go_sem] theorem Tryz.ty.sz56 : Go.Ab.szOf Tryz.prog 56 = 7 := by kernel_rfl
@[go_sem] theorem Tryz.ty.ag56 : Go.Ab.aggO Tryz.prog 56 = some true := by kernel_rfl
@[go_sem] theorem Tryz.ty.el56 : Go.Ab.elemOf Tryz.prog 56 = none := by kernel_rfl
@[go_sem] theorem Tryz.ty.by56 : Go.Ab.bytesOf Tryz.prog 56 = 56 := by kernel_rfl
@[go_sem] theorem Tryz.ty.st56 : Go.Ab.strTy Tryz.prog 56 = false := by kernel_rfl
@[go_sem] theorem Tryz.ty.ar56 : Go.Ab.arrOf Tryz.prog 56 = none := by kernel_rfl
@[go_sem] theorem Tryz.ty.eq56 : Go.Ab.EqInts Tryz.prog 56 7 := Go.Ab.eq_struct (by kernel_rfl) (by kernel_rfl) (by kernel_rfl) (by kernel_rfl)
@[go_sem] theorem Tryz.ty.ze56 : Go.Ab.zeroD Tryz.prog 56 = some [.int .i64 0, .int .i64 0, .int .i64 0, .int .i64 0, .int .i64 0, .int .i64 0, .int .i64 0] := by kernel_rfl
@[go_sem] theorem Tryz.ty.fo56_0 : Go.Ab.fieldOff Tryz.prog 56 0 = some (0, 3) := by kernel_rfl
@[go_sem] theorem Tryz.ty.fo56_1 : Go.Ab.fieldOff Tryz.prog 56 1 = some (1, 3) := by kernel_rfl
@[go_sem] theorem Tryz.ty.fo56_2 : Go.Ab.fieldOff Tryz.prog 56 2 = some (2, 3) := by kernel_rfl
@[go_sem] theorem Tryz.ty.fo56_3 : Go.Ab.fieldOff Tryz.prog 56 3 = some (3, 3) := by kernel_rfl
@[go_sem] theorem Tryz.ty.fo56_4 : Go.Ab.fieldOff Tryz.prog 56 4 = some (4, 3) := by kernel_rfl
@[go_sem] theorem Tryz.ty.fo56_5 : Go.Ab.fieldOff Tryz.prog 56 5 = some (5, 3) := by kernel_rfl
@[go_sem] theorem Tryz.ty.fo56_6 : Go.Ab.fieldOff Tryz.prog 56 6 = some (6, 3) := by kernel_rfl
@[go_sem] theorem Tryz.ty.pl56 : Go.Ab.placeD Tryz.prog 56 = some fun i => ([(0, 1), (1, 1), (2, 1), (3, 1), (4, 1), (5, 1), (6, 1)] : List (Nat × Nat))[i]? := by kernel_rfl
@[go_sem] theorem Tryz.ty.sz57 : Go.Ab.szOf Tryz.prog 57 = 6 := by kernel_rfl
@[go_sem] theorem Tryz.ty.ag57 : Go.Ab.aggO Tryz.prog 57 = some true := by kernel_rfl
@[go_sem] theorem Tryz.ty.el57 : Go.Ab.elemOf Tryz.prog 57 = none := by kernel_rfl
@[go_sem] theorem Tryz.ty.by57 : Go.Ab.bytesOf Tryz.prog 57 = 48 := by kernel_rfl
@[go_sem] theorem Tryz.ty.st57 : Go.Ab.strTy Tryz.prog 57 = false := by kernel_rfl
@[go_sem] theorem Tryz.ty.ar57 : Go.Ab.arrOf Tryz.prog 57 = none := by kernel_rfl
@[go_sem] theorem Tryz.ty.ze57 : Go.Ab.zeroD Tryz.prog 57 = some [.int .i64 0, .int .i64 0, .int .i64 0, .int .i64 0, .int .i64 0, .int .i64 0] := by kernel_rfl
@[go_sem] theorem Tryz.ty.fo57_0 : Go.Ab.fieldOff Tryz.prog 57 0 = some (0, 38) := by kernel_rfl
@[go_sem] theorem Tryz.ty.fo57_1 : Go.Ab.fieldOff Tryz.prog 57 1 = some (2, 38) := by kernel_rfl
@[go_sem] theorem Tryz.ty.fo57_2 : Go.Ab.fieldOff Tryz.prog 57 2 = some (4, 38) := by kernel_rfl
@[go_sem] theorem Tryz.ty.pl57 : Go.Ab.placeD Tryz.prog 57 = some fun i => ([(0, 2), (2, 2), (4, 2)] : List (Nat × Nat))[i]? := by kernel_rfl
@[go_sem] theorem Tryz.ty.sz58 : Go.Ab.szOf Tryz.prog 58 = 6 := by kernel_rfl
@[go_sem] theorem Tryz.ty.ag58 : Go.Ab.aggO Tryz.prog 58 = some true := by kernel_rfl
@[go_sem] theorem Tryz.ty.el58 : Go.Ab.elemOf Tryz.prog 58 = none := by kernel_rfl
@[go_sem] theorem Tryz.ty.by58 : Go.Ab.bytesOf Tryz.prog 58 = 48 := by kernel_rfl
@[go_sem] theorem Tryz.ty.st58 : Go.Ab.strTy Tryz.prog 58 = false := by kernel_rfl
@[go_sem] theorem Tryz.ty.ar58 : Go.Ab.arrOf Tryz.prog 58 = none := by kernel_rfl
@[go_sem] theorem Tryz.ty.ze58 : Go.Ab.zeroD Tryz.prog 58 = some [.int .i64 0, .int .i64 0, .int .i64 0, .int .i64 0, .int .i64 0, .int .i64 0] := by kernel_rfl
@[go_sem] theorem Tryz.ty.fo58_0 : Go.Ab.fieldOff Tryz.prog 58 0 = some (0, 38) := by kernel_rfl
@[go_sem] theorem Tryz.ty.fo58_1 : Go.Ab.fieldOff Tryz.prog 58 1 = some (2, 38) := by kernel_rfl
@[go_sem] theorem Tryz.ty.fo58_2 : Go.Ab.fieldOff Tryz.prog 58 2 = some (4, 38) := by kernel_rfl
@[go_sem] theorem Tryz.ty.pl58 : Go.Ab.placeD Tryz.prog 58 = some fun i => ([(0, 2), (2, 2), (4, 2)] : List (Nat × Nat))[i]? := by kernel_rfl
@[go_sem] theorem Tryz.ty.sz62 : Go.Ab.szOf Tryz.prog 62 = 1 := by kernel_rfl
@[go_sem] theorem Tryz.ty.ag62 : Go.Ab.aggO Tryz.prog 62 = some false := by kernel_rfl
@[go_sem] theorem Tryz.ty.el62 : Go.Ab.elemOf Tryz.prog 62 = some 38 := by kernel_rfl
@[go_sem] theorem Tryz.ty.by62 : Go.Ab.bytesOf Tryz.prog 62 = 24 := by kernel_rfl
@[go_sem] theorem Tryz.ty.st62 : Go.Ab.strTy Tryz.prog 62 = false := by kernel_rfl
@[go_sem] theorem Tryz.ty.ze62 : Go.Ab.zeroD Tryz.prog 62 = some [.val (.slice none 0 0)] := by kernel_rfl
@[go_sem] theorem Tryz.ty.sz71 : Go.Ab.szOf Tryz.prog 71 = 1 := by kernel_rfl
@[go_sem] theorem Tryz.ty.ag71 : Go.Ab.aggO Tryz.prog 71 = some true := by kernel_rfl
@[go_sem] theorem Tryz.ty.el71 : Go.Ab.elemOf Tryz.prog 71 = none := by kernel_rfl
@[go_sem] theorem Tryz.ty.by71 : Go.Ab.bytesOf Tryz.prog 71 = 16 := by kernel_rfl
@[go_sem] theorem Tryz.ty.st71 : Go.Ab.strTy Tryz.prog 71 = false := by kernel_rfl
@[go_sem] theorem Tryz.ty.ar71 : Go.Ab.arrOf Tryz.prog 71 = none := by kernel_rfl
@[go_sem] theorem Tryz.ty.ze71 : Go.Ab.zeroD Tryz.prog 71 = some [.str ⟨#[]⟩] := by kernel_rfl
@[go_sem] theorem Tryz.ty.fo71_0 : Go.Ab.fieldOff Tryz.prog 71 0 = some (0, 9) := by kernel_rfl
@[go_sem] theorem Tryz.ty.pl71 : Go.Ab.placeD Tryz.prog 71 = some fun i => ([(0, 1)] : List (Nat × Nat))[i]? := by kernel_rfl
@[go_sem] theorem Tryz.ty.sz72 : Go.Ab.szOf Tryz.prog 72 = 1 := by kernel_rfl
@[go_sem] theorem Tryz.ty.ag72 : Go.Ab.aggO Tryz.prog 72 = some true := by kernel_rfl
@[go_sem] theorem Tryz.ty.el72 : Go.Ab.elemOf Tryz.prog 72 = none := by kernel_rfl
@[go_sem] theorem Tryz.ty.by72 : Go.Ab.bytesOf Tryz.prog 72 = 16 := by kernel_rfl
@[go_sem] theorem Tryz.ty.st72 : Go.Ab.strTy Tryz.prog 72 = false := by kernel_rfl
@[go_sem] theorem Tryz.ty.ar72 : Go.Ab.arrOf Tryz.prog 72 = none := by kernel_rfl
@[go_sem] theorem Tryz.ty.ze72 : Go.Ab.zeroD Tryz.prog 72 = some [.str ⟨#[]⟩] := by kernel_rfl
@[go_sem] theorem Tryz.ty.fo72_0 : Go.Ab.fieldOff Tryz.prog 72 0 = some (0, 9) := by kernel_rfl
@[go_sem] theorem Tryz.ty.pl72 : Go.Ab.placeD Tryz.prog 72 = some fun i => ([(0, 1)] : List (Nat × Nat))[i]? := by kernel_rfl
@[go_sem] theorem Tryz.ty.sz74 : Go.Ab.szOf Tryz.prog 74 = 1 := by kernel_rfl
@[go_sem] theorem Tryz.ty.ag74 : Go.Ab.aggO Tryz.prog 74 = some false := by kernel_rfl
@[go_sem] theorem Tryz.ty.el74 : Go.Ab.elemOf Tryz.prog 74 = some 9 := by kernel_rfl
@[go_sem] theorem Tryz.ty.by74 : Go.Ab.bytesOf Tryz.prog 74 = 24 := by kernel_rfl
@[go_sem] theorem Tryz.ty.st74 : Go.Ab.strTy Tryz.prog 74 = false := by kernel_rfl
@[go_sem] theorem Tryz.ty.ze74 : Go.Ab.zeroD Tryz.prog 74 = some [.val (.slice none 0 0)] := by kernel_rfl
@[go_sem] theorem Tryz.ty.sz76 : Go.Ab.szOf Tryz.prog 76 = 10 := by kernel_rfl
@[go_sem] theorem Tryz.ty.ag76 : Go.Ab.aggO Tryz.prog 76 = some true := by kernel_rfl
@[go_sem] theorem Tryz.ty.el76 : Go.Ab.elemOf Tryz.prog 76 = none := by kernel_rfl
@[go_sem] theorem Tryz.ty.by76 : Go.Ab.bytesOf Tryz.prog 76 = 80 := by kernel_rfl
@[go_sem] theorem Tryz.ty.st76 : Go.Ab.strTy Tryz.prog 76 = false := by kernel_rfl
@[go_sem] theorem Tryz.ty.ar76 : Go.Ab.arrOf Tryz.prog 76 = some (10, 3) := by kernel_rfl
@[go_sem] theorem Tryz.ty.ze76 : Go.Ab.zeroD Tryz.prog 76 = some [.int .i64 0, .int .i64 0, .int .i64 0, .int .i64 0, .int .i64 0, .int .i64 0, .int .i64 0, .int .i64 0, .int .i64 0, .int .i64 0] := by kernel_rfl
@[go_sem] theorem Tryz.ty.pl76 : Go.Ab.placeD Tryz.prog 76 = some fun i => some (i * 1, 1) := by kernel_rfl
@[go_sem] theorem Tryz.ty.sz79 : Go.Ab.szOf Tryz.prog 79 = 1 := by kernel_rfl
@[go_sem] theorem Tryz.ty.ag79 : Go.Ab.aggO Tryz.prog 79 = some false := by kernel_rfl
@[go_sem] theorem Tryz.ty.el79 : Go.Ab.elemOf Tryz.prog 79 = none := by kernel_rfl
@[go_sem] theorem Tryz.ty.by79 : Go.Ab.bytesOf Tryz.prog 79 = 8 := by kernel_rfl
@[go_sem] theorem Tryz.ty.st79 : Go.Ab.strTy Tryz.prog 79 = false := by kernel_rfl
@[go_sem] theorem Tryz.ty.ar79 : Go.Ab.arrOf Tryz.prog 79 = none := by kernel_rfl
@[go_sem] theorem Tryz.ty.mp79 : Go.Ab.mapOf Tryz.prog 79 = some (3, 38) := by kernel_rfl
@[go_sem] theorem Tryz.ty.zv79_38 : Go.Ab.zeroV Tryz.prog 38 = some (.agg [.int .i64 0, .int .i64 0]) := by kernel_rfl
@[go_sem] theorem Tryz.ty.ky79 : Go.Ab.KeyOk Tryz.prog 3 false 1 := Go.Ab.key_int (by kernel_rfl)
@[go_sem] theorem Tryz.ty.ze79 : Go.Ab.zeroD Tryz.prog 79 = some [.val (.map none)] := by kernel_rfl
@[go_sem] theorem Tryz.ty.sz80 : Go.Ab.szOf Tryz.prog 80 = 10 := by kernel_rfl
@[go_sem] theorem Tryz.ty.ag80 : Go.Ab.aggO Tryz.prog 80 = some true := by kernel_rfl
@[go_sem] theorem Tryz.ty.el80 : Go.Ab.elemOf Tryz.prog 80 = none := by kernel_rfl
@[go_sem] theorem Tryz.ty.by80 : Go.Ab.bytesOf Tryz.prog 80 = 96 := by kernel_rfl
@[go_sem] theorem Tryz.ty.st80 : Go.Ab.strTy Tryz.prog 80 = false := by kernel_rfl
@[go_sem] theorem Tryz.ty.ar80 : Go.Ab.arrOf Tryz.prog 80 = none := by kernel_rfl
@[go_sem] theorem Tryz.ty.ze80 : Go.Ab.zeroD Tryz.prog 80 = some [.int .i64 0, .int .i64 0, .int .i64 0, .int .i64 0, .int .i64 0, .int .i64 0, .int .i64 0, .int .i64 0, .val (.slice none 0 0), .val (.map none)] := by kernel_rfl
@[go_sem] theorem Tryz.ty.fo80_0 : Go.Ab.fieldOff Tryz.prog 80 0 = some (0, 43) := by kernel_rfl
@[go_sem] theorem Tryz.ty.fo80_1 : Go.Ab.fieldOff Tryz.prog 80 1 = some (9, 79) := by kernel_rfl
@[go_sem] theorem Tryz.ty.pl80 : Go.Ab.placeD Tryz.prog 80 = some fun i => ([(0, 9), (9, 1)] : List (Nat × Nat))[i]? := by kernel_rfl
@[go_sem] theorem Tryz.ty.sz81 : Go.Ab.szOf Tryz.prog 81 = 10 := by kernel_rfl
@[go_sem] theorem Tryz.ty.ag81 : Go.Ab.aggO Tryz.prog 81 = some true := by kernel_rfl
@[go_sem] theorem Tryz.ty.el81 : Go.Ab.elemOf Tryz.prog 81 = none := by kernel_rfl
@[go_sem] theorem Tryz.ty.by81 : Go.Ab.bytesOf Tryz.prog 81 = 96 := by kernel_rfl
@[go_sem] theorem Tryz.ty.st81 : Go.Ab.strTy Tryz.prog 81 = false := by kernel_rfl
@[go_sem] theorem Tryz.ty.ar81 : Go.Ab.arrOf Tryz.prog 81 = none := by kernel_rfl
@[go_sem] theorem Tryz.ty.ze81 : Go.Ab.zeroD Tryz.prog 81 = some [.int .i64 0, .int .i64 0, .int .i64 0, .int .i64 0, .int .i64 0, .int .i64 0, .int .i64 0, .int .i64 0, .val (.slice none 0 0), .val (.map none)] := by kernel_rfl
@[go_sem] theorem Tryz.ty.fo81_0 : Go.Ab.fieldOff Tryz.prog 81 0 = some (0, 43) := by kernel_rfl
@[go_sem] theorem Tryz.ty.fo81_1 : Go.Ab.fieldOff Tryz.prog 81 1 = some (9, 79) := by kernel_rfl
@[go_sem] theorem Tryz.ty.pl81 : Go.Ab.placeD Tryz.prog 81 = some fun i => ([(0, 9), (9, 1)] : List (Nat × Nat))[i]? := by kernel_rfl
@[go_sem] theorem Tryz.ty.sz85 : Go.Ab.szOf Tryz.prog 85 = 1 := by kernel_rfl
@[go_sem] theorem Tryz.ty.ag85 : Go.Ab.aggO Tryz.prog 85 = some false := by kernel_rfl
@[go_sem] theorem Tryz.ty.ze85 : Go.Ab.zeroD Tryz.prog 85 = some [.val .nilFunc] := by kernel_rfl
@[go_sem] theorem Tryz.ty.el85 : Go.Ab.elemOf Tryz.prog 85 = none := by kernel_rfl
@[go_sem] theorem Tryz.ty.sz86 : Go.Ab.szOf Tryz.prog 86 = 3 := by kernel_rfl
@[go_sem] theorem Tryz.ty.ag86 : Go.Ab.aggO Tryz.prog 86 = some true := by kernel_rfl
@[go_sem] theorem Tryz.ty.el86 : Go.Ab.elemOf Tryz.prog 86 = none := by kernel_rfl
@[go_sem] theorem Tryz.ty.by86 : Go.Ab.bytesOf Tryz.prog 86 = 24 := by kernel_rfl
@[go_sem] theorem Tryz.ty.st86 : Go.Ab.strTy Tryz.prog 86 = false := by kernel_rfl
@[go_sem] theorem Tryz.ty.ar86 : Go.Ab.arrOf Tryz.prog 86 = none := by kernel_rfl
@[go_sem] theorem Tryz.ty.ze86 : Go.Ab.zeroD Tryz.prog 86 = some [.int .i64 0, .int .i64 0, .int .i64 0] := by kernel_rfl
@[go_sem] theorem Tryz.ty.fo86_0 : Go.Ab.fieldOff Tryz.prog 86 0 = some (0, 3) := by kernel_rfl
@[go_sem] theorem Tryz.ty.fo86_1 : Go.Ab.fieldOff Tryz.prog 86 1 = some (1, 38) := by kernel_rfl
@[go_sem] theorem Tryz.ty.pl86 : Go.Ab.placeD Tryz.prog 86 = some fun i => ([(0, 1), (1, 2)] : List (Nat × Nat))[i]? := by kernel_rfl
@[go_sem] theorem Tryz.ty.sz87 : Go.Ab.szOf Tryz.prog 87 = 3 := by kernel_rfl
@[go_sem] theorem Tryz.ty.ag87 : Go.Ab.aggO Tryz.prog 87 = some true := by kernel_rfl
@[go_sem] theorem Tryz.ty.el87 : Go.Ab.elemOf Tryz.prog 87 = none := by kernel_rfl
@[go_sem] theorem Tryz.ty.by87 : Go.Ab.bytesOf Tryz.prog 87 = 24 := by kernel_rfl
@[go_sem] theorem Tryz.ty.st87 : Go.Ab.strTy Tryz.prog 87 = false := by kernel_rfl
@[go_sem] theorem Tryz.ty.ar87 : Go.Ab.arrOf Tryz.prog 87 = none := by kernel_rfl
@[go_sem] theorem Tryz.ty.ze87 : Go.Ab.zeroD Tryz.prog 87 = some [.int .i64 0, .int .i64 0, .int .i64 0] := by kernel_rfl
@[go_sem] theorem Tryz.ty.fo87_0 : Go.Ab.fieldOff Tryz.prog 87 0 = some (0, 3) := by kernel_rfl
@[go_sem] theorem Tryz.ty.fo87_1 : Go.Ab.fieldOff Tryz.prog 87 1 = some (1, 38) := by kernel_rfl
@[go_sem] theorem Tryz.ty.pl87 : Go.Ab.placeD Tryz.prog 87 = some fun i => ([(0, 1), (1, 2)] : List (Nat × Nat))[i]? := by kernel_rfl
@[go_sem] theorem Tryz.ty.sz90 : Go.Ab.szOf Tryz.prog 90 = 1 := by kernel_rfl
@[go_sem] theorem Tryz.ty.ag90 : Go.Ab.aggO Tryz.prog 90 = some false := by kernel_rfl
@[go_sem] theorem Tryz.ty.ze90 : Go.Ab.zeroD Tryz.prog 90 = some [.val .nilFunc] := by kernel_rfl
@[go_sem] theorem Tryz.ty.el90 : Go.Ab.elemOf Tryz.prog 90 = none := by kernel_rfl
@[go_sem] theorem Tryz.ty.sz91 : Go.Ab.szOf Tryz.prog 91 = 1 := by kernel_rfl
@[go_sem] theorem Tryz.ty.ag91 : Go.Ab.aggO Tryz.prog 91 = some false := by kernel_rfl
@[go_sem] theorem Tryz.ty.ze91 : Go.Ab.zeroD Tryz.prog 91 = some [.val .nilFunc] := by kernel_rfl
@[go_sem] theorem Tryz.ty.el91 : Go.Ab.elemOf Tryz.prog 91 = none := by kernel_rfl
@[go_sem] theorem Tryz.ty.sz92 : Go.Ab.szOf Tryz.prog 92 = 1 := by kernel_rfl
@[go_sem] theorem Tryz.ty.ag92 : Go.Ab.aggO Tryz.prog 92 = some false := by kernel_rfl
@[go_sem] theorem Tryz.ty.ze92 : Go.Ab.zeroD Tryz.prog 92 = some [.val .nilFunc] := by kernel_rfl
@[go_sem] theorem Tryz.ty.el92 : Go.Ab.elemOf Tryz.prog 92 = none := by kernel_rfl
@[go_sem] theorem Tryz.ty.sz98 : Go.Ab.szOf Tryz.prog 98 = 1 := by kernel_rfl
@[go_sem] theorem Tryz.ty.ag98 : Go.Ab.aggO Tryz.prog 98 = some false := by kernel_rfl
@[go_sem] theorem Tryz.ty.el98 : Go.Ab.elemOf Tryz.prog 98 = some 3 := by kernel_rfl
@[go_sem] theorem Tryz.ty.by98 : Go.Ab.bytesOf Tryz.prog 98 = 24 := by kernel_rfl
@[go_sem] theorem Tryz.ty.st98 : Go.Ab.strTy Tryz.prog 98 = false := by kernel_rfl
@[go_sem] theorem Tryz.ty.ze98 : Go.Ab.zeroD Tryz.prog 98 = some [.val (.slice none 0 0)] := by kernel_rfl
@[go_sem] theorem Tryz.ty.sz100 : Go.Ab.szOf Tryz.prog 100 = 7 := by kernel_rfl
@[go_sem] theorem Tryz.ty.ag100 : Go.Ab.aggO Tryz.prog 100 = some true := by kernel_rfl
@[go_sem] theorem Tryz.ty.el100 : Go.Ab.elemOf Tryz.prog 100 = none := by kernel_rfl
@[go_sem] theorem Tryz.ty.by100 : Go.Ab.bytesOf Tryz.prog 100 = 56 := by kernel_rfl
@[go_sem] theorem Tryz.ty.st100 : Go.Ab.strTy Tryz.prog 100 = false := by kernel_rfl
@[go_sem] theorem Tryz.ty.ar100 : Go.Ab.arrOf Tryz.prog 100 = some (7, 3) := by kernel_rfl
@[go_sem] theorem Tryz.ty.ze100 : Go.Ab.zeroD Tryz.prog 100 = some [.int .i64 0, .int .i64 0, .int .i64 0, .int .i64 0, .int .i64 0, .int .i64 0, .int .i64 0] := by kernel_rfl
@[go_sem] theorem Tryz.ty.pl100 : Go.Ab.placeD Tryz.prog 100 = some fun i => some (i * 1, 1) := by kernel_rfl
@[go_sem] theorem Tryz.ty.sz103 : Go.Ab.szOf Tryz.prog 103 = 1 := by kernel_rfl
@[go_sem] theorem Tryz.ty.ag103 : Go.Ab.aggO Tryz.prog 103 = some false := by kernel_rfl
@[go_sem] theorem Tryz.ty.ze103 : Go.Ab.zeroD Tryz.prog 103 = some [.val .nilFunc] := by kernel_rfl
@[go_sem] theorem Tryz.ty.el103 : Go.Ab.elemOf Tryz.prog 103 = none := by kernel_rfl
@[go_sem] theorem Tryz.ty.sz113 : Go.Ab.szOf Tryz.prog 113 = 1 := by kernel_rfl
@[go_sem] theorem Tryz.ty.ag113 : Go.Ab.aggO Tryz.prog 113 = some false := by kernel_rfl
@[go_sem] theorem Tryz.ty.ze113 : Go.Ab.zeroD Tryz.prog 113 = some [.val .nilFunc] := by kernel_rfl
@[go_sem] theorem Tryz.ty.el113 : Go.Ab.elemOf Tryz.prog 113 = none := by kernel_rfl
@[go_sem] theorem Tryz.ty.sz116 : Go.Ab.szOf Tryz.prog 116 = 8 := by kernel_rfl
@[go_sem] theorem Tryz.ty.ag116 : Go.Ab.aggO Tryz.prog 116 = some true := by kernel_rfl
@[go_sem] theorem Tryz.ty.el116 : Go.Ab.elemOf Tryz.prog 116 = none := by kernel_rfl
@[go_sem] theorem Tryz.ty.by116 : Go.Ab.bytesOf Tryz.prog 116 = 64 := by kernel_rfl
@[go_sem] theorem Tryz.ty.st116 : Go.Ab.strTy Tryz.prog 116 = false := by kernel_rfl
@[go_sem] theorem Tryz.ty.ar116 : Go.Ab.arrOf Tryz.prog 116 = none := by kernel_rfl
@[go_sem] theorem Tryz.ty.ze116 : Go.Ab.zeroD Tryz.prog 116 = some [.int .i64 0, .int .i64 0, .int .i64 0, .int .i64 0, .int .i64 0, .int .i64 0, .int .i64 0, .int .i64 0] := by kernel_rfl
@[go_sem] theorem Tryz.ty.fo116_0 : Go.Ab.fieldOff Tryz.prog 116 0 = some (0, 56) := by kernel_rfl
@[go_sem] theorem Tryz.ty.fo116_1 : Go.Ab.fieldOff Tryz.prog 116 1 = some (7, 3) := by kernel_rfl
@[go_sem] theorem Tryz.ty.pl116 : Go.Ab.placeD Tryz.prog 116 = some fun i => ([(0, 7), (7, 1)] : List (Nat × Nat))[i]? := by kernel_rfl
@[go_sem] theorem Tryz.ty.sz117 : Go.Ab.szOf Tryz.prog 117 = 8 := by kernel_rfl
@[go_sem] theorem Tryz.ty.ag117 : Go.Ab.aggO Tryz.prog 117 = some true := by kernel_rfl
@[go_sem] theorem Tryz.ty.el117 : Go.Ab.elemOf Tryz.prog 117 = none := by kernel_rfl
@[go_sem] theorem Tryz.ty.by117 : Go.Ab.bytesOf Tryz.prog 117 = 64 := by kernel_rfl
@[go_sem] theorem Tryz.ty.st117 : Go.Ab.strTy Tryz.prog 117 = false := by kernel_rfl
@[go_sem] theorem Tryz.ty.ar117 : Go.Ab.arrOf Tryz.prog 117 = none := by kernel_rfl
@[go_sem] theorem Tryz.ty.ze117 : Go.Ab.zeroD Tryz.prog 117 = some [.int .i64 0, .int .i64 0, .int .i64 0, .int .i64 0, .int .i64 0, .int .i64 0, .int .i64 0, .int .i64 0] := by kernel_rfl
@[go_sem] theorem Tryz.ty.fo117_0 : Go.Ab.fieldOff Tryz.prog 117 0 = some (0, 56) := by kernel_rfl
@[go_sem] theorem Tryz.ty.fo117_1 : Go.Ab.fieldOff Tryz.prog 117 1 = some (7, 3) := by kernel_rfl
@[go_sem] theorem Tryz.ty.pl117 : Go.Ab.placeD Tryz.prog 117 = some fun i => ([(0, 7), (7, 1)] : List (Nat × Nat))[i]? := by kernel_rfl
@[go_sem] theorem Tryz.ty.sz119 : Go.Ab.szOf Tryz.prog 119 = 1 := by kernel_rfl
@[go_sem] theorem Tryz.ty.ag119 : Go.Ab.aggO Tryz.prog 119 = some false := by kernel_rfl
@[go_sem] theorem Tryz.ty.ze119 : Go.Ab.zeroD Tryz.prog 119 = some [.val .nilFunc] := by kernel_rfl
@[go_sem] theorem Tryz.ty.el119 : Go.Ab.elemOf Tryz.prog 119 = none := by kernel_rfl
@[go_sem] theorem Tryz.ty.sz120 : Go.Ab.szOf Tryz.prog 120 = 1 := by kernel_rfl
@[go_sem] theorem Tryz.ty.ag120 : Go.Ab.aggO Tryz.prog 120 = some false := by kernel_rfl
@[go_sem] theorem Tryz.ty.ze120 : Go.Ab.zeroD Tryz.prog 120 = some [.val .nilFunc] := by kernel_rfl
@[go_sem] theorem Tryz.ty.el120 : Go.Ab.elemOf Tryz.prog 120 = none := by kernel_rfl
@[go_sem] theorem Tryz.ty.sz128 : Go.Ab.szOf Tryz.prog 128 = 3 := by kernel_rfl
@[go_sem] theorem Tryz.ty.ag128 : Go.Ab.aggO Tryz.prog 128 = some true := by kernel_rfl
@[go_sem] theorem Tryz.ty.el128 : Go.Ab.elemOf Tryz.prog 128 = none := by kernel_rfl
@[go_sem] theorem Tryz.ty.by128 : Go.Ab.bytesOf Tryz.prog 128 = 24 := by kernel_rfl
@[go_sem] theorem Tryz.ty.st128 : Go.Ab.strTy Tryz.prog 128 = false := by kernel_rfl
@[go_sem] theorem Tryz.ty.ar128 : Go.Ab.arrOf Tryz.prog 128 = some (3, 119) := by kernel_rfl
@[go_sem] theorem Tryz.ty.ze128 : Go.Ab.zeroD Tryz.prog 128 = some [.val .nilFunc, .val .nilFunc, .val .nilFunc] := by kernel_rfl
@[go_sem] theorem Tryz.ty.pl128 : Go.Ab.placeD Tryz.prog 128 = some fun i => some (i * 1, 1) := by kernel_rfl
@[go_sem] theorem Tryz.ty.sz130 : Go.Ab.szOf Tryz.prog 130 = 1 := by kernel_rfl
@[go_sem] theorem Tryz.ty.ag130 : Go.Ab.aggO Tryz.prog 130 = some false := by kernel_rfl
@[go_sem] theorem Tryz.ty.el130 : Go.Ab.elemOf Tryz.prog 130 = none := by kernel_rfl
@[go_sem] theorem Tryz.ty.by130 : Go.Ab.bytesOf Tryz.prog 130 = 8 := by kernel_rfl
@[go_sem] theorem Tryz.ty.st130 : Go.Ab.strTy Tryz.prog 130 = false := by kernel_rfl
@[go_sem] theorem Tryz.ty.ar130 : Go.Ab.arrOf Tryz.prog 130 = none := by kernel_rfl
@[go_sem] theorem Tryz.ty.ze130 : Go.Ab.zeroD Tryz.prog 130 = some [.val (.pointer none)] := by kernel_rfl
@[go_sem] theorem Tryz.ty.sz131 : Go.Ab.szOf Tryz.prog 131 = 2 := by kernel_rfl
@[go_sem] theorem Tryz.ty.ag131 : Go.Ab.aggO Tryz.prog 131 = some true := by kernel_rfl
@[go_sem] theorem Tryz.ty.el131 : Go.Ab.elemOf Tryz.prog 131 = none := by kernel_rfl
@[go_sem] theorem Tryz.ty.by131 : Go.Ab.bytesOf Tryz.prog 131 = 32 := by kernel_rfl
@[go_sem] theorem Tryz.ty.st131 : Go.Ab.strTy Tryz.prog 131 = false := by kernel_rfl
@[go_sem] theorem Tryz.ty.ar131 : Go.Ab.arrOf Tryz.prog 131 = none := by kernel_rfl
@[go_sem] theorem Tryz.ty.ze131 : Go.Ab.zeroD Tryz.prog 131 = some [.val (.pointer none), .val (.slice none 0 0)] := by kernel_rfl
@[go_sem] theorem Tryz.ty.fo131_0 : Go.Ab.fieldOff Tryz.prog 131 0 = some (0, 130) := by kernel_rfl
@[go_sem] theorem Tryz.ty.fo131_1 : Go.Ab.fieldOff Tryz.prog 131 1 = some (1, 35) := by kernel_rfl
@[go_sem] theorem Tryz.ty.pl131 : Go.Ab.placeD Tryz.prog 131 = some fun i => ([(0, 1), (1, 1)] : List (Nat × Nat))[i]? := by kernel_rfl
@[go_sem] theorem Tryz.ty.sz132 : Go.Ab.szOf Tryz.prog 132 = 2 := by kernel_rfl
@[go_sem] theorem Tryz.ty.ag132 : Go.Ab.aggO Tryz.prog 132 = some true := by kernel_rfl
@[go_sem] theorem Tryz.ty.el132 : Go.Ab.elemOf Tryz.prog 132 = none := by kernel_rfl
@[go_sem] theorem Tryz.ty.by132 : Go.Ab.bytesOf Tryz.prog 132 = 32 := by kernel_rfl
@[go_sem] theorem Tryz.ty.st132 : Go.Ab.strTy Tryz.prog 132 = false := by kernel_rfl
@[go_sem] theorem Tryz.ty.ar132 : Go.Ab.arrOf Tryz.prog 132 = none := by kernel_rfl
@[go_sem] theorem Tryz.ty.ze132 : Go.Ab.zeroD Tryz.prog 132 = some [.val (.pointer none), .val (.slice none 0 0)] := by kernel_rfl
@[go_sem] theorem Tryz.ty.fo132_0 : Go.Ab.fieldOff Tryz.prog 132 0 = some (0, 130) := by kernel_rfl
@[go_sem] theorem Tryz.ty.fo132_1 : Go.Ab.fieldOff Tryz.prog 132 1 = some (1, 35) := by kernel_rfl
@[go_sem] theorem Tryz.ty.pl132 : Go.Ab.placeD Tryz.prog 132 = some fun i => ([(0, 1), (1, 1)] : List (Nat × Nat))[i]? := by kernel_rfl
@[go_sem] theorem Tryz.ty.sz141 : Go.Ab.szOf Tryz.prog 141 = 17 := by kernel_rfl
@[go_sem] theorem Tryz.ty.ag141 : Go.Ab.aggO Tryz.prog 141 = some true := by kernel_rfl
@[go_sem] theorem Tryz.ty.el141 : Go.Ab.elemOf Tryz.prog 141 = none := by kernel_rfl
@[go_sem] theorem Tryz.ty.by141 : Go.Ab.bytesOf Tryz.prog 141 = 136 := by kernel_rfl
@[go_sem] theorem Tryz.ty.st141 : Go.Ab.strTy Tryz.prog 141 = false := by kernel_rfl
@[go_sem] theorem Tryz.ty.ar141 : Go.Ab.arrOf Tryz.prog 141 = some (17, 3) := by kernel_rfl
@[go_sem] theorem Tryz.ty.ze141 : Go.Ab.zeroD Tryz.prog 141 = some [.int .i64 0, .int .i64 0, .int .i64 0, .int .i64 0, .int .i64 0, .int .i64 0, .int .i64 0, .int .i64 0, .int .i64 0, .int .i64 0, .int .i64 0, .int .i64 0, .int .i64 0, .int .i64 0, .int .i64 0, .int .i64 0, .int .i64 0] := by kernel_rfl
@[go_sem] theorem Tryz.ty.pl141 : Go.Ab.placeD Tryz.prog 141 = some fun i => some (i * 1, 1) := by kernel_rfl
@[go_sem] theorem Tryz.ty.sz143 : Go.Ab.szOf Tryz.prog 143 = 24 := by kernel_rfl
@[go_sem] theorem Tryz.ty.ag143 : Go.Ab.aggO Tryz.prog 143 = some true := by kernel_rfl
@[go_sem] theorem Tryz.ty.el143 : Go.Ab.elemOf Tryz.prog 143 = none := by kernel_rfl
@[go_sem] theorem Tryz.ty.by143 : Go.Ab.bytesOf Tryz.prog 143 = 24 := by kernel_rfl
@[go_sem] theorem Tryz.ty.st143 : Go.Ab.strTy Tryz.prog 143 = false := by kernel_rfl
@[go_sem] theorem Tryz.ty.ar143 : Go.Ab.arrOf Tryz.prog 143 = some (24, 5) := by kernel_rfl
@[go_sem] theorem Tryz.ty.ze143 : Go.Ab.zeroD Tryz.prog 143 = some [.int .u8 0, .int .u8 0, .int .u8 0, .int .u8 0, .int .u8 0, .int .u8 0, .int .u8 0, .int .u8 0, .int .u8 0, .int .u8 0, .int .u8 0, .int .u8 0, .int .u8 0, .int .u8 0, .int .u8 0, .int .u8 0, .int .u8 0, .int .u8 0, .int .u8 0, .int .u8 0, .int .u8 0, .int .u8 0, .int .u8 0, .int .u8 0] := by kernel_rfl
@[go_sem] theorem Tryz.ty.pl143 : Go.Ab.placeD Tryz.prog 143 = some fun i => some (i * 1, 1) := by kernel_rfl
@[go_sem] theorem Tryz.ty.sz144 : Go.Ab.szOf Tryz.prog 144 = 1 := by kernel_rfl
@[go_sem] theorem Tryz.ty.ag144 : Go.Ab.aggO Tryz.prog 144 = some false := by kernel_rfl
@[go_sem] theorem Tryz.ty.el144 : Go.Ab.elemOf Tryz.prog 144 = none := by kernel_rfl
@[go_sem] theorem Tryz.ty.by144 : Go.Ab.bytesOf Tryz.prog 144 = 8 := by kernel_rfl
@[go_sem] theorem Tryz.ty.st144 : Go.Ab.strTy Tryz.prog 144 = false := by kernel_rfl
@[go_sem] theorem Tryz.ty.in144 : Go.Ab.intOfTy Tryz.prog 144 = some .u64 := by kernel_rfl
@[go_sem] theorem Tryz.ty.ar144 : Go.Ab.arrOf Tryz.prog 144 = none := by kernel_rfl
@[go_sem] theorem Tryz.ty.ze144 : Go.Ab.zeroD Tryz.prog 144 = some [.int .u64 0] := by kernel_rfl
@[go_sem] theorem Tryz.ty.sz149 : Go.Ab.szOf Tryz.prog 149 = 1 := by kernel_rfl
@[go_sem] theorem Tryz.ty.ag149 : Go.Ab.aggO Tryz.prog 149 = some false := by kernel_rfl
@[go_sem] theorem Tryz.ty.el149 : Go.Ab.elemOf Tryz.prog 149 = none := by kernel_rfl
@[go_sem] theorem Tryz.ty.by149 : Go.Ab.bytesOf Tryz.prog 149 = 8 := by kernel_rfl
@[go_sem] theorem Tryz.ty.st149 : Go.Ab.strTy Tryz.prog 149 = false := by kernel_rfl
@[go_sem] theorem Tryz.ty.ar149 : Go.Ab.arrOf Tryz.prog 149 = none := by kernel_rfl
@[go_sem] theorem Tryz.ty.ze149 : Go.Ab.zeroD Tryz.prog 149 = some [.val (.pointer none)] := by kernel_rfl
theorem Tryz.ty.mixed : Tryz.prog.follows .mixedOrders = true := by kernel_rfl
end Go.Proofs.YtdbiiegohemahaaGreatDoor
