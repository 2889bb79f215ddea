import Derived.Test.YtmnepfejoneghaaGreatDoorK05
import Derived.Test.YtmnepfejoneghaaGreatDoorRows
import Derived.Test.YtmnepfejoneghaaGreatDoorK08
/- What the plain layer asks of the types of this translation. Printed by a program. -/
namespace Go.Proofs.YtmnepfejoneghaaGreatDoor
open Go.Ab
@[go_sem] theorem Tryz.ty.sz3 : Go.Ab.szOf Tryz.prog 3 = 1 := by kernel_rfl
@[go_sem] theorem Tryz.ty.ag3 : Go.Ab.aggO Tryz.prog 3 = some false := by kernel_rfl
@[go_sem] theorem Tryz.ty.by3 : Go.Ab.bytesOf Tryz.prog 3 = 8 := by kernel_rfl
@[go_sem] theorem Tryz.ty.st3 : Go.Ab.strTy Tryz.prog 3 = false := by kernel_rfl
@[go_sem] theorem Tryz.ty.in3 : Go.Ab.intOfTy Tryz.prog 3 = some .i64 := by kernel_rfl
@[go_sem] theorem Tryz.ty.ze3 : Go.Ab.zeroD Tryz.prog 3 = some [.int .i64 0] := by kernel_rfl
@[go_sem] theorem Tryz.ty.sz4 : Go.Ab.szOf Tryz.prog 4 = 1 := by kernel_rfl
@[go_sem] theorem Tryz.ty.ag4 : Go.Ab.aggO Tryz.prog 4 = some false := by kernel_rfl
@[go_sem] theorem Tryz.ty.ze4 : Go.Ab.zeroD Tryz.prog 4 = some [.bool false] := by kernel_rfl
@[go_sem] theorem Tryz.ty.st7 : Go.Ab.strTy Tryz.prog 7 = false := by kernel_rfl
@[go_sem] theorem Tryz.ty.sz9 : Go.Ab.szOf Tryz.prog 9 = 1 := by kernel_rfl
@[go_sem] theorem Tryz.ty.ag9 : Go.Ab.aggO Tryz.prog 9 = some false := by kernel_rfl
@[go_sem] theorem Tryz.ty.el9 : Go.Ab.elemOf Tryz.prog 9 = none := by kernel_rfl
@[go_sem] theorem Tryz.ty.by9 : Go.Ab.bytesOf Tryz.prog 9 = 16 := by kernel_rfl
@[go_sem] theorem Tryz.ty.ze9 : Go.Ab.zeroD Tryz.prog 9 = some [.str ⟨#[]⟩] := by kernel_rfl
@[go_sem] theorem Tryz.ty.in21 : Go.Ab.intOfTy Tryz.prog 21 = some .i32 := by kernel_rfl
@[go_sem] theorem Tryz.ty.sz22 : Go.Ab.szOf Tryz.prog 22 = 1 := by kernel_rfl
@[go_sem] theorem Tryz.ty.ag22 : Go.Ab.aggO Tryz.prog 22 = some false := by kernel_rfl
@[go_sem] theorem Tryz.ty.el22 : Go.Ab.elemOf Tryz.prog 22 = some 37 := by kernel_rfl
@[go_sem] theorem Tryz.ty.ze22 : Go.Ab.zeroD Tryz.prog 22 = some [.val (.slice none 0 0)] := by kernel_rfl
@[go_sem] theorem Tryz.ty.el23 : Go.Ab.elemOf Tryz.prog 23 = some 4 := by kernel_rfl
@[go_sem] theorem Tryz.ty.sz27 : Go.Ab.szOf Tryz.prog 27 = 1 := by kernel_rfl
@[go_sem] theorem Tryz.ty.ag27 : Go.Ab.aggO Tryz.prog 27 = some false := by kernel_rfl
@[go_sem] theorem Tryz.ty.ze27 : Go.Ab.zeroD Tryz.prog 27 = some [.int .i64 0] := by kernel_rfl
@[go_sem] theorem Tryz.ty.ag33 : Go.Ab.aggO Tryz.prog 33 = some false := by kernel_rfl
@[go_sem] theorem Tryz.ty.sz35 : Go.Ab.szOf Tryz.prog 35 = 2 := by kernel_rfl
@[go_sem] theorem Tryz.ty.ag35 : Go.Ab.aggO Tryz.prog 35 = some true := by kernel_rfl
@[go_sem] theorem Tryz.ty.by35 : Go.Ab.bytesOf Tryz.prog 35 = 16 := by kernel_rfl
@[go_sem] theorem Tryz.ty.eq35 : Go.Ab.EqInts Tryz.prog 35 2 := Go.Ab.eq_struct (by kernel_rfl) (by kernel_rfl) (by kernel_rfl) (by kernel_rfl)
@[go_sem] theorem Tryz.ty.ze35 : Go.Ab.zeroD Tryz.prog 35 = some [.int .i64 0, .int .i64 0] := by kernel_rfl
@[go_sem] theorem Tryz.ty.fo35_0 : Go.Ab.fieldOff Tryz.prog 35 0 = some (0, 3) := by kernel_rfl
@[go_sem] theorem Tryz.ty.fo35_1 : Go.Ab.fieldOff Tryz.prog 35 1 = some (1, 3) := by kernel_rfl
@[go_sem] theorem Tryz.ty.pl35 : Go.Ab.placeD Tryz.prog 35 = some fun i => ([(0, 1), (1, 1)] : List (Nat × Nat))[i]? := by kernel_rfl
@[go_sem] theorem Tryz.ty.sz37 : Go.Ab.szOf Tryz.prog 37 = 10 := by kernel_rfl
@[go_sem] theorem Tryz.ty.ag37 : Go.Ab.aggO Tryz.prog 37 = some true := by kernel_rfl
@[go_sem] theorem Tryz.ty.by37 : Go.Ab.bytesOf Tryz.prog 37 = 80 := by kernel_rfl
@[go_sem] theorem Tryz.ty.ze37 : Go.Ab.zeroD Tryz.prog 37 = some [.int .i64 0, .int .i64 0, .int .i64 0, .int .i64 0, .int .i64 0, .int .i64 0, .int .i64 0, .int .i64 0, .int .i64 0, .int .i64 0] := by kernel_rfl
@[go_sem] theorem Tryz.ty.fo37_0 : Go.Ab.fieldOff Tryz.prog 37 0 = some (0, 3) := by kernel_rfl
@[go_sem] theorem Tryz.ty.fo37_1 : Go.Ab.fieldOff Tryz.prog 37 1 = some (1, 3) := by kernel_rfl
@[go_sem] theorem Tryz.ty.fo37_2 : Go.Ab.fieldOff Tryz.prog 37 2 = some (2, 33) := by kernel_rfl
@[go_sem] theorem Tryz.ty.fo37_3 : Go.Ab.fieldOff Tryz.prog 37 3 = some (3, 3) := by kernel_rfl
@[go_sem] theorem Tryz.ty.fo37_4 : Go.Ab.fieldOff Tryz.prog 37 4 = some (4, 35) := by kernel_rfl
@[go_sem] theorem Tryz.ty.fo37_5 : Go.Ab.fieldOff Tryz.prog 37 5 = some (6, 35) := by kernel_rfl
@[go_sem] theorem Tryz.ty.fo37_6 : Go.Ab.fieldOff Tryz.prog 37 6 = some (8, 35) := by kernel_rfl
@[go_sem] theorem Tryz.ty.pl37 : Go.Ab.placeD Tryz.prog 37 = some fun i => ([(0, 1), (1, 1), (2, 1), (3, 1), (4, 2), (6, 2), (8, 2)] : List (Nat × Nat))[i]? := by kernel_rfl
@[go_sem] theorem Tryz.ty.sz38 : Go.Ab.szOf Tryz.prog 38 = 1 := by kernel_rfl
@[go_sem] theorem Tryz.ty.ag38 : Go.Ab.aggO Tryz.prog 38 = some false := by kernel_rfl
@[go_sem] theorem Tryz.ty.el38 : Go.Ab.elemOf Tryz.prog 38 = some 3 := by kernel_rfl
@[go_sem] theorem Tryz.ty.sz40 : Go.Ab.szOf Tryz.prog 40 = 4 := by kernel_rfl
@[go_sem] theorem Tryz.ty.ag40 : Go.Ab.aggO Tryz.prog 40 = some true := by kernel_rfl
@[go_sem] theorem Tryz.ty.ze40 : Go.Ab.zeroD Tryz.prog 40 = some [.int .i64 0, .int .i64 0, .val (.slice none 0 0), .val (.slice none 0 0)] := by kernel_rfl
@[go_sem] theorem Tryz.ty.fo40_0 : Go.Ab.fieldOff Tryz.prog 40 0 = some (0, 3) := by kernel_rfl
@[go_sem] theorem Tryz.ty.fo40_1 : Go.Ab.fieldOff Tryz.prog 40 1 = some (1, 3) := by kernel_rfl
@[go_sem] theorem Tryz.ty.fo40_2 : Go.Ab.fieldOff Tryz.prog 40 2 = some (2, 38) := by kernel_rfl
@[go_sem] theorem Tryz.ty.fo40_3 : Go.Ab.fieldOff Tryz.prog 40 3 = some (3, 38) := by kernel_rfl
@[go_sem] theorem Tryz.ty.pl40 : Go.Ab.placeD Tryz.prog 40 = some fun i => ([(0, 1), (1, 1), (2, 1), (3, 1)] : List (Nat × Nat))[i]? := by kernel_rfl
@[go_sem] theorem Tryz.ty.sz52 : Go.Ab.szOf Tryz.prog 52 = 6 := by kernel_rfl
@[go_sem] theorem Tryz.ty.ag52 : Go.Ab.aggO Tryz.prog 52 = some true := by kernel_rfl
@[go_sem] theorem Tryz.ty.ze52 : Go.Ab.zeroD Tryz.prog 52 = some [.int .i64 0, .int .i64 0, .int .i64 0, .int .i64 0, .int .i64 0, .int .i64 0] := by kernel_rfl
@[go_sem] theorem Tryz.ty.fo52_1 : Go.Ab.fieldOff Tryz.prog 52 1 = some (2, 35) := by kernel_rfl
@[go_sem] theorem Tryz.ty.pl52 : Go.Ab.placeD Tryz.prog 52 = some fun i => ([(0, 2), (2, 2), (4, 2)] : List (Nat × Nat))[i]? := by kernel_rfl
@[go_sem] theorem Tryz.ty.ag55 : Go.Ab.aggO Tryz.prog 55 = some false := by kernel_rfl
@[go_sem] theorem Tryz.ty.el55 : Go.Ab.elemOf Tryz.prog 55 = some 123 := by kernel_rfl
@[go_sem] theorem Tryz.ty.sz57 : Go.Ab.szOf Tryz.prog 57 = 9 := by kernel_rfl
@[go_sem] theorem Tryz.ty.ag57 : Go.Ab.aggO Tryz.prog 57 = some true := by kernel_rfl
@[go_sem] theorem Tryz.ty.ze57 : Go.Ab.zeroD Tryz.prog 57 = some [.int .i64 0, .int .i64 0, .int .i64 0, .int .i64 0, .int .i64 0, .int .i64 0, .int .i64 0, .int .i64 0, .val (.slice none 0 0)] := by kernel_rfl
@[go_sem] theorem Tryz.ty.fo57_0 : Go.Ab.fieldOff Tryz.prog 57 0 = some (0, 35) := by kernel_rfl
@[go_sem] theorem Tryz.ty.fo57_1 : Go.Ab.fieldOff Tryz.prog 57 1 = some (2, 35) := by kernel_rfl
@[go_sem] theorem Tryz.ty.fo57_2 : Go.Ab.fieldOff Tryz.prog 57 2 = some (4, 3) := by kernel_rfl
@[go_sem] theorem Tryz.ty.fo57_3 : Go.Ab.fieldOff Tryz.prog 57 3 = some (5, 3) := by kernel_rfl
@[go_sem] theorem Tryz.ty.fo57_4 : Go.Ab.fieldOff Tryz.prog 57 4 = some (6, 3) := by kernel_rfl
@[go_sem] theorem Tryz.ty.fo57_5 : Go.Ab.fieldOff Tryz.prog 57 5 = some (7, 3) := by kernel_rfl
@[go_sem] theorem Tryz.ty.fo57_6 : Go.Ab.fieldOff Tryz.prog 57 6 = some (8, 55) := by kernel_rfl
@[go_sem] theorem Tryz.ty.pl57 : Go.Ab.placeD Tryz.prog 57 = some fun i => ([(0, 2), (2, 2), (4, 1), (5, 1), (6, 1), (7, 1), (8, 1)] : List (Nat × Nat))[i]? := by kernel_rfl
@[go_sem] theorem Tryz.ty.sz62 : Go.Ab.szOf Tryz.prog 62 = 1 := by kernel_rfl
@[go_sem] theorem Tryz.ty.ag62 : Go.Ab.aggO Tryz.prog 62 = some false := by kernel_rfl
@[go_sem] theorem Tryz.ty.el62 : Go.Ab.elemOf Tryz.prog 62 = some 35 := by kernel_rfl
@[go_sem] theorem Tryz.ty.ze62 : Go.Ab.zeroD Tryz.prog 62 = some [.val (.slice none 0 0)] := by kernel_rfl
@[go_sem] theorem Tryz.ty.ag65 : Go.Ab.aggO Tryz.prog 65 = some false := by kernel_rfl
@[go_sem] theorem Tryz.ty.el65 : Go.Ab.elemOf Tryz.prog 65 = some 135 := by kernel_rfl
@[go_sem] theorem Tryz.ty.sz67 : Go.Ab.szOf Tryz.prog 67 = 4 := by kernel_rfl
@[go_sem] theorem Tryz.ty.ag67 : Go.Ab.aggO Tryz.prog 67 = some true := by kernel_rfl
@[go_sem] theorem Tryz.ty.ze67 : Go.Ab.zeroD Tryz.prog 67 = some [.int .i64 0, .int .i64 0, .int .i64 0, .val (.slice none 0 0)] := by kernel_rfl
@[go_sem] theorem Tryz.ty.fo67_0 : Go.Ab.fieldOff Tryz.prog 67 0 = some (0, 3) := by kernel_rfl
@[go_sem] theorem Tryz.ty.fo67_1 : Go.Ab.fieldOff Tryz.prog 67 1 = some (1, 3) := by kernel_rfl
@[go_sem] theorem Tryz.ty.fo67_2 : Go.Ab.fieldOff Tryz.prog 67 2 = some (2, 3) := by kernel_rfl
@[go_sem] theorem Tryz.ty.fo67_3 : Go.Ab.fieldOff Tryz.prog 67 3 = some (3, 65) := by kernel_rfl
@[go_sem] theorem Tryz.ty.pl67 : Go.Ab.placeD Tryz.prog 67 = some fun i => ([(0, 1), (1, 1), (2, 1), (3, 1)] : List (Nat × Nat))[i]? := by kernel_rfl
@[go_sem] theorem Tryz.ty.sz69 : Go.Ab.szOf Tryz.prog 69 = 1 := by kernel_rfl
@[go_sem] theorem Tryz.ty.ag69 : Go.Ab.aggO Tryz.prog 69 = some false := by kernel_rfl
@[go_sem] theorem Tryz.ty.el69 : Go.Ab.elemOf Tryz.prog 69 = some 144 := by kernel_rfl
@[go_sem] theorem Tryz.ty.ze69 : Go.Ab.zeroD Tryz.prog 69 = some [.val (.slice none 0 0)] := by kernel_rfl
@[go_sem] theorem Tryz.ty.ag72 : Go.Ab.aggO Tryz.prog 72 = some false := by kernel_rfl
@[go_sem] theorem Tryz.ty.el72 : Go.Ab.elemOf Tryz.prog 72 = some 150 := by kernel_rfl
@[go_sem] theorem Tryz.ty.ag73 : Go.Ab.aggO Tryz.prog 73 = some false := by kernel_rfl
@[go_sem] theorem Tryz.ty.el73 : Go.Ab.elemOf Tryz.prog 73 = some 146 := by kernel_rfl
@[go_sem] theorem Tryz.ty.ag74 : Go.Ab.aggO Tryz.prog 74 = some false := by kernel_rfl
@[go_sem] theorem Tryz.ty.el74 : Go.Ab.elemOf Tryz.prog 74 = some 148 := by kernel_rfl
@[go_sem] theorem Tryz.ty.sz76 : Go.Ab.szOf Tryz.prog 76 = 9 := by kernel_rfl
@[go_sem] theorem Tryz.ty.ag76 : Go.Ab.aggO Tryz.prog 76 = some true := by kernel_rfl
@[go_sem] theorem Tryz.ty.ze76 : Go.Ab.zeroD Tryz.prog 76 = some [.int .i64 0, .val (.slice none 0 0), .val (.slice none 0 0), .val (.slice none 0 0), .int .i64 0, .int .i64 0, .int .i64 0, .int .i64 0, .int .i64 0] := by kernel_rfl
@[go_sem] theorem Tryz.ty.fo76_0 : Go.Ab.fieldOff Tryz.prog 76 0 = some (0, 3) := by kernel_rfl
@[go_sem] theorem Tryz.ty.fo76_1 : Go.Ab.fieldOff Tryz.prog 76 1 = some (1, 72) := by kernel_rfl
@[go_sem] theorem Tryz.ty.fo76_2 : Go.Ab.fieldOff Tryz.prog 76 2 = some (2, 73) := by kernel_rfl
@[go_sem] theorem Tryz.ty.fo76_3 : Go.Ab.fieldOff Tryz.prog 76 3 = some (3, 74) := by kernel_rfl
@[go_sem] theorem Tryz.ty.fo76_4 : Go.Ab.fieldOff Tryz.prog 76 4 = some (4, 3) := by kernel_rfl
@[go_sem] theorem Tryz.ty.fo76_5 : Go.Ab.fieldOff Tryz.prog 76 5 = some (5, 3) := by kernel_rfl
@[go_sem] theorem Tryz.ty.fo76_6 : Go.Ab.fieldOff Tryz.prog 76 6 = some (6, 3) := by kernel_rfl
@[go_sem] theorem Tryz.ty.fo76_7 : Go.Ab.fieldOff Tryz.prog 76 7 = some (7, 3) := by kernel_rfl
@[go_sem] theorem Tryz.ty.fo76_8 : Go.Ab.fieldOff Tryz.prog 76 8 = some (8, 3) := by kernel_rfl
@[go_sem] theorem Tryz.ty.pl76 : Go.Ab.placeD Tryz.prog 76 = some fun i => ([(0, 1), (1, 1), (2, 1), (3, 1), (4, 1), (5, 1), (6, 1), (7, 1), (8, 1)] : List (Nat × Nat))[i]? := by kernel_rfl
@[go_sem] theorem Tryz.ty.ag81 : Go.Ab.aggO Tryz.prog 81 = some false := by kernel_rfl
@[go_sem] theorem Tryz.ty.el81 : Go.Ab.elemOf Tryz.prog 81 = some 163 := by kernel_rfl
@[go_sem] theorem Tryz.ty.ag82 : Go.Ab.aggO Tryz.prog 82 = some false := by kernel_rfl
@[go_sem] theorem Tryz.ty.el82 : Go.Ab.elemOf Tryz.prog 82 = some 62 := by kernel_rfl
@[go_sem] theorem Tryz.ty.sz84 : Go.Ab.szOf Tryz.prog 84 = 3 := by kernel_rfl
@[go_sem] theorem Tryz.ty.ag84 : Go.Ab.aggO Tryz.prog 84 = some true := by kernel_rfl
@[go_sem] theorem Tryz.ty.ze84 : Go.Ab.zeroD Tryz.prog 84 = some [.int .i64 0, .val (.slice none 0 0), .val (.slice none 0 0)] := by kernel_rfl
@[go_sem] theorem Tryz.ty.fo84_0 : Go.Ab.fieldOff Tryz.prog 84 0 = some (0, 3) := by kernel_rfl
@[go_sem] theorem Tryz.ty.fo84_1 : Go.Ab.fieldOff Tryz.prog 84 1 = some (1, 81) := by kernel_rfl
@[go_sem] theorem Tryz.ty.fo84_2 : Go.Ab.fieldOff Tryz.prog 84 2 = some (2, 82) := by kernel_rfl
@[go_sem] theorem Tryz.ty.pl84 : Go.Ab.placeD Tryz.prog 84 = some fun i => ([(0, 1), (1, 1), (2, 1)] : List (Nat × Nat))[i]? := by kernel_rfl
@[go_sem] theorem Tryz.ty.sz95 : Go.Ab.szOf Tryz.prog 95 = 7 := by kernel_rfl
@[go_sem] theorem Tryz.ty.ag95 : Go.Ab.aggO Tryz.prog 95 = some true := by kernel_rfl
@[go_sem] theorem Tryz.ty.ze95 : Go.Ab.zeroD Tryz.prog 95 = some [.int .i64 0, .int .i64 0, .val (.slice none 0 0), .val (.slice none 0 0), .int .i64 0, .int .i64 0, .int .i64 0] := by kernel_rfl
@[go_sem] theorem Tryz.ty.fo95_0 : Go.Ab.fieldOff Tryz.prog 95 0 = some (0, 40) := by kernel_rfl
@[go_sem] theorem Tryz.ty.fo95_1 : Go.Ab.fieldOff Tryz.prog 95 1 = some (4, 3) := by kernel_rfl
@[go_sem] theorem Tryz.ty.fo95_2 : Go.Ab.fieldOff Tryz.prog 95 2 = some (5, 3) := by kernel_rfl
@[go_sem] theorem Tryz.ty.fo95_3 : Go.Ab.fieldOff Tryz.prog 95 3 = some (6, 3) := by kernel_rfl
@[go_sem] theorem Tryz.ty.pl95 : Go.Ab.placeD Tryz.prog 95 = some fun i => ([(0, 4), (4, 1), (5, 1), (6, 1)] : List (Nat × Nat))[i]? := by kernel_rfl
@[go_sem] theorem Tryz.ty.sz98 : Go.Ab.szOf Tryz.prog 98 = 2 := by kernel_rfl
@[go_sem] theorem Tryz.ty.ag98 : Go.Ab.aggO Tryz.prog 98 = some true := by kernel_rfl
@[go_sem] theorem Tryz.ty.ze98 : Go.Ab.zeroD Tryz.prog 98 = some [.int .i64 0, .int .i64 0] := by kernel_rfl
@[go_sem] theorem Tryz.ty.fo98_0 : Go.Ab.fieldOff Tryz.prog 98 0 = some (0, 3) := by kernel_rfl
@[go_sem] theorem Tryz.ty.fo98_1 : Go.Ab.fieldOff Tryz.prog 98 1 = some (1, 3) := by kernel_rfl
@[go_sem] theorem Tryz.ty.pl98 : Go.Ab.placeD Tryz.prog 98 = some fun i => ([(0, 1), (1, 1)] : List (Nat × Nat))[i]? := by kernel_rfl
@[go_sem] theorem Tryz.ty.sz99 : Go.Ab.szOf Tryz.prog 99 = 2 := by kernel_rfl
@[go_sem] theorem Tryz.ty.el99 : Go.Ab.elemOf Tryz.prog 99 = none := by kernel_rfl
@[go_sem] theorem Tryz.ty.ar99 : Go.Ab.arrOf Tryz.prog 99 = some (2, 3) := by kernel_rfl
@[go_sem] theorem Tryz.ty.ze99 : Go.Ab.zeroD Tryz.prog 99 = some [.int .i64 0, .int .i64 0] := by kernel_rfl
@[go_sem] theorem Tryz.ty.pl99 : Go.Ab.placeD Tryz.prog 99 = some fun i => some (i * 1, 1) := by kernel_rfl
@[go_sem] theorem Tryz.ty.sz100 : Go.Ab.szOf Tryz.prog 100 = 1 := by kernel_rfl
@[go_sem] theorem Tryz.ty.ag100 : Go.Ab.aggO Tryz.prog 100 = some false := by kernel_rfl
@[go_sem] theorem Tryz.ty.ze100 : Go.Ab.zeroD Tryz.prog 100 = some [.val .nilFunc] := by kernel_rfl
@[go_sem] theorem Tryz.ty.sz101 : Go.Ab.szOf Tryz.prog 101 = 2 := by kernel_rfl
@[go_sem] theorem Tryz.ty.ag101 : Go.Ab.aggO Tryz.prog 101 = some true := by kernel_rfl
@[go_sem] theorem Tryz.ty.ar101 : Go.Ab.arrOf Tryz.prog 101 = some (2, 100) := by kernel_rfl
@[go_sem] theorem Tryz.ty.ze101 : Go.Ab.zeroD Tryz.prog 101 = some [.val .nilFunc, .val .nilFunc] := by kernel_rfl
@[go_sem] theorem Tryz.ty.pl101 : Go.Ab.placeD Tryz.prog 101 = some fun i => some (i * 1, 1) := by kernel_rfl
@[go_sem] theorem Tryz.ty.ag106 : Go.Ab.aggO Tryz.prog 106 = some false := by kernel_rfl
@[go_sem] theorem Tryz.ty.mp106 : Go.Ab.mapOf Tryz.prog 106 = some (3, 35) := by kernel_rfl
@[go_sem] theorem Tryz.ty.zv106_35 : Go.Ab.zeroV Tryz.prog 35 = some (.agg [.int .i64 0, .int .i64 0]) := by kernel_rfl
@[go_sem] theorem Tryz.ty.ky106 : Go.Ab.KeyOk Tryz.prog 3 false 1 := Go.Ab.key_int (by kernel_rfl)
@[go_sem] theorem Tryz.ty.sz108 : Go.Ab.szOf Tryz.prog 108 = 10 := by kernel_rfl
@[go_sem] theorem Tryz.ty.ag108 : Go.Ab.aggO Tryz.prog 108 = some true := by kernel_rfl
@[go_sem] theorem Tryz.ty.ze108 : Go.Ab.zeroD Tryz.prog 108 = some [.int .i64 0, .int .i64 0, .int .i64 0, .int .i64 0, .int .i64 0, .int .i64 0, .int .i64 0, .int .i64 0, .val (.slice none 0 0), .val (.map none)] := by kernel_rfl
@[go_sem] theorem Tryz.ty.fo108_0 : Go.Ab.fieldOff Tryz.prog 108 0 = some (0, 57) := by kernel_rfl
@[go_sem] theorem Tryz.ty.fo108_1 : Go.Ab.fieldOff Tryz.prog 108 1 = some (9, 106) := by kernel_rfl
@[go_sem] theorem Tryz.ty.pl108 : Go.Ab.placeD Tryz.prog 108 = some fun i => ([(0, 9), (9, 1)] : List (Nat × Nat))[i]? := by kernel_rfl
@[go_sem] theorem Tryz.ty.ag111 : Go.Ab.aggO Tryz.prog 111 = some false := by kernel_rfl
@[go_sem] theorem Tryz.ty.sz114 : Go.Ab.szOf Tryz.prog 114 = 7 := by kernel_rfl
@[go_sem] theorem Tryz.ty.ag114 : Go.Ab.aggO Tryz.prog 114 = some true := by kernel_rfl
@[go_sem] theorem Tryz.ty.ze114 : Go.Ab.zeroD Tryz.prog 114 = some [.int .i64 0, .int .i64 0, .int .i64 0, .int .i64 0, .int .i64 0, .int .i64 0, .int .i64 0] := by kernel_rfl
@[go_sem] theorem Tryz.ty.fo114_0 : Go.Ab.fieldOff Tryz.prog 114 0 = some (0, 3) := by kernel_rfl
@[go_sem] theorem Tryz.ty.fo114_1 : Go.Ab.fieldOff Tryz.prog 114 1 = some (1, 3) := by kernel_rfl
@[go_sem] theorem Tryz.ty.fo114_2 : Go.Ab.fieldOff Tryz.prog 114 2 = some (2, 3) := by kernel_rfl
@[go_sem] theorem Tryz.ty.fo114_3 : Go.Ab.fieldOff Tryz.prog 114 3 = some (3, 3) := by kernel_rfl
@[go_sem] theorem Tryz.ty.fo114_4 : Go.Ab.fieldOff Tryz.prog 114 4 = some (4, 3) := by kernel_rfl
@[go_sem] theorem Tryz.ty.fo114_5 : Go.Ab.fieldOff Tryz.prog 114 5 = some (5, 3) := by kernel_rfl
@[go_sem] theorem Tryz.ty.fo114_6 : Go.Ab.fieldOff Tryz.prog 114 6 = some (6, 3) := by kernel_rfl
@[go_sem] theorem Tryz.ty.pl114 : Go.Ab.placeD Tryz.prog 114 = some fun i => ([(0, 1), (1, 1), (2, 1), (3, 1), (4, 1), (5, 1), (6, 1)] : List (Nat × Nat))[i]? := by kernel_rfl
@[go_sem] theorem Tryz.ty.sz116 : Go.Ab.szOf Tryz.prog 116 = 3 := by kernel_rfl
@[go_sem] theorem Tryz.ty.ag116 : Go.Ab.aggO Tryz.prog 116 = some true := by kernel_rfl
@[go_sem] theorem Tryz.ty.ze116 : Go.Ab.zeroD Tryz.prog 116 = some [.int .i64 0, .int .i64 0, .int .i64 0] := by kernel_rfl
@[go_sem] theorem Tryz.ty.fo116_0 : Go.Ab.fieldOff Tryz.prog 116 0 = some (0, 3) := by kernel_rfl
@[go_sem] theorem Tryz.ty.fo116_1 : Go.Ab.fieldOff Tryz.prog 116 1 = some (1, 3) := by kernel_rfl
@[go_sem] theorem Tryz.ty.fo116_2 : Go.Ab.fieldOff Tryz.prog 116 2 = some (2, 3) := by kernel_rfl
@[go_sem] theorem Tryz.ty.pl116 : Go.Ab.placeD Tryz.prog 116 = some fun i => ([(0, 1), (1, 1), (2, 1)] : List (Nat × Nat))[i]? := by kernel_rfl
@[go_sem] theorem Tryz.ty.sz123 : Go.Ab.szOf Tryz.prog 123 = 3 := by kernel_rfl
@[go_sem] theorem Tryz.ty.ag123 : Go.Ab.aggO Tryz.prog 123 = some true := by kernel_rfl
@[go_sem] theorem Tryz.ty.ze123 : Go.Ab.zeroD Tryz.prog 123 = some [.int .i64 0, .int .i64 0, .int .i64 0] := by kernel_rfl
@[go_sem] theorem Tryz.ty.fo123_0 : Go.Ab.fieldOff Tryz.prog 123 0 = some (0, 3) := by kernel_rfl
@[go_sem] theorem Tryz.ty.fo123_1 : Go.Ab.fieldOff Tryz.prog 123 1 = some (1, 35) := by kernel_rfl
@[go_sem] theorem Tryz.ty.pl123 : Go.Ab.placeD Tryz.prog 123 = some fun i => ([(0, 1), (1, 2)] : List (Nat × Nat))[i]? := by kernel_rfl
@[go_sem] theorem Tryz.ty.sz126 : Go.Ab.szOf Tryz.prog 126 = 2 := by kernel_rfl
@[go_sem] theorem Tryz.ty.ag126 : Go.Ab.aggO Tryz.prog 126 = some true := by kernel_rfl
@[go_sem] theorem Tryz.ty.ze126 : Go.Ab.zeroD Tryz.prog 126 = some [.int .i64 0, .int .i64 0] := by kernel_rfl
@[go_sem] theorem Tryz.ty.fo126_0 : Go.Ab.fieldOff Tryz.prog 126 0 = some (0, 3) := by kernel_rfl
@[go_sem] theorem Tryz.ty.pl126 : Go.Ab.placeD Tryz.prog 126 = some fun i => ([(0, 1), (1, 1)] : List (Nat × Nat))[i]? := by kernel_rfl
@[go_sem] theorem Tryz.ty.sz128 : Go.Ab.szOf Tryz.prog 128 = 6 := by kernel_rfl
@[go_sem] theorem Tryz.ty.ag128 : Go.Ab.aggO Tryz.prog 128 = some true := by kernel_rfl
@[go_sem] theorem Tryz.ty.ze128 : Go.Ab.zeroD Tryz.prog 128 = some [.int .i64 0, .int .i64 0, .int .i64 0, .val (.slice none 0 0), .int .i64 0, .int .i64 0] := by kernel_rfl
@[go_sem] theorem Tryz.ty.fo128_0 : Go.Ab.fieldOff Tryz.prog 128 0 = some (0, 67) := by kernel_rfl
@[go_sem] theorem Tryz.ty.fo128_1 : Go.Ab.fieldOff Tryz.prog 128 1 = some (4, 126) := by kernel_rfl
@[go_sem] theorem Tryz.ty.pl128 : Go.Ab.placeD Tryz.prog 128 = some fun i => ([(0, 4), (4, 2)] : List (Nat × Nat))[i]? := by kernel_rfl
@[go_sem] theorem Tryz.ty.sz132 : Go.Ab.szOf Tryz.prog 132 = 2 := by kernel_rfl
@[go_sem] theorem Tryz.ty.ag132 : Go.Ab.aggO Tryz.prog 132 = some true := by kernel_rfl
@[go_sem] theorem Tryz.ty.el132 : Go.Ab.elemOf Tryz.prog 132 = none := by kernel_rfl
@[go_sem] theorem Tryz.ty.ar132 : Go.Ab.arrOf Tryz.prog 132 = some (2, 38) := by kernel_rfl
@[go_sem] theorem Tryz.ty.ze132 : Go.Ab.zeroD Tryz.prog 132 = some [.val (.slice none 0 0), .val (.slice none 0 0)] := by kernel_rfl
@[go_sem] theorem Tryz.ty.sz135 : Go.Ab.szOf Tryz.prog 135 = 3 := by kernel_rfl
@[go_sem] theorem Tryz.ty.ag135 : Go.Ab.aggO Tryz.prog 135 = some true := by kernel_rfl
@[go_sem] theorem Tryz.ty.ze135 : Go.Ab.zeroD Tryz.prog 135 = some [.int .i64 0, .int .i64 0, .int .i64 0] := by kernel_rfl
@[go_sem] theorem Tryz.ty.fo135_0 : Go.Ab.fieldOff Tryz.prog 135 0 = some (0, 3) := by kernel_rfl
@[go_sem] theorem Tryz.ty.fo135_1 : Go.Ab.fieldOff Tryz.prog 135 1 = some (1, 35) := by kernel_rfl
@[go_sem] theorem Tryz.ty.pl135 : Go.Ab.placeD Tryz.prog 135 = some fun i => ([(0, 1), (1, 2)] : List (Nat × Nat))[i]? := by kernel_rfl
@[go_sem] theorem Tryz.ty.ag139 : Go.Ab.aggO Tryz.prog 139 = some false := by kernel_rfl
@[go_sem] theorem Tryz.ty.mp139 : Go.Ab.mapOf Tryz.prog 139 = some (144, 4) := by kernel_rfl
@[go_sem] theorem Tryz.ty.zv139_4 : Go.Ab.zeroV Tryz.prog 4 = some (.bool false) := by kernel_rfl
@[go_sem] theorem Tryz.ty.sz141 : Go.Ab.szOf Tryz.prog 141 = 10 := by kernel_rfl
@[go_sem] theorem Tryz.ty.ag141 : Go.Ab.aggO Tryz.prog 141 = some true := by kernel_rfl
@[go_sem] theorem Tryz.ty.ze141 : Go.Ab.zeroD Tryz.prog 141 = some [.int .i64 0, .val (.slice none 0 0), .val (.slice none 0 0), .val (.slice none 0 0), .int .i64 0, .int .i64 0, .int .i64 0, .int .i64 0, .int .i64 0, .val (.map none)] := by kernel_rfl
@[go_sem] theorem Tryz.ty.fo141_0 : Go.Ab.fieldOff Tryz.prog 141 0 = some (0, 76) := by kernel_rfl
@[go_sem] theorem Tryz.ty.fo141_1 : Go.Ab.fieldOff Tryz.prog 141 1 = some (9, 139) := by kernel_rfl
@[go_sem] theorem Tryz.ty.pl141 : Go.Ab.placeD Tryz.prog 141 = some fun i => ([(0, 9), (9, 1)] : List (Nat × Nat))[i]? := by kernel_rfl
@[go_sem] theorem Tryz.ty.sz144 : Go.Ab.szOf Tryz.prog 144 = 2 := by kernel_rfl
@[go_sem] theorem Tryz.ty.ag144 : Go.Ab.aggO Tryz.prog 144 = some true := by kernel_rfl
@[go_sem] theorem Tryz.ty.by144 : Go.Ab.bytesOf Tryz.prog 144 = 16 := by kernel_rfl
@[go_sem] theorem Tryz.ty.ze144 : Go.Ab.zeroD Tryz.prog 144 = some [.int .i64 0, .int .i64 0] := by kernel_rfl
@[go_sem] theorem Tryz.ty.pl144 : Go.Ab.placeD Tryz.prog 144 = some fun i => ([(0, 1), (1, 1)] : List (Nat × Nat))[i]? := by kernel_rfl
@[go_sem] theorem Tryz.ty.sz146 : Go.Ab.szOf Tryz.prog 146 = 3 := by kernel_rfl
@[go_sem] theorem Tryz.ty.ag146 : Go.Ab.aggO Tryz.prog 146 = some true := by kernel_rfl
@[go_sem] theorem Tryz.ty.ze146 : Go.Ab.zeroD Tryz.prog 146 = some [.int .i64 0, .int .i64 0, .int .i64 0] := by kernel_rfl
@[go_sem] theorem Tryz.ty.fo146_0 : Go.Ab.fieldOff Tryz.prog 146 0 = some (0, 3) := by kernel_rfl
@[go_sem] theorem Tryz.ty.fo146_1 : Go.Ab.fieldOff Tryz.prog 146 1 = some (1, 3) := by kernel_rfl
@[go_sem] theorem Tryz.ty.fo146_2 : Go.Ab.fieldOff Tryz.prog 146 2 = some (2, 3) := by kernel_rfl
@[go_sem] theorem Tryz.ty.pl146 : Go.Ab.placeD Tryz.prog 146 = some fun i => ([(0, 1), (1, 1), (2, 1)] : List (Nat × Nat))[i]? := by kernel_rfl
@[go_sem] theorem Tryz.ty.sz148 : Go.Ab.szOf Tryz.prog 148 = 4 := by kernel_rfl
@[go_sem] theorem Tryz.ty.ag148 : Go.Ab.aggO Tryz.prog 148 = some true := by kernel_rfl
@[go_sem] theorem Tryz.ty.ze148 : Go.Ab.zeroD Tryz.prog 148 = some [.int .i64 0, .int .i64 0, .int .i64 0, .int .i64 0] := by kernel_rfl
@[go_sem] theorem Tryz.ty.fo148_0 : Go.Ab.fieldOff Tryz.prog 148 0 = some (0, 35) := by kernel_rfl
@[go_sem] theorem Tryz.ty.fo148_1 : Go.Ab.fieldOff Tryz.prog 148 1 = some (2, 3) := by kernel_rfl
@[go_sem] theorem Tryz.ty.fo148_2 : Go.Ab.fieldOff Tryz.prog 148 2 = some (3, 3) := by kernel_rfl
@[go_sem] theorem Tryz.ty.pl148 : Go.Ab.placeD Tryz.prog 148 = some fun i => ([(0, 2), (2, 1), (3, 1)] : List (Nat × Nat))[i]? := by kernel_rfl
@[go_sem] theorem Tryz.ty.sz150 : Go.Ab.szOf Tryz.prog 150 = 7 := by kernel_rfl
@[go_sem] theorem Tryz.ty.ag150 : Go.Ab.aggO Tryz.prog 150 = some true := by kernel_rfl
@[go_sem] theorem Tryz.ty.ze150 : Go.Ab.zeroD Tryz.prog 150 = some [.int .i64 0, .int .i64 0, .int .i64 0, .int .i64 0, .int .i64 0, .int .i64 0, .int .i64 0] := by kernel_rfl
@[go_sem] theorem Tryz.ty.fo150_0 : Go.Ab.fieldOff Tryz.prog 150 0 = some (0, 3) := by kernel_rfl
@[go_sem] theorem Tryz.ty.fo150_1 : Go.Ab.fieldOff Tryz.prog 150 1 = some (1, 3) := by kernel_rfl
@[go_sem] theorem Tryz.ty.fo150_2 : Go.Ab.fieldOff Tryz.prog 150 2 = some (2, 3) := by kernel_rfl
@[go_sem] theorem Tryz.ty.fo150_3 : Go.Ab.fieldOff Tryz.prog 150 3 = some (3, 35) := by kernel_rfl
@[go_sem] theorem Tryz.ty.fo150_4 : Go.Ab.fieldOff Tryz.prog 150 4 = some (5, 3) := by kernel_rfl
@[go_sem] theorem Tryz.ty.fo150_5 : Go.Ab.fieldOff Tryz.prog 150 5 = some (6, 3) := by kernel_rfl
@[go_sem] theorem Tryz.ty.pl150 : Go.Ab.placeD Tryz.prog 150 = some fun i => ([(0, 1), (1, 1), (2, 1), (3, 2), (5, 1), (6, 1)] : List (Nat × Nat))[i]? := by kernel_rfl
@[go_sem] theorem Tryz.ty.sz152 : Go.Ab.szOf Tryz.prog 152 = 1 := by kernel_rfl
@[go_sem] theorem Tryz.ty.ag152 : Go.Ab.aggO Tryz.prog 152 = some false := by kernel_rfl
@[go_sem] theorem Tryz.ty.el152 : Go.Ab.elemOf Tryz.prog 152 = some 158 := by kernel_rfl
@[go_sem] theorem Tryz.ty.ze152 : Go.Ab.zeroD Tryz.prog 152 = some [.val (.slice none 0 0)] := by kernel_rfl
@[go_sem] theorem Tryz.ty.sz153 : Go.Ab.szOf Tryz.prog 153 = 1 := by kernel_rfl
@[go_sem] theorem Tryz.ty.ag153 : Go.Ab.aggO Tryz.prog 153 = some false := by kernel_rfl
@[go_sem] theorem Tryz.ty.ze153 : Go.Ab.zeroD Tryz.prog 153 = some [.val .nilFunc] := by kernel_rfl
@[go_sem] theorem Tryz.ty.sz158 : Go.Ab.szOf Tryz.prog 158 = 2 := by kernel_rfl
@[go_sem] theorem Tryz.ty.ag158 : Go.Ab.aggO Tryz.prog 158 = some true := by kernel_rfl
@[go_sem] theorem Tryz.ty.by158 : Go.Ab.bytesOf Tryz.prog 158 = 32 := by kernel_rfl
@[go_sem] theorem Tryz.ty.ze158 : Go.Ab.zeroD Tryz.prog 158 = some [.val (.slice none 0 0), .int .i64 0] := by kernel_rfl
@[go_sem] theorem Tryz.ty.fo158_0 : Go.Ab.fieldOff Tryz.prog 158 0 = some (0, 38) := by kernel_rfl
@[go_sem] theorem Tryz.ty.fo158_1 : Go.Ab.fieldOff Tryz.prog 158 1 = some (1, 3) := by kernel_rfl
@[go_sem] theorem Tryz.ty.pl158 : Go.Ab.placeD Tryz.prog 158 = some fun i => ([(0, 1), (1, 1)] : List (Nat × Nat))[i]? := by kernel_rfl
@[go_sem] theorem Tryz.ty.sz163 : Go.Ab.szOf Tryz.prog 163 = 2 := by kernel_rfl
@[go_sem] theorem Tryz.ty.ag163 : Go.Ab.aggO Tryz.prog 163 = some true := by kernel_rfl
@[go_sem] theorem Tryz.ty.ze163 : Go.Ab.zeroD Tryz.prog 163 = some [.int .i64 0, .int .i64 0] := by kernel_rfl
@[go_sem] theorem Tryz.ty.fo163_0 : Go.Ab.fieldOff Tryz.prog 163 0 = some (0, 3) := by kernel_rfl
@[go_sem] theorem Tryz.ty.fo163_1 : Go.Ab.fieldOff Tryz.prog 163 1 = some (1, 3) := by kernel_rfl
@[go_sem] theorem Tryz.ty.pl163 : Go.Ab.placeD Tryz.prog 163 = some fun i => ([(0, 1), (1, 1)] : List (Nat × Nat))[i]? := by kernel_rfl
@[go_sem] theorem Tryz.ty.el166 : Go.Ab.elemOf Tryz.prog 166 = some 9 := by kernel_rfl
@[go_sem] theorem Tryz.ty.ar167 : Go.Ab.arrOf Tryz.prog 167 = some (7, 3) := by kernel_rfl
@[go_sem] theorem Tryz.ty.ze167 : Go.Ab.zeroD Tryz.prog 167 = some [.int .i64 0, .int .i64 0, .int .i64 0, .int .i64 0, .int .i64 0, .int .i64 0, .int .i64 0] := by kernel_rfl
@[go_sem] theorem Tryz.ty.pl167 : Go.Ab.placeD Tryz.prog 167 = some fun i => some (i * 1, 1) := by kernel_rfl
@[go_sem] theorem Tryz.ty.el174 : Go.Ab.elemOf Tryz.prog 174 = none := by kernel_rfl
@[go_sem] theorem Tryz.ty.ar174 : Go.Ab.arrOf Tryz.prog 174 = some (10, 3) := by kernel_rfl
@[go_sem] theorem Tryz.ty.ze174 : Go.Ab.zeroD Tryz.prog 174 = some [.int .i64 0, .int .i64 0, .int .i64 0, .int .i64 0, .int .i64 0, .int .i64 0, .int .i64 0, .int .i64 0, .int .i64 0, .int .i64 0] := by kernel_rfl
@[go_sem] theorem Tryz.ty.sz184 : Go.Ab.szOf Tryz.prog 184 = 8 := by kernel_rfl
@[go_sem] theorem Tryz.ty.ag184 : Go.Ab.aggO Tryz.prog 184 = some true := by kernel_rfl
@[go_sem] theorem Tryz.ty.ze184 : Go.Ab.zeroD Tryz.prog 184 = some [.int .i64 0, .int .i64 0, .int .i64 0, .int .i64 0, .int .i64 0, .int .i64 0, .int .i64 0, .int .i64 0] := by kernel_rfl
@[go_sem] theorem Tryz.ty.fo184_0 : Go.Ab.fieldOff Tryz.prog 184 0 = some (0, 114) := by kernel_rfl
@[go_sem] theorem Tryz.ty.fo184_1 : Go.Ab.fieldOff Tryz.prog 184 1 = some (7, 3) := by kernel_rfl
@[go_sem] theorem Tryz.ty.pl184 : Go.Ab.placeD Tryz.prog 184 = some fun i => ([(0, 7), (7, 1)] : List (Nat × Nat))[i]? := by kernel_rfl
@[go_sem] theorem Tryz.ty.sz204 : Go.Ab.szOf Tryz.prog 204 = 1 := by kernel_rfl
@[go_sem] theorem Tryz.ty.ze204 : Go.Ab.zeroD Tryz.prog 204 = some [.int .i64 0] := by kernel_rfl
@[go_sem] theorem Tryz.ty.pl204 : Go.Ab.placeD Tryz.prog 204 = some fun i => ([(0, 1)] : List (Nat × Nat))[i]? := by kernel_rfl
@[go_sem] theorem Tryz.ty.sz214 : Go.Ab.szOf Tryz.prog 214 = 1 := by kernel_rfl
@[go_sem] theorem Tryz.ty.ag214 : Go.Ab.aggO Tryz.prog 214 = some false := by kernel_rfl
@[go_sem] theorem Tryz.ty.mp214 : Go.Ab.mapOf Tryz.prog 214 = some (217, 3) := by kernel_rfl
@[go_sem] theorem Tryz.ty.zv214_3 : Go.Ab.zeroV Tryz.prog 3 = some (.int .i64 0) := by kernel_rfl
@[go_sem] theorem Tryz.ty.ze214 : Go.Ab.zeroD Tryz.prog 214 = some [.val (.map none)] := by kernel_rfl
@[go_sem] theorem Tryz.ty.sz215 : Go.Ab.szOf Tryz.prog 215 = 1 := by kernel_rfl
@[go_sem] theorem Tryz.ty.ag215 : Go.Ab.aggO Tryz.prog 215 = some false := by kernel_rfl
@[go_sem] theorem Tryz.ty.ze215 : Go.Ab.zeroD Tryz.prog 215 = some [.val .nilFunc] := by kernel_rfl
@[go_sem] theorem Tryz.ty.sz217 : Go.Ab.szOf Tryz.prog 217 = 2 := by kernel_rfl
@[go_sem] theorem Tryz.ty.ag217 : Go.Ab.aggO Tryz.prog 217 = some true := by kernel_rfl
@[go_sem] theorem Tryz.ty.ze217 : Go.Ab.zeroD Tryz.prog 217 = some [.int .i64 0, .int .i64 0] := by kernel_rfl
@[go_sem] theorem Tryz.ty.fo217_0 : Go.Ab.fieldOff Tryz.prog 217 0 = some (0, 3) := by kernel_rfl
@[go_sem] theorem Tryz.ty.fo217_1 : Go.Ab.fieldOff Tryz.prog 217 1 = some (1, 3) := by kernel_rfl
@[go_sem] theorem Tryz.ty.pl217 : Go.Ab.placeD Tryz.prog 217 = some fun i => ([(0, 1), (1, 1)] : List (Nat × Nat))[i]? := by kernel_rfl
@[go_sem] theorem Tryz.ty.ar220 : Go.Ab.arrOf Tryz.prog 220 = some (3, 100) := by kernel_rfl
@[go_sem] theorem Tryz.ty.ze220 : Go.Ab.zeroD Tryz.prog 220 = some [.val .nilFunc, .val .nilFunc, .val .nilFunc] := by kernel_rfl
@[go_sem] theorem Tryz.ty.pl220 : Go.Ab.placeD Tryz.prog 220 = some fun i => some (i * 1, 1) := by kernel_rfl
@[go_sem] theorem Tryz.ty.sz246 : Go.Ab.szOf Tryz.prog 246 = 17 := by kernel_rfl
@[go_sem] theorem Tryz.ty.ag246 : Go.Ab.aggO Tryz.prog 246 = some true := by kernel_rfl
@[go_sem] theorem Tryz.ty.el246 : Go.Ab.elemOf Tryz.prog 246 = none := by kernel_rfl
@[go_sem] theorem Tryz.ty.ar246 : Go.Ab.arrOf Tryz.prog 246 = some (17, 3) := by kernel_rfl
@[go_sem] theorem Tryz.ty.ze246 : Go.Ab.zeroD Tryz.prog 246 = some [.int .i64 0, .int .i64 0, .int .i64 0, .int .i64 0, .int .i64 0, .int .i64 0, .int .i64 0, .int .i64 0, .int .i64 0, .int .i64 0, .int .i64 0, .int .i64 0, .int .i64 0, .int .i64 0, .int .i64 0, .int .i64 0, .int .i64 0] := by kernel_rfl
@[go_sem] theorem Tryz.ty.pl246 : Go.Ab.placeD Tryz.prog 246 = some fun i => some (i * 1, 1) := by kernel_rfl
theorem Tryz.ty.mixed : Tryz.prog.follows .mixedOrders = true := by kernel_rfl
end Go.Proofs.YtmnepfejoneghaaGreatDoor
namespace Go.Ab
/-- Slots that are written out. -/
def slots (l : List (Nat × D)) : Nat → D := l.foldr (fun p f => put f p.1 p.2) none'
@[go_sem] theorem slots_nil : slots [] = none' := rfl
@[go_sem] theorem slots_cons {n : Nat} {d : D} {l : List (Nat × D)} : slots ((n, d) :: l) = put (slots l) n d := rfl
theorem slots_names {l : List (Nat × D)} {nb : Nat} (h : (l.all fun p => namesB nb 0 p.2) = true) : ∀ m, Names nb 0 (slots l m) := by
  intro m
  have := (named_of (n := 0) (l := l) (bx := List.replicate nb .dead) (rw := []) (by simpa using h) (by
    clear h
    induction nb with
    | zero => rfl
    | succ n ih =>
      have key : ∀ (k a b : Nat), namesBx a b (List.replicate k .dead) = true := by
        intro k; induction k with
        | zero => intros; rfl
        | succ k ih => intro a b; exact ih a b
      exact key _ _ _)).1 m
  simpa [mkSt, slots] using this
theorem le_slots {s : St} {n : Nat} {l : List (Nat × D)} {bx : List Bx} {rw : List Row} (hn : s.n = n) (hl : ∀ p ∈ l, s.sl p.1 = p.2) (hb : ∃ t, s.bx = bx ++ t) (hr : ∃ t, s.rw = rw ++ t) :
    Le s ⟨n, slots l, bx, rw⟩ := le_of hn hl hb hr
theorem le_none {s : St} {n : Nat} {bx : List Bx} {rw : List Row} (hn : s.n = n) (hb : s.bx = bx) (hr : s.rw = rw) : Le s ⟨n, none', bx, rw⟩ := ⟨hn.symm, fun _ => .inl rfl, ⟨[], by simp [hb]⟩, ⟨[], by simp [hr]⟩⟩
end Go.Ab
namespace Go.Proofs.YtmnepfejoneghaaGreatDoor
open Go.Ab
abbrev ints (xs : List Int) : D := .list (xs.map (D.int .i64))
abbrev i64 (n : Int) : D := .int .i64 n
theorem boolD {b c : Bool} (h : b = true ↔ c = true) : D.bool b = D.bool c := by rw [Bool.eq_iff_iff.2 h]
/-- Data that names nothing of a frame's. -/
def Cl (cs : List D) : Prop := (∀ bx rw, pureL bx rw cs = some cs) ∧ ∀ bx rw, pureDs bx rw cs = some cs
theorem pureZ_names {d d' : D} (h : pureZ [] [] d = some d') (nb nr : Nat) : namesB nb nr d = true := by
  cases d <;> first | rfl | (simp [pureZ] at h; done)
theorem pureLZ_names (nb nr : Nat) : ∀ (l l' : List D), pureLZ [] [] l = some l' → namesL nb nr l = true := by
  intro l
  induction l with
  | nil => intros; rfl
  | cons d l ih =>
    intro l' hl
    simp only [pureLZ] at hl
    split at hl
    · rename_i d' hd
      simp only [Option.map_eq_some_iff] at hl
      obtain ⟨l2, hl2, _⟩ := hl
      simp only [namesL, Bool.and_eq_true]
      exact ⟨pureZ_names hd nb nr, ih l2 hl2⟩
    · cases hl
theorem pureM_names {d d' : D} (h : pureM [] [] d = some d') (nb nr : Nat) : namesB nb nr d = true := by
  unfold pureM at h
  split at h
  · simp only [Option.map_eq_some_iff] at h
    obtain ⟨l, hl, _⟩ := h
    simp only [namesB]
    exact pureLZ_names nb nr _ _ hl
  · exact pureZ_names h nb nr
theorem pureLM_names (nb nr : Nat) : ∀ (l l' : List D), pureLM [] [] l = some l' → namesL nb nr l = true := by
  intro l
  induction l with
  | nil => intros; rfl
  | cons d l ih =>
    intro l' hl
    simp only [pureLM] at hl
    split at hl
    · rename_i d' hd
      simp only [Option.map_eq_some_iff] at hl
      obtain ⟨l2, hl2, _⟩ := hl
      simp only [namesL, Bool.and_eq_true]
      exact ⟨pureM_names hd nb nr, ih l2 hl2⟩
    · cases hl
theorem pureA_names {d d' : D} (h : pureA [] [] d = some d') (nb nr : Nat) : namesB nb nr d = true := by
  unfold pureA at h
  split at h
  · simp only [Option.map_eq_some_iff] at h
    obtain ⟨l, hl, _⟩ := h
    simp only [namesB]
    exact pureLM_names nb nr _ _ hl
  · simp only [Option.map_eq_some_iff] at h
    obtain ⟨l, hl, _⟩ := h
    simp only [namesB]
    exact pureLZ_names nb nr _ _ hl
  · exact pureZ_names h nb nr
theorem Cl.names {cs : List D} (h : Cl cs) (nb nr : Nat) : namesL nb nr cs = true := by
  have key : ∀ (l l' : List D), pureL [] [] l = some l' → namesL nb nr l = true := by
    intro l
    induction l with
    | nil => intros; rfl
    | cons d l ih =>
      intro l' hl
      simp only [pureL] at hl
      split at hl
      · rename_i d' hd
        simp only [Option.map_eq_some_iff] at hl
        obtain ⟨l2, hl2, _⟩ := hl
        simp only [namesL, Bool.and_eq_true]
        exact ⟨pureA_names hd nb nr, ih l2 hl2⟩
      · cases hl
  exact key cs cs (h.1 [] [])
/-- A comparison. -/
structure Ck where
  day : Int
  lo : Int
  hi : Int
  deriving Inhabited, DecidableEq
/-- A station. -/
structure Stn where
  hl : Int
  hh : Int
  gl : Int
  gh : Int
  dr : Int
  rd : Int
  ea : Int
  sl : Int
  ck : List Ck
  deriving Inhabited, DecidableEq
/-- A reading. -/
structure Rdg where
  day : Int
  min : Int
  clk : Int
  mer : Int
  al : Int
  ah : Int
  dl : Int
  dh : Int
  wl : Int
  wh : Int
  deriving Inhabited, DecidableEq
/-- A truth. -/
structure Tru where
  ix : Int
  er : Int
  gr : Int
  ht : Int
  at_ : Int
  dy : Int
  wt : Int
  deriving Inhabited, DecidableEq
abbrev spD (a b : Int) : D := .agg [i64 a, i64 b]
abbrev ckD (c : Ck) : D := .agg [i64 c.day, i64 c.lo, i64 c.hi]
abbrev stC (s : Stn) : List D := [i64 s.hl, i64 s.hh, i64 s.gl, i64 s.gh, i64 s.dr, i64 s.rd, i64 s.ea, i64 s.sl, .list (s.ck.map ckD)]
abbrev stD (s : Stn) : D := .agg [i64 s.hl, i64 s.hh, i64 s.gl, i64 s.gh, i64 s.dr, i64 s.rd, i64 s.ea, i64 s.sl, .list (s.ck.map ckD)]
abbrev rdD (r : Rdg) : D := .agg [i64 r.day, i64 r.min, i64 r.clk, i64 r.mer, i64 r.al, i64 r.ah, i64 r.dl, i64 r.dh, i64 r.wl, i64 r.wh]
abbrev trD (t : Tru) : D := .agg [i64 t.ix, i64 t.er, i64 t.gr, i64 t.ht, i64 t.at_, i64 t.dy, i64 t.wt]
def In (x lo hi : Int) : Prop := lo ≤ x ∧ x ≤ hi
instance (x lo hi : Int) : Decidable (In x lo hi) := by unfold In; infer_instance
def Spn (a b lo hi : Int) : Prop := lo ≤ a ∧ a ≤ b ∧ b ≤ hi
instance (a b lo hi : Int) : Decidable (Spn a b lo hi) := by unfold Spn; infer_instance
def CkOk (c : Ck) : Prop := (0 ≤ c.day ∧ c.day ≤ 400) ∧ Spn c.lo c.hi (-2000) 2000
instance (c : Ck) : Decidable (CkOk c) := by unfold CkOk; infer_instance
structure StOk (s : Stn) : Prop where
  h : Spn s.hl s.hh 0 3000
  g : Spn s.gl s.gh (-3000) 3000
  d : 0 ≤ s.dr ∧ s.dr ≤ 100
  r : 0 ≤ s.rd ∧ s.rd ≤ 200
  e : -720 ≤ s.ea ∧ s.ea ≤ 720
  sl : 0 ≤ s.sl ∧ s.sl ≤ 60
  n : s.ck.length ≤ 12
  c : ∀ i, i < s.ck.length → CkOk (nth s.ck i)
structure RdOk (r : Rdg) : Prop where
  d : 0 ≤ r.day ∧ r.day ≤ 400
  m : 0 ≤ r.min ∧ r.min ≤ 1439
  c : 1 ≤ r.clk ∧ r.clk ≤ 3
  q : 40000 ≤ r.mer ∧ r.mer ≤ 90000
  a : Spn r.al r.ah (-300) 500
  y : Spn r.dl r.dh (-300) 500
  w : Spn r.wl r.wh (-300) 500
theorem stOk_iff (s : Stn) : StOk s ↔ (Spn s.hl s.hh 0 3000 ∧ Spn s.gl s.gh (-3000) 3000 ∧ (0 ≤ s.dr ∧ s.dr ≤ 100) ∧ (0 ≤ s.rd ∧ s.rd ≤ 200) ∧ (-720 ≤ s.ea ∧ s.ea ≤ 720) ∧ (0 ≤ s.sl ∧ s.sl ≤ 60) ∧ s.ck.length ≤ 12 ∧ ∀ i, i < s.ck.length → CkOk (nth s.ck i)) :=
  ⟨fun h => ⟨h.h, h.g, h.d, h.r, h.e, h.sl, h.n, h.c⟩, fun ⟨a, b, c, d, e, f, g, i⟩ => ⟨a, b, c, d, e, f, g, i⟩⟩
instance (s : Stn) : Decidable (StOk s) := decidable_of_iff _ (stOk_iff s).symm
theorem rdOk_iff (r : Rdg) : RdOk r ↔ ((0 ≤ r.day ∧ r.day ≤ 400) ∧ (0 ≤ r.min ∧ r.min ≤ 1439) ∧ (1 ≤ r.clk ∧ r.clk ≤ 3) ∧ (40000 ≤ r.mer ∧ r.mer ≤ 90000) ∧ Spn r.al r.ah (-300) 500 ∧ Spn r.dl r.dh (-300) 500 ∧ Spn r.wl r.wh (-300) 500) :=
  ⟨fun h => ⟨h.d, h.m, h.c, h.q, h.a, h.y, h.w⟩, fun ⟨a, b, c, d, e, f, g⟩ => ⟨a, b, c, d, e, f, g⟩⟩
instance (r : Rdg) : Decidable (RdOk r) := decidable_of_iff _ (rdOk_iff r).symm
end Go.Proofs.YtmnepfejoneghaaGreatDoor
