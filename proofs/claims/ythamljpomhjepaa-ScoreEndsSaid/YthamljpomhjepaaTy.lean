/- What the plain layer asks of the types of this translation. Printed by a program. -/
import Derived.Test.YthamljpomhjepaaAbI
import Derived.Test.YthamljpomhjepaaRows
namespace Go.Proofs.Ythamljpomhjepaa
open Go.Ab
@[go_sem] theorem Try.ty.sz1 : Go.Ab.szOf Try.prog 1 = 1 := by kernel_rfl
@[go_sem] theorem Try.ty.ag1 : Go.Ab.aggO Try.prog 1 = some false := by kernel_rfl
@[go_sem] theorem Try.ty.ze1 : Go.Ab.zeroD Try.prog 1 = some [.val .nilFunc] := by kernel_rfl
@[go_sem] theorem Try.ty.el1 : Go.Ab.elemOf Try.prog 1 = none := by kernel_rfl
@[go_sem] theorem Try.ty.sz2 : Go.Ab.szOf Try.prog 2 = 1 := by kernel_rfl
@[go_sem] theorem Try.ty.ag2 : Go.Ab.aggO Try.prog 2 = some false := by kernel_rfl
@[go_sem] theorem Try.ty.el2 : Go.Ab.elemOf Try.prog 2 = none := by kernel_rfl
@[go_sem] theorem Try.ty.by2 : Go.Ab.bytesOf Try.prog 2 = 8 := by kernel_rfl
@[go_sem] theorem Try.ty.st2 : Go.Ab.strTy Try.prog 2 = false := by kernel_rfl
@[go_sem] theorem Try.ty.in2 : Go.Ab.intOfTy Try.prog 2 = some .i64 := by kernel_rfl
@[go_sem] theorem Try.ty.ar2 : Go.Ab.arrOf Try.prog 2 = none := by kernel_rfl
@[go_sem] theorem Try.ty.ze2 : Go.Ab.zeroD Try.prog 2 = some [.int .i64 0] := by kernel_rfl
@[go_sem] theorem Try.ty.sz3 : Go.Ab.szOf Try.prog 3 = 1 := by kernel_rfl
@[go_sem] theorem Try.ty.ag3 : Go.Ab.aggO Try.prog 3 = some false := by kernel_rfl
@[go_sem] theorem Try.ty.el3 : Go.Ab.elemOf Try.prog 3 = none := by kernel_rfl
@[go_sem] theorem Try.ty.by3 : Go.Ab.bytesOf Try.prog 3 = 8 := by kernel_rfl
@[go_sem] theorem Try.ty.st3 : Go.Ab.strTy Try.prog 3 = false := by kernel_rfl
@[go_sem] theorem Try.ty.in3 : Go.Ab.intOfTy Try.prog 3 = some .i64 := by kernel_rfl
@[go_sem] theorem Try.ty.ar3 : Go.Ab.arrOf Try.prog 3 = none := by kernel_rfl
@[go_sem] theorem Try.ty.ze3 : Go.Ab.zeroD Try.prog 3 = some [.int .i64 0] := by kernel_rfl
@[go_sem] theorem Try.ty.sz4 : Go.Ab.szOf Try.prog 4 = 1 := by kernel_rfl
@[go_sem] theorem Try.ty.ag4 : Go.Ab.aggO Try.prog 4 = some false := by kernel_rfl
@[go_sem] theorem Try.ty.el4 : Go.Ab.elemOf Try.prog 4 = none := by kernel_rfl
@[go_sem] theorem Try.ty.by4 : Go.Ab.bytesOf Try.prog 4 = 1 := by kernel_rfl
@[go_sem] theorem Try.ty.st4 : Go.Ab.strTy Try.prog 4 = false := by kernel_rfl
@[go_sem] theorem Try.ty.ar4 : Go.Ab.arrOf Try.prog 4 = none := by kernel_rfl
@[go_sem] theorem Try.ty.ze4 : Go.Ab.zeroD Try.prog 4 = some [.bool false] := by kernel_rfl
@[go_sem] theorem Try.ty.sz5 : Go.Ab.szOf Try.prog 5 = 1 := by kernel_rfl
@[go_sem] theorem Try.ty.ag5 : Go.Ab.aggO Try.prog 5 = some false := by kernel_rfl
@[go_sem] theorem Try.ty.el5 : Go.Ab.elemOf Try.prog 5 = none := by kernel_rfl
@[go_sem] theorem Try.ty.by5 : Go.Ab.bytesOf Try.prog 5 = 1 := by kernel_rfl
@[go_sem] theorem Try.ty.st5 : Go.Ab.strTy Try.prog 5 = false := by kernel_rfl
@[go_sem] theorem Try.ty.in5 : Go.Ab.intOfTy Try.prog 5 = some .u8 := by kernel_rfl
@[go_sem] theorem Try.ty.ar5 : Go.Ab.arrOf Try.prog 5 = none := by kernel_rfl
@[go_sem] theorem Try.ty.ze5 : Go.Ab.zeroD Try.prog 5 = some [.int .u8 0] := by kernel_rfl
@[go_sem] theorem Try.ty.sz6 : Go.Ab.szOf Try.prog 6 = 1 := by kernel_rfl
@[go_sem] theorem Try.ty.ag6 : Go.Ab.aggO Try.prog 6 = some false := by kernel_rfl
@[go_sem] theorem Try.ty.el6 : Go.Ab.elemOf Try.prog 6 = none := by kernel_rfl
@[go_sem] theorem Try.ty.by6 : Go.Ab.bytesOf Try.prog 6 = 1 := by kernel_rfl
@[go_sem] theorem Try.ty.st6 : Go.Ab.strTy Try.prog 6 = false := by kernel_rfl
@[go_sem] theorem Try.ty.in6 : Go.Ab.intOfTy Try.prog 6 = some .u8 := by kernel_rfl
@[go_sem] theorem Try.ty.ar6 : Go.Ab.arrOf Try.prog 6 = none := by kernel_rfl
@[go_sem] theorem Try.ty.ze6 : Go.Ab.zeroD Try.prog 6 = some [.int .u8 0] := by kernel_rfl
@[go_sem] theorem Try.ty.sz7 : Go.Ab.szOf Try.prog 7 = 4 := by kernel_rfl
@[go_sem] theorem Try.ty.ag7 : Go.Ab.aggO Try.prog 7 = some true := by kernel_rfl
@[go_sem] theorem Try.ty.el7 : Go.Ab.elemOf Try.prog 7 = none := by kernel_rfl
@[go_sem] theorem Try.ty.by7 : Go.Ab.bytesOf Try.prog 7 = 24 := by kernel_rfl
@[go_sem] theorem Try.ty.st7 : Go.Ab.strTy Try.prog 7 = false := by kernel_rfl
@[go_sem] theorem Try.ty.ar7 : Go.Ab.arrOf Try.prog 7 = none := by kernel_rfl
@[go_sem] theorem Try.ty.ze7 : Go.Ab.zeroD Try.prog 7 = some [.int .i64 0, .int .i64 0, .bool false, .int .u8 0] := by kernel_rfl
@[go_sem] theorem Try.ty.fo7_0 : Go.Ab.fieldOff Try.prog 7 0 = some (0, 2) := by kernel_rfl
@[go_sem] theorem Try.ty.fo7_1 : Go.Ab.fieldOff Try.prog 7 1 = some (1, 3) := by kernel_rfl
@[go_sem] theorem Try.ty.fo7_2 : Go.Ab.fieldOff Try.prog 7 2 = some (2, 4) := by kernel_rfl
@[go_sem] theorem Try.ty.fo7_3 : Go.Ab.fieldOff Try.prog 7 3 = some (3, 6) := by kernel_rfl
@[go_sem] theorem Try.ty.pl7 : Go.Ab.placeD Try.prog 7 = some fun i => ([(0, 1), (1, 1), (2, 1), (3, 1)] : List (Nat × Nat))[i]? := by kernel_rfl
@[go_sem] theorem Try.ty.sz8 : Go.Ab.szOf Try.prog 8 = 4 := by kernel_rfl
@[go_sem] theorem Try.ty.ag8 : Go.Ab.aggO Try.prog 8 = some true := by kernel_rfl
@[go_sem] theorem Try.ty.el8 : Go.Ab.elemOf Try.prog 8 = none := by kernel_rfl
@[go_sem] theorem Try.ty.by8 : Go.Ab.bytesOf Try.prog 8 = 24 := by kernel_rfl
@[go_sem] theorem Try.ty.st8 : Go.Ab.strTy Try.prog 8 = false := by kernel_rfl
@[go_sem] theorem Try.ty.ar8 : Go.Ab.arrOf Try.prog 8 = none := by kernel_rfl
@[go_sem] theorem Try.ty.ze8 : Go.Ab.zeroD Try.prog 8 = some [.int .i64 0, .int .i64 0, .bool false, .int .u8 0] := by kernel_rfl
@[go_sem] theorem Try.ty.fo8_0 : Go.Ab.fieldOff Try.prog 8 0 = some (0, 2) := by kernel_rfl
@[go_sem] theorem Try.ty.fo8_1 : Go.Ab.fieldOff Try.prog 8 1 = some (1, 3) := by kernel_rfl
@[go_sem] theorem Try.ty.fo8_2 : Go.Ab.fieldOff Try.prog 8 2 = some (2, 4) := by kernel_rfl
@[go_sem] theorem Try.ty.fo8_3 : Go.Ab.fieldOff Try.prog 8 3 = some (3, 6) := by kernel_rfl
@[go_sem] theorem Try.ty.pl8 : Go.Ab.placeD Try.prog 8 = some fun i => ([(0, 1), (1, 1), (2, 1), (3, 1)] : List (Nat × Nat))[i]? := by kernel_rfl
@[go_sem] theorem Try.ty.sz9 : Go.Ab.szOf Try.prog 9 = 1 := by kernel_rfl
@[go_sem] theorem Try.ty.ag9 : Go.Ab.aggO Try.prog 9 = some false := by kernel_rfl
@[go_sem] theorem Try.ty.el9 : Go.Ab.elemOf Try.prog 9 = none := by kernel_rfl
@[go_sem] theorem Try.ty.by9 : Go.Ab.bytesOf Try.prog 9 = 16 := by kernel_rfl
@[go_sem] theorem Try.ty.st9 : Go.Ab.strTy Try.prog 9 = true := by kernel_rfl
@[go_sem] theorem Try.ty.ar9 : Go.Ab.arrOf Try.prog 9 = none := by kernel_rfl
@[go_sem] theorem Try.ty.ze9 : Go.Ab.zeroD Try.prog 9 = some [.str ⟨#[]⟩] := by kernel_rfl
@[go_sem] theorem Try.ty.sz10 : Go.Ab.szOf Try.prog 10 = 1 := by kernel_rfl
@[go_sem] theorem Try.ty.ag10 : Go.Ab.aggO Try.prog 10 = some false := by kernel_rfl
@[go_sem] theorem Try.ty.el10 : Go.Ab.elemOf Try.prog 10 = none := by kernel_rfl
@[go_sem] theorem Try.ty.by10 : Go.Ab.bytesOf Try.prog 10 = 16 := by kernel_rfl
@[go_sem] theorem Try.ty.st10 : Go.Ab.strTy Try.prog 10 = true := by kernel_rfl
@[go_sem] theorem Try.ty.ar10 : Go.Ab.arrOf Try.prog 10 = none := by kernel_rfl
@[go_sem] theorem Try.ty.ze10 : Go.Ab.zeroD Try.prog 10 = some [.str ⟨#[]⟩] := by kernel_rfl
@[go_sem] theorem Try.ty.sz11 : Go.Ab.szOf Try.prog 11 = 1 := by kernel_rfl
@[go_sem] theorem Try.ty.ag11 : Go.Ab.aggO Try.prog 11 = some false := by kernel_rfl
@[go_sem] theorem Try.ty.el11 : Go.Ab.elemOf Try.prog 11 = none := by kernel_rfl
@[go_sem] theorem Try.ty.by11 : Go.Ab.bytesOf Try.prog 11 = 16 := by kernel_rfl
@[go_sem] theorem Try.ty.st11 : Go.Ab.strTy Try.prog 11 = true := by kernel_rfl
@[go_sem] theorem Try.ty.ar11 : Go.Ab.arrOf Try.prog 11 = none := by kernel_rfl
@[go_sem] theorem Try.ty.ze11 : Go.Ab.zeroD Try.prog 11 = some [.str ⟨#[]⟩] := by kernel_rfl
@[go_sem] theorem Try.ty.sz12 : Go.Ab.szOf Try.prog 12 = 1 := by kernel_rfl
@[go_sem] theorem Try.ty.ag12 : Go.Ab.aggO Try.prog 12 = some false := by kernel_rfl
@[go_sem] theorem Try.ty.el12 : Go.Ab.elemOf Try.prog 12 = none := by kernel_rfl
@[go_sem] theorem Try.ty.by12 : Go.Ab.bytesOf Try.prog 12 = 8 := by kernel_rfl
@[go_sem] theorem Try.ty.st12 : Go.Ab.strTy Try.prog 12 = false := by kernel_rfl
@[go_sem] theorem Try.ty.in12 : Go.Ab.intOfTy Try.prog 12 = some .u64 := by kernel_rfl
@[go_sem] theorem Try.ty.ar12 : Go.Ab.arrOf Try.prog 12 = none := by kernel_rfl
@[go_sem] theorem Try.ty.ze12 : Go.Ab.zeroD Try.prog 12 = some [.int .u64 0] := by kernel_rfl
@[go_sem] theorem Try.ty.sz13 : Go.Ab.szOf Try.prog 13 = 2 := by kernel_rfl
@[go_sem] theorem Try.ty.ag13 : Go.Ab.aggO Try.prog 13 = some true := by kernel_rfl
@[go_sem] theorem Try.ty.el13 : Go.Ab.elemOf Try.prog 13 = none := by kernel_rfl
@[go_sem] theorem Try.ty.by13 : Go.Ab.bytesOf Try.prog 13 = 24 := by kernel_rfl
@[go_sem] theorem Try.ty.st13 : Go.Ab.strTy Try.prog 13 = false := by kernel_rfl
@[go_sem] theorem Try.ty.ar13 : Go.Ab.arrOf Try.prog 13 = none := by kernel_rfl
@[go_sem] theorem Try.ty.ze13 : Go.Ab.zeroD Try.prog 13 = some [.str ⟨#[]⟩, .int .u64 0] := by kernel_rfl
@[go_sem] theorem Try.ty.fo13_0 : Go.Ab.fieldOff Try.prog 13 0 = some (0, 9) := by kernel_rfl
@[go_sem] theorem Try.ty.fo13_1 : Go.Ab.fieldOff Try.prog 13 1 = some (1, 12) := by kernel_rfl
@[go_sem] theorem Try.ty.pl13 : Go.Ab.placeD Try.prog 13 = some fun i => ([(0, 1), (1, 1)] : List (Nat × Nat))[i]? := by kernel_rfl
@[go_sem] theorem Try.ty.sz14 : Go.Ab.szOf Try.prog 14 = 2 := by kernel_rfl
@[go_sem] theorem Try.ty.ag14 : Go.Ab.aggO Try.prog 14 = some true := by kernel_rfl
@[go_sem] theorem Try.ty.el14 : Go.Ab.elemOf Try.prog 14 = none := by kernel_rfl
@[go_sem] theorem Try.ty.by14 : Go.Ab.bytesOf Try.prog 14 = 24 := by kernel_rfl
@[go_sem] theorem Try.ty.st14 : Go.Ab.strTy Try.prog 14 = false := by kernel_rfl
@[go_sem] theorem Try.ty.ar14 : Go.Ab.arrOf Try.prog 14 = none := by kernel_rfl
@[go_sem] theorem Try.ty.ze14 : Go.Ab.zeroD Try.prog 14 = some [.str ⟨#[]⟩, .int .u64 0] := by kernel_rfl
@[go_sem] theorem Try.ty.fo14_0 : Go.Ab.fieldOff Try.prog 14 0 = some (0, 9) := by kernel_rfl
@[go_sem] theorem Try.ty.fo14_1 : Go.Ab.fieldOff Try.prog 14 1 = some (1, 12) := by kernel_rfl
@[go_sem] theorem Try.ty.pl14 : Go.Ab.placeD Try.prog 14 = some fun i => ([(0, 1), (1, 1)] : List (Nat × Nat))[i]? := by kernel_rfl
@[go_sem] theorem Try.ty.sz15 : Go.Ab.szOf Try.prog 15 = 1 := by kernel_rfl
@[go_sem] theorem Try.ty.ag15 : Go.Ab.aggO Try.prog 15 = some false := by kernel_rfl
@[go_sem] theorem Try.ty.el15 : Go.Ab.elemOf Try.prog 15 = none := by kernel_rfl
@[go_sem] theorem Try.ty.by15 : Go.Ab.bytesOf Try.prog 15 = 8 := by kernel_rfl
@[go_sem] theorem Try.ty.st15 : Go.Ab.strTy Try.prog 15 = false := by kernel_rfl
@[go_sem] theorem Try.ty.ar15 : Go.Ab.arrOf Try.prog 15 = none := by kernel_rfl
@[go_sem] theorem Try.ty.ze15 : Go.Ab.zeroD Try.prog 15 = some [.val (.pointer none)] := by kernel_rfl
@[go_sem] theorem Try.ty.sz16 : Go.Ab.szOf Try.prog 16 = 1 := by kernel_rfl
@[go_sem] theorem Try.ty.ag16 : Go.Ab.aggO Try.prog 16 = some false := by kernel_rfl
@[go_sem] theorem Try.ty.el16 : Go.Ab.elemOf Try.prog 16 = none := by kernel_rfl
@[go_sem] theorem Try.ty.by16 : Go.Ab.bytesOf Try.prog 16 = 8 := by kernel_rfl
@[go_sem] theorem Try.ty.st16 : Go.Ab.strTy Try.prog 16 = false := by kernel_rfl
@[go_sem] theorem Try.ty.ar16 : Go.Ab.arrOf Try.prog 16 = none := by kernel_rfl
@[go_sem] theorem Try.ty.ze16 : Go.Ab.zeroD Try.prog 16 = some [.val (.pointer none)] := by kernel_rfl
@[go_sem] theorem Try.ty.sz17 : Go.Ab.szOf Try.prog 17 = 1 := by kernel_rfl
@[go_sem] theorem Try.ty.ag17 : Go.Ab.aggO Try.prog 17 = some false := by kernel_rfl
@[go_sem] theorem Try.ty.el17 : Go.Ab.elemOf Try.prog 17 = none := by kernel_rfl
@[go_sem] theorem Try.ty.by17 : Go.Ab.bytesOf Try.prog 17 = 8 := by kernel_rfl
@[go_sem] theorem Try.ty.st17 : Go.Ab.strTy Try.prog 17 = false := by kernel_rfl
@[go_sem] theorem Try.ty.ar17 : Go.Ab.arrOf Try.prog 17 = none := by kernel_rfl
@[go_sem] theorem Try.ty.ze17 : Go.Ab.zeroD Try.prog 17 = some [.val (.pointer none)] := by kernel_rfl
@[go_sem] theorem Try.ty.sz18 : Go.Ab.szOf Try.prog 18 = 1 := by kernel_rfl
@[go_sem] theorem Try.ty.ag18 : Go.Ab.aggO Try.prog 18 = some true := by kernel_rfl
@[go_sem] theorem Try.ty.el18 : Go.Ab.elemOf Try.prog 18 = none := by kernel_rfl
@[go_sem] theorem Try.ty.by18 : Go.Ab.bytesOf Try.prog 18 = 8 := by kernel_rfl
@[go_sem] theorem Try.ty.st18 : Go.Ab.strTy Try.prog 18 = false := by kernel_rfl
@[go_sem] theorem Try.ty.ar18 : Go.Ab.arrOf Try.prog 18 = none := by kernel_rfl
@[go_sem] theorem Try.ty.ze18 : Go.Ab.zeroD Try.prog 18 = some [.val (.pointer none)] := by kernel_rfl
@[go_sem] theorem Try.ty.fo18_0 : Go.Ab.fieldOff Try.prog 18 0 = some (0, 17) := by kernel_rfl
@[go_sem] theorem Try.ty.pl18 : Go.Ab.placeD Try.prog 18 = some fun i => ([(0, 1)] : List (Nat × Nat))[i]? := by kernel_rfl
@[go_sem] theorem Try.ty.sz19 : Go.Ab.szOf Try.prog 19 = 1 := by kernel_rfl
@[go_sem] theorem Try.ty.ag19 : Go.Ab.aggO Try.prog 19 = some true := by kernel_rfl
@[go_sem] theorem Try.ty.el19 : Go.Ab.elemOf Try.prog 19 = none := by kernel_rfl
@[go_sem] theorem Try.ty.by19 : Go.Ab.bytesOf Try.prog 19 = 8 := by kernel_rfl
@[go_sem] theorem Try.ty.st19 : Go.Ab.strTy Try.prog 19 = false := by kernel_rfl
@[go_sem] theorem Try.ty.ar19 : Go.Ab.arrOf Try.prog 19 = none := by kernel_rfl
@[go_sem] theorem Try.ty.ze19 : Go.Ab.zeroD Try.prog 19 = some [.val (.pointer none)] := by kernel_rfl
@[go_sem] theorem Try.ty.fo19_0 : Go.Ab.fieldOff Try.prog 19 0 = some (0, 17) := by kernel_rfl
@[go_sem] theorem Try.ty.pl19 : Go.Ab.placeD Try.prog 19 = some fun i => ([(0, 1)] : List (Nat × Nat))[i]? := by kernel_rfl
@[go_sem] theorem Try.ty.sz21 : Go.Ab.szOf Try.prog 21 = 1 := by kernel_rfl
@[go_sem] theorem Try.ty.ag21 : Go.Ab.aggO Try.prog 21 = some false := by kernel_rfl
@[go_sem] theorem Try.ty.el21 : Go.Ab.elemOf Try.prog 21 = none := by kernel_rfl
@[go_sem] theorem Try.ty.by21 : Go.Ab.bytesOf Try.prog 21 = 4 := by kernel_rfl
@[go_sem] theorem Try.ty.st21 : Go.Ab.strTy Try.prog 21 = false := by kernel_rfl
@[go_sem] theorem Try.ty.in21 : Go.Ab.intOfTy Try.prog 21 = some .i32 := by kernel_rfl
@[go_sem] theorem Try.ty.ar21 : Go.Ab.arrOf Try.prog 21 = none := by kernel_rfl
@[go_sem] theorem Try.ty.ze21 : Go.Ab.zeroD Try.prog 21 = some [.int .i32 0] := by kernel_rfl
@[go_sem] theorem Try.ty.sz22 : Go.Ab.szOf Try.prog 22 = 1 := by kernel_rfl
@[go_sem] theorem Try.ty.ag22 : Go.Ab.aggO Try.prog 22 = some false := by kernel_rfl
@[go_sem] theorem Try.ty.el22 : Go.Ab.elemOf Try.prog 22 = some 3 := by kernel_rfl
@[go_sem] theorem Try.ty.by22 : Go.Ab.bytesOf Try.prog 22 = 24 := by kernel_rfl
@[go_sem] theorem Try.ty.st22 : Go.Ab.strTy Try.prog 22 = false := by kernel_rfl
@[go_sem] theorem Try.ty.ze22 : Go.Ab.zeroD Try.prog 22 = some [.val (.slice none 0 0)] := by kernel_rfl
@[go_sem] theorem Try.ty.sz23 : Go.Ab.szOf Try.prog 23 = 1 := by kernel_rfl
@[go_sem] theorem Try.ty.ag23 : Go.Ab.aggO Try.prog 23 = some false := by kernel_rfl
@[go_sem] theorem Try.ty.ze23 : Go.Ab.zeroD Try.prog 23 = some [.val .nilFunc] := by kernel_rfl
@[go_sem] theorem Try.ty.el23 : Go.Ab.elemOf Try.prog 23 = none := by kernel_rfl
@[go_sem] theorem Try.ty.sz24 : Go.Ab.szOf Try.prog 24 = 1 := by kernel_rfl
@[go_sem] theorem Try.ty.ag24 : Go.Ab.aggO Try.prog 24 = some false := by kernel_rfl
@[go_sem] theorem Try.ty.el24 : Go.Ab.elemOf Try.prog 24 = none := by kernel_rfl
@[go_sem] theorem Try.ty.by24 : Go.Ab.bytesOf Try.prog 24 = 8 := by kernel_rfl
@[go_sem] theorem Try.ty.st24 : Go.Ab.strTy Try.prog 24 = false := by kernel_rfl
@[go_sem] theorem Try.ty.in24 : Go.Ab.intOfTy Try.prog 24 = some .i64 := by kernel_rfl
@[go_sem] theorem Try.ty.ar24 : Go.Ab.arrOf Try.prog 24 = none := by kernel_rfl
@[go_sem] theorem Try.ty.ze24 : Go.Ab.zeroD Try.prog 24 = some [.int .i64 0] := by kernel_rfl
@[go_sem] theorem Try.ty.sz26 : Go.Ab.szOf Try.prog 26 = 1 := by kernel_rfl
@[go_sem] theorem Try.ty.ag26 : Go.Ab.aggO Try.prog 26 = some false := by kernel_rfl
@[go_sem] theorem Try.ty.ze26 : Go.Ab.zeroD Try.prog 26 = some [.val .nilFunc] := by kernel_rfl
@[go_sem] theorem Try.ty.el26 : Go.Ab.elemOf Try.prog 26 = none := by kernel_rfl
@[go_sem] theorem Try.ty.sz28 : Go.Ab.szOf Try.prog 28 = 1 := by kernel_rfl
@[go_sem] theorem Try.ty.ag28 : Go.Ab.aggO Try.prog 28 = some false := by kernel_rfl
@[go_sem] theorem Try.ty.ze28 : Go.Ab.zeroD Try.prog 28 = some [.val .nilFunc] := by kernel_rfl
@[go_sem] theorem Try.ty.el28 : Go.Ab.elemOf Try.prog 28 = none := by kernel_rfl
@[go_sem] theorem Try.ty.sz29 : Go.Ab.szOf Try.prog 29 = 1 := by kernel_rfl
@[go_sem] theorem Try.ty.ag29 : Go.Ab.aggO Try.prog 29 = some false := by kernel_rfl
@[go_sem] theorem Try.ty.ze29 : Go.Ab.zeroD Try.prog 29 = some [.val .nilFunc] := by kernel_rfl
@[go_sem] theorem Try.ty.el29 : Go.Ab.elemOf Try.prog 29 = none := by kernel_rfl
@[go_sem] theorem Try.ty.sz30 : Go.Ab.szOf Try.prog 30 = 1 := by kernel_rfl
@[go_sem] theorem Try.ty.ag30 : Go.Ab.aggO Try.prog 30 = some false := by kernel_rfl
@[go_sem] theorem Try.ty.ze30 : Go.Ab.zeroD Try.prog 30 = some [.val .nilFunc] := by kernel_rfl
@[go_sem] theorem Try.ty.el30 : Go.Ab.elemOf Try.prog 30 = none := by kernel_rfl
@[go_sem] theorem Try.ty.sz31 : Go.Ab.szOf Try.prog 31 = 1 := by kernel_rfl
@[go_sem] theorem Try.ty.ag31 : Go.Ab.aggO Try.prog 31 = some false := by kernel_rfl
@[go_sem] theorem Try.ty.ze31 : Go.Ab.zeroD Try.prog 31 = some [.val .nilFunc] := by kernel_rfl
@[go_sem] theorem Try.ty.el31 : Go.Ab.elemOf Try.prog 31 = none := by kernel_rfl
@[go_sem] theorem Try.ty.sz32 : Go.Ab.szOf Try.prog 32 = 1 := by kernel_rfl
@[go_sem] theorem Try.ty.ag32 : Go.Ab.aggO Try.prog 32 = some false := by kernel_rfl
@[go_sem] theorem Try.ty.ze32 : Go.Ab.zeroD Try.prog 32 = some [.val .nilFunc] := by kernel_rfl
@[go_sem] theorem Try.ty.el32 : Go.Ab.elemOf Try.prog 32 = none := by kernel_rfl
@[go_sem] theorem Try.ty.sz33 : Go.Ab.szOf Try.prog 33 = 1 := by kernel_rfl
@[go_sem] theorem Try.ty.ag33 : Go.Ab.aggO Try.prog 33 = some false := by kernel_rfl
@[go_sem] theorem Try.ty.ze33 : Go.Ab.zeroD Try.prog 33 = some [.val .nilFunc] := by kernel_rfl
@[go_sem] theorem Try.ty.el33 : Go.Ab.elemOf Try.prog 33 = none := by kernel_rfl
@[go_sem] theorem Try.ty.sz35 : Go.Ab.szOf Try.prog 35 = 1 := by kernel_rfl
@[go_sem] theorem Try.ty.ag35 : Go.Ab.aggO Try.prog 35 = some false := by kernel_rfl
@[go_sem] theorem Try.ty.ze35 : Go.Ab.zeroD Try.prog 35 = some [.val .nilFunc] := by kernel_rfl
@[go_sem] theorem Try.ty.el35 : Go.Ab.elemOf Try.prog 35 = none := by kernel_rfl
@[go_sem] theorem Try.ty.sz36 : Go.Ab.szOf Try.prog 36 = 1 := by kernel_rfl
@[go_sem] theorem Try.ty.ag36 : Go.Ab.aggO Try.prog 36 = some false := by kernel_rfl
@[go_sem] theorem Try.ty.ze36 : Go.Ab.zeroD Try.prog 36 = some [.val .nilFunc] := by kernel_rfl
@[go_sem] theorem Try.ty.el36 : Go.Ab.elemOf Try.prog 36 = none := by kernel_rfl
@[go_sem] theorem Try.ty.sz37 : Go.Ab.szOf Try.prog 37 = 1 := by kernel_rfl
@[go_sem] theorem Try.ty.ag37 : Go.Ab.aggO Try.prog 37 = some false := by kernel_rfl
@[go_sem] theorem Try.ty.ze37 : Go.Ab.zeroD Try.prog 37 = some [.val .nilFunc] := by kernel_rfl
@[go_sem] theorem Try.ty.el37 : Go.Ab.elemOf Try.prog 37 = none := by kernel_rfl
@[go_sem] theorem Try.ty.sz38 : Go.Ab.szOf Try.prog 38 = 1 := by kernel_rfl
@[go_sem] theorem Try.ty.ag38 : Go.Ab.aggO Try.prog 38 = some false := by kernel_rfl
@[go_sem] theorem Try.ty.ze38 : Go.Ab.zeroD Try.prog 38 = some [.val .nilFunc] := by kernel_rfl
@[go_sem] theorem Try.ty.el38 : Go.Ab.elemOf Try.prog 38 = none := by kernel_rfl
@[go_sem] theorem Try.ty.sz39 : Go.Ab.szOf Try.prog 39 = 1 := by kernel_rfl
@[go_sem] theorem Try.ty.ag39 : Go.Ab.aggO Try.prog 39 = some false := by kernel_rfl
@[go_sem] theorem Try.ty.ze39 : Go.Ab.zeroD Try.prog 39 = some [.val .nilFunc] := by kernel_rfl
@[go_sem] theorem Try.ty.el39 : Go.Ab.elemOf Try.prog 39 = none := by kernel_rfl
@[go_sem] theorem Try.ty.sz40 : Go.Ab.szOf Try.prog 40 = 1 := by kernel_rfl
@[go_sem] theorem Try.ty.ag40 : Go.Ab.aggO Try.prog 40 = some false := by kernel_rfl
@[go_sem] theorem Try.ty.el40 : Go.Ab.elemOf Try.prog 40 = some 22 := by kernel_rfl
@[go_sem] theorem Try.ty.by40 : Go.Ab.bytesOf Try.prog 40 = 24 := by kernel_rfl
@[go_sem] theorem Try.ty.st40 : Go.Ab.strTy Try.prog 40 = false := by kernel_rfl
@[go_sem] theorem Try.ty.ze40 : Go.Ab.zeroD Try.prog 40 = some [.val (.slice none 0 0)] := by kernel_rfl
@[go_sem] theorem Try.ty.sz41 : Go.Ab.szOf Try.prog 41 = 3 := by kernel_rfl
@[go_sem] theorem Try.ty.ag41 : Go.Ab.aggO Try.prog 41 = some true := by kernel_rfl
@[go_sem] theorem Try.ty.el41 : Go.Ab.elemOf Try.prog 41 = none := by kernel_rfl
@[go_sem] theorem Try.ty.by41 : Go.Ab.bytesOf Try.prog 41 = 56 := by kernel_rfl
@[go_sem] theorem Try.ty.st41 : Go.Ab.strTy Try.prog 41 = false := by kernel_rfl
@[go_sem] theorem Try.ty.ar41 : Go.Ab.arrOf Try.prog 41 = none := by kernel_rfl
@[go_sem] theorem Try.ty.ze41 : Go.Ab.zeroD Try.prog 41 = some [.int .i64 0, .val (.slice none 0 0), .val (.slice none 0 0)] := by kernel_rfl
@[go_sem] theorem Try.ty.fo41_0 : Go.Ab.fieldOff Try.prog 41 0 = some (0, 3) := by kernel_rfl
@[go_sem] theorem Try.ty.fo41_1 : Go.Ab.fieldOff Try.prog 41 1 = some (1, 22) := by kernel_rfl
@[go_sem] theorem Try.ty.fo41_2 : Go.Ab.fieldOff Try.prog 41 2 = some (2, 40) := by kernel_rfl
@[go_sem] theorem Try.ty.pl41 : Go.Ab.placeD Try.prog 41 = some fun i => ([(0, 1), (1, 1), (2, 1)] : List (Nat × Nat))[i]? := by kernel_rfl
@[go_sem] theorem Try.ty.sz42 : Go.Ab.szOf Try.prog 42 = 3 := by kernel_rfl
@[go_sem] theorem Try.ty.ag42 : Go.Ab.aggO Try.prog 42 = some true := by kernel_rfl
@[go_sem] theorem Try.ty.el42 : Go.Ab.elemOf Try.prog 42 = none := by kernel_rfl
@[go_sem] theorem Try.ty.by42 : Go.Ab.bytesOf Try.prog 42 = 56 := by kernel_rfl
@[go_sem] theorem Try.ty.st42 : Go.Ab.strTy Try.prog 42 = false := by kernel_rfl
@[go_sem] theorem Try.ty.ar42 : Go.Ab.arrOf Try.prog 42 = none := by kernel_rfl
@[go_sem] theorem Try.ty.ze42 : Go.Ab.zeroD Try.prog 42 = some [.int .i64 0, .val (.slice none 0 0), .val (.slice none 0 0)] := by kernel_rfl
@[go_sem] theorem Try.ty.fo42_0 : Go.Ab.fieldOff Try.prog 42 0 = some (0, 3) := by kernel_rfl
@[go_sem] theorem Try.ty.fo42_1 : Go.Ab.fieldOff Try.prog 42 1 = some (1, 22) := by kernel_rfl
@[go_sem] theorem Try.ty.fo42_2 : Go.Ab.fieldOff Try.prog 42 2 = some (2, 40) := by kernel_rfl
@[go_sem] theorem Try.ty.pl42 : Go.Ab.placeD Try.prog 42 = some fun i => ([(0, 1), (1, 1), (2, 1)] : List (Nat × Nat))[i]? := by kernel_rfl
@[go_sem] theorem Try.ty.sz43 : Go.Ab.szOf Try.prog 43 = 1 := by kernel_rfl
@[go_sem] theorem Try.ty.ag43 : Go.Ab.aggO Try.prog 43 = some false := by kernel_rfl
@[go_sem] theorem Try.ty.el43 : Go.Ab.elemOf Try.prog 43 = some 40 := by kernel_rfl
@[go_sem] theorem Try.ty.by43 : Go.Ab.bytesOf Try.prog 43 = 24 := by kernel_rfl
@[go_sem] theorem Try.ty.st43 : Go.Ab.strTy Try.prog 43 = false := by kernel_rfl
@[go_sem] theorem Try.ty.ze43 : Go.Ab.zeroD Try.prog 43 = some [.val (.slice none 0 0)] := by kernel_rfl
@[go_sem] theorem Try.ty.sz44 : Go.Ab.szOf Try.prog 44 = 1 := by kernel_rfl
@[go_sem] theorem Try.ty.ag44 : Go.Ab.aggO Try.prog 44 = some false := by kernel_rfl
@[go_sem] theorem Try.ty.ze44 : Go.Ab.zeroD Try.prog 44 = some [.val .nilFunc] := by kernel_rfl
@[go_sem] theorem Try.ty.el44 : Go.Ab.elemOf Try.prog 44 = none := by kernel_rfl
@[go_sem] theorem Try.ty.sz45 : Go.Ab.szOf Try.prog 45 = 1 := by kernel_rfl
@[go_sem] theorem Try.ty.ag45 : Go.Ab.aggO Try.prog 45 = some false := by kernel_rfl
@[go_sem] theorem Try.ty.ze45 : Go.Ab.zeroD Try.prog 45 = some [.val .nilFunc] := by kernel_rfl
@[go_sem] theorem Try.ty.el45 : Go.Ab.elemOf Try.prog 45 = none := by kernel_rfl
@[go_sem] theorem Try.ty.sz47 : Go.Ab.szOf Try.prog 47 = 1 := by kernel_rfl
@[go_sem] theorem Try.ty.ag47 : Go.Ab.aggO Try.prog 47 = some false := by kernel_rfl
@[go_sem] theorem Try.ty.ze47 : Go.Ab.zeroD Try.prog 47 = some [.val .nilFunc] := by kernel_rfl
@[go_sem] theorem Try.ty.el47 : Go.Ab.elemOf Try.prog 47 = none := by kernel_rfl
@[go_sem] theorem Try.ty.sz48 : Go.Ab.szOf Try.prog 48 = 2 := by kernel_rfl
@[go_sem] theorem Try.ty.ag48 : Go.Ab.aggO Try.prog 48 = some true := by kernel_rfl
@[go_sem] theorem Try.ty.el48 : Go.Ab.elemOf Try.prog 48 = none := by kernel_rfl
@[go_sem] theorem Try.ty.by48 : Go.Ab.bytesOf Try.prog 48 = 16 := by kernel_rfl
@[go_sem] theorem Try.ty.st48 : Go.Ab.strTy Try.prog 48 = false := by kernel_rfl
@[go_sem] theorem Try.ty.ar48 : Go.Ab.arrOf Try.prog 48 = none := by kernel_rfl
@[go_sem] theorem Try.ty.eq48 : Go.Ab.EqInts Try.prog 48 2 := Go.Ab.eq_struct (by kernel_rfl) (by kernel_rfl) (by kernel_rfl) (by kernel_rfl)
@[go_sem] theorem Try.ty.ze48 : Go.Ab.zeroD Try.prog 48 = some [.int .i64 0, .int .i64 0] := by kernel_rfl
@[go_sem] theorem Try.ty.fo48_0 : Go.Ab.fieldOff Try.prog 48 0 = some (0, 3) := by kernel_rfl
@[go_sem] theorem Try.ty.fo48_1 : Go.Ab.fieldOff Try.prog 48 1 = some (1, 3) := by kernel_rfl
@[go_sem] theorem Try.ty.pl48 : Go.Ab.placeD Try.prog 48 = some fun i => ([(0, 1), (1, 1)] : List (Nat × Nat))[i]? := by kernel_rfl
@[go_sem] theorem Try.ty.sz49 : Go.Ab.szOf Try.prog 49 = 2 := by kernel_rfl
@[go_sem] theorem Try.ty.ag49 : Go.Ab.aggO Try.prog 49 = some true := by kernel_rfl
@[go_sem] theorem Try.ty.el49 : Go.Ab.elemOf Try.prog 49 = none := by kernel_rfl
@[go_sem] theorem Try.ty.by49 : Go.Ab.bytesOf Try.prog 49 = 16 := by kernel_rfl
@[go_sem] theorem Try.ty.st49 : Go.Ab.strTy Try.prog 49 = false := by kernel_rfl
@[go_sem] theorem Try.ty.ar49 : Go.Ab.arrOf Try.prog 49 = none := by kernel_rfl
@[go_sem] theorem Try.ty.eq49 : Go.Ab.EqInts Try.prog 49 2 := Go.Ab.eq_struct (by kernel_rfl) (by kernel_rfl) (by kernel_rfl) (by kernel_rfl)
@[go_sem] theorem Try.ty.ze49 : Go.Ab.zeroD Try.prog 49 = some [.int .i64 0, .int .i64 0] := by kernel_rfl
@[go_sem] theorem Try.ty.fo49_0 : Go.Ab.fieldOff Try.prog 49 0 = some (0, 3) := by kernel_rfl
@[go_sem] theorem Try.ty.fo49_1 : Go.Ab.fieldOff Try.prog 49 1 = some (1, 3) := by kernel_rfl
@[go_sem] theorem Try.ty.pl49 : Go.Ab.placeD Try.prog 49 = some fun i => ([(0, 1), (1, 1)] : List (Nat × Nat))[i]? := by kernel_rfl
@[go_sem] theorem Try.ty.sz51 : Go.Ab.szOf Try.prog 51 = 1 := by kernel_rfl
@[go_sem] theorem Try.ty.ag51 : Go.Ab.aggO Try.prog 51 = some false := by kernel_rfl
@[go_sem] theorem Try.ty.ze51 : Go.Ab.zeroD Try.prog 51 = some [.val .nilFunc] := by kernel_rfl
@[go_sem] theorem Try.ty.el51 : Go.Ab.elemOf Try.prog 51 = none := by kernel_rfl
@[go_sem] theorem Try.ty.sz52 : Go.Ab.szOf Try.prog 52 = 1 := by kernel_rfl
@[go_sem] theorem Try.ty.ag52 : Go.Ab.aggO Try.prog 52 = some false := by kernel_rfl
@[go_sem] theorem Try.ty.ze52 : Go.Ab.zeroD Try.prog 52 = some [.val .nilFunc] := by kernel_rfl
@[go_sem] theorem Try.ty.el52 : Go.Ab.elemOf Try.prog 52 = none := by kernel_rfl
@[go_sem] theorem Try.ty.sz53 : Go.Ab.szOf Try.prog 53 = 1 := by kernel_rfl
@[go_sem] theorem Try.ty.ag53 : Go.Ab.aggO Try.prog 53 = some false := by kernel_rfl
@[go_sem] theorem Try.ty.ze53 : Go.Ab.zeroD Try.prog 53 = some [.val .nilFunc] := by kernel_rfl
@[go_sem] theorem Try.ty.el53 : Go.Ab.elemOf Try.prog 53 = none := by kernel_rfl
@[go_sem] theorem Try.ty.sz54 : Go.Ab.szOf Try.prog 54 = 1 := by kernel_rfl
@[go_sem] theorem Try.ty.ag54 : Go.Ab.aggO Try.prog 54 = some false := by kernel_rfl
@[go_sem] theorem Try.ty.ze54 : Go.Ab.zeroD Try.prog 54 = some [.val .nilFunc] := by kernel_rfl
@[go_sem] theorem Try.ty.el54 : Go.Ab.elemOf Try.prog 54 = none := by kernel_rfl
@[go_sem] theorem Try.ty.sz55 : Go.Ab.szOf Try.prog 55 = 1 := by kernel_rfl
@[go_sem] theorem Try.ty.ag55 : Go.Ab.aggO Try.prog 55 = some false := by kernel_rfl
@[go_sem] theorem Try.ty.ze55 : Go.Ab.zeroD Try.prog 55 = some [.val .nilFunc] := by kernel_rfl
@[go_sem] theorem Try.ty.el55 : Go.Ab.elemOf Try.prog 55 = none := by kernel_rfl
@[go_sem] theorem Try.ty.sz56 : Go.Ab.szOf Try.prog 56 = 1 := by kernel_rfl
@[go_sem] theorem Try.ty.ag56 : Go.Ab.aggO Try.prog 56 = some false := by kernel_rfl
@[go_sem] theorem Try.ty.ze56 : Go.Ab.zeroD Try.prog 56 = some [.val .nilFunc] := by kernel_rfl
@[go_sem] theorem Try.ty.el56 : Go.Ab.elemOf Try.prog 56 = none := by kernel_rfl
@[go_sem] theorem Try.ty.sz57 : Go.Ab.szOf Try.prog 57 = 1 := by kernel_rfl
@[go_sem] theorem Try.ty.ag57 : Go.Ab.aggO Try.prog 57 = some false := by kernel_rfl
@[go_sem] theorem Try.ty.ze57 : Go.Ab.zeroD Try.prog 57 = some [.val .nilFunc] := by kernel_rfl
@[go_sem] theorem Try.ty.el57 : Go.Ab.elemOf Try.prog 57 = none := by kernel_rfl
@[go_sem] theorem Try.ty.sz58 : Go.Ab.szOf Try.prog 58 = 1 := by kernel_rfl
@[go_sem] theorem Try.ty.ag58 : Go.Ab.aggO Try.prog 58 = some false := by kernel_rfl
@[go_sem] theorem Try.ty.ze58 : Go.Ab.zeroD Try.prog 58 = some [.val .nilFunc] := by kernel_rfl
@[go_sem] theorem Try.ty.el58 : Go.Ab.elemOf Try.prog 58 = none := by kernel_rfl
@[go_sem] theorem Try.ty.sz59 : Go.Ab.szOf Try.prog 59 = 1 := by kernel_rfl
@[go_sem] theorem Try.ty.ag59 : Go.Ab.aggO Try.prog 59 = some false := by kernel_rfl
@[go_sem] theorem Try.ty.ze59 : Go.Ab.zeroD Try.prog 59 = some [.val .nilFunc] := by kernel_rfl
@[go_sem] theorem Try.ty.el59 : Go.Ab.elemOf Try.prog 59 = none := by kernel_rfl
@[go_sem] theorem Try.ty.sz60 : Go.Ab.szOf Try.prog 60 = 1 := by kernel_rfl
@[go_sem] theorem Try.ty.ag60 : Go.Ab.aggO Try.prog 60 = some false := by kernel_rfl
@[go_sem] theorem Try.ty.el60 : Go.Ab.elemOf Try.prog 60 = none := by kernel_rfl
@[go_sem] theorem Try.ty.by60 : Go.Ab.bytesOf Try.prog 60 = 8 := by kernel_rfl
@[go_sem] theorem Try.ty.st60 : Go.Ab.strTy Try.prog 60 = false := by kernel_rfl
@[go_sem] theorem Try.ty.in60 : Go.Ab.intOfTy Try.prog 60 = some .i64 := by kernel_rfl
@[go_sem] theorem Try.ty.ar60 : Go.Ab.arrOf Try.prog 60 = none := by kernel_rfl
@[go_sem] theorem Try.ty.ze60 : Go.Ab.zeroD Try.prog 60 = some [.int .i64 0] := by kernel_rfl
@[go_sem] theorem Try.ty.sz62 : Go.Ab.szOf Try.prog 62 = 1 := by kernel_rfl
@[go_sem] theorem Try.ty.ag62 : Go.Ab.aggO Try.prog 62 = some false := by kernel_rfl
@[go_sem] theorem Try.ty.ze62 : Go.Ab.zeroD Try.prog 62 = some [.val .nilFunc] := by kernel_rfl
@[go_sem] theorem Try.ty.el62 : Go.Ab.elemOf Try.prog 62 = none := by kernel_rfl
@[go_sem] theorem Try.ty.sz64 : Go.Ab.szOf Try.prog 64 = 1 := by kernel_rfl
@[go_sem] theorem Try.ty.ag64 : Go.Ab.aggO Try.prog 64 = some false := by kernel_rfl
@[go_sem] theorem Try.ty.ze64 : Go.Ab.zeroD Try.prog 64 = some [.val .nilFunc] := by kernel_rfl
@[go_sem] theorem Try.ty.el64 : Go.Ab.elemOf Try.prog 64 = none := by kernel_rfl
@[go_sem] theorem Try.ty.sz65 : Go.Ab.szOf Try.prog 65 = 1 := by kernel_rfl
@[go_sem] theorem Try.ty.ag65 : Go.Ab.aggO Try.prog 65 = some false := by kernel_rfl
@[go_sem] theorem Try.ty.ze65 : Go.Ab.zeroD Try.prog 65 = some [.val .nilFunc] := by kernel_rfl
@[go_sem] theorem Try.ty.el65 : Go.Ab.elemOf Try.prog 65 = none := by kernel_rfl
@[go_sem] theorem Try.ty.sz66 : Go.Ab.szOf Try.prog 66 = 1 := by kernel_rfl
@[go_sem] theorem Try.ty.ag66 : Go.Ab.aggO Try.prog 66 = some false := by kernel_rfl
@[go_sem] theorem Try.ty.ze66 : Go.Ab.zeroD Try.prog 66 = some [.val .nilFunc] := by kernel_rfl
@[go_sem] theorem Try.ty.el66 : Go.Ab.elemOf Try.prog 66 = none := by kernel_rfl
@[go_sem] theorem Try.ty.sz67 : Go.Ab.szOf Try.prog 67 = 1 := by kernel_rfl
@[go_sem] theorem Try.ty.ag67 : Go.Ab.aggO Try.prog 67 = some false := by kernel_rfl
@[go_sem] theorem Try.ty.ze67 : Go.Ab.zeroD Try.prog 67 = some [.val .nilFunc] := by kernel_rfl
@[go_sem] theorem Try.ty.el67 : Go.Ab.elemOf Try.prog 67 = none := by kernel_rfl
@[go_sem] theorem Try.ty.sz68 : Go.Ab.szOf Try.prog 68 = 1 := by kernel_rfl
@[go_sem] theorem Try.ty.ag68 : Go.Ab.aggO Try.prog 68 = some false := by kernel_rfl
@[go_sem] theorem Try.ty.ze68 : Go.Ab.zeroD Try.prog 68 = some [.val .nilFunc] := by kernel_rfl
@[go_sem] theorem Try.ty.el68 : Go.Ab.elemOf Try.prog 68 = none := by kernel_rfl
@[go_sem] theorem Try.ty.sz69 : Go.Ab.szOf Try.prog 69 = 1 := by kernel_rfl
@[go_sem] theorem Try.ty.ag69 : Go.Ab.aggO Try.prog 69 = some false := by kernel_rfl
@[go_sem] theorem Try.ty.ze69 : Go.Ab.zeroD Try.prog 69 = some [.val .nilFunc] := by kernel_rfl
@[go_sem] theorem Try.ty.el69 : Go.Ab.elemOf Try.prog 69 = none := by kernel_rfl
@[go_sem] theorem Try.ty.sz70 : Go.Ab.szOf Try.prog 70 = 1 := by kernel_rfl
@[go_sem] theorem Try.ty.ag70 : Go.Ab.aggO Try.prog 70 = some false := by kernel_rfl
@[go_sem] theorem Try.ty.ze70 : Go.Ab.zeroD Try.prog 70 = some [.val .nilFunc] := by kernel_rfl
@[go_sem] theorem Try.ty.el70 : Go.Ab.elemOf Try.prog 70 = none := by kernel_rfl
@[go_sem] theorem Try.ty.sz71 : Go.Ab.szOf Try.prog 71 = 3 := by kernel_rfl
@[go_sem] theorem Try.ty.ag71 : Go.Ab.aggO Try.prog 71 = some true := by kernel_rfl
@[go_sem] theorem Try.ty.el71 : Go.Ab.elemOf Try.prog 71 = none := by kernel_rfl
@[go_sem] theorem Try.ty.by71 : Go.Ab.bytesOf Try.prog 71 = 40 := by kernel_rfl
@[go_sem] theorem Try.ty.st71 : Go.Ab.strTy Try.prog 71 = false := by kernel_rfl
@[go_sem] theorem Try.ty.ar71 : Go.Ab.arrOf Try.prog 71 = none := by kernel_rfl
@[go_sem] theorem Try.ty.ze71 : Go.Ab.zeroD Try.prog 71 = some [.int .i64 0, .int .i64 0, .val (.slice none 0 0)] := by kernel_rfl
@[go_sem] theorem Try.ty.fo71_0 : Go.Ab.fieldOff Try.prog 71 0 = some (0, 3) := by kernel_rfl
@[go_sem] theorem Try.ty.fo71_1 : Go.Ab.fieldOff Try.prog 71 1 = some (1, 3) := by kernel_rfl
@[go_sem] theorem Try.ty.fo71_2 : Go.Ab.fieldOff Try.prog 71 2 = some (2, 40) := by kernel_rfl
@[go_sem] theorem Try.ty.pl71 : Go.Ab.placeD Try.prog 71 = some fun i => ([(0, 1), (1, 1), (2, 1)] : List (Nat × Nat))[i]? := by kernel_rfl
@[go_sem] theorem Try.ty.sz72 : Go.Ab.szOf Try.prog 72 = 3 := by kernel_rfl
@[go_sem] theorem Try.ty.ag72 : Go.Ab.aggO Try.prog 72 = some true := by kernel_rfl
@[go_sem] theorem Try.ty.el72 : Go.Ab.elemOf Try.prog 72 = none := by kernel_rfl
@[go_sem] theorem Try.ty.by72 : Go.Ab.bytesOf Try.prog 72 = 40 := by kernel_rfl
@[go_sem] theorem Try.ty.st72 : Go.Ab.strTy Try.prog 72 = false := by kernel_rfl
@[go_sem] theorem Try.ty.ar72 : Go.Ab.arrOf Try.prog 72 = none := by kernel_rfl
@[go_sem] theorem Try.ty.ze72 : Go.Ab.zeroD Try.prog 72 = some [.int .i64 0, .int .i64 0, .val (.slice none 0 0)] := by kernel_rfl
@[go_sem] theorem Try.ty.fo72_0 : Go.Ab.fieldOff Try.prog 72 0 = some (0, 3) := by kernel_rfl
@[go_sem] theorem Try.ty.fo72_1 : Go.Ab.fieldOff Try.prog 72 1 = some (1, 3) := by kernel_rfl
@[go_sem] theorem Try.ty.fo72_2 : Go.Ab.fieldOff Try.prog 72 2 = some (2, 40) := by kernel_rfl
@[go_sem] theorem Try.ty.pl72 : Go.Ab.placeD Try.prog 72 = some fun i => ([(0, 1), (1, 1), (2, 1)] : List (Nat × Nat))[i]? := by kernel_rfl
@[go_sem] theorem Try.ty.sz73 : Go.Ab.szOf Try.prog 73 = 1 := by kernel_rfl
@[go_sem] theorem Try.ty.ag73 : Go.Ab.aggO Try.prog 73 = some false := by kernel_rfl
@[go_sem] theorem Try.ty.ze73 : Go.Ab.zeroD Try.prog 73 = some [.val .nilFunc] := by kernel_rfl
@[go_sem] theorem Try.ty.el73 : Go.Ab.elemOf Try.prog 73 = none := by kernel_rfl
@[go_sem] theorem Try.ty.sz75 : Go.Ab.szOf Try.prog 75 = 1 := by kernel_rfl
@[go_sem] theorem Try.ty.ag75 : Go.Ab.aggO Try.prog 75 = some false := by kernel_rfl
@[go_sem] theorem Try.ty.ze75 : Go.Ab.zeroD Try.prog 75 = some [.val .nilFunc] := by kernel_rfl
@[go_sem] theorem Try.ty.el75 : Go.Ab.elemOf Try.prog 75 = none := by kernel_rfl
@[go_sem] theorem Try.ty.sz77 : Go.Ab.szOf Try.prog 77 = 1 := by kernel_rfl
@[go_sem] theorem Try.ty.ag77 : Go.Ab.aggO Try.prog 77 = some false := by kernel_rfl
@[go_sem] theorem Try.ty.ze77 : Go.Ab.zeroD Try.prog 77 = some [.val .nilFunc] := by kernel_rfl
@[go_sem] theorem Try.ty.el77 : Go.Ab.elemOf Try.prog 77 = none := by kernel_rfl
@[go_sem] theorem Try.ty.sz78 : Go.Ab.szOf Try.prog 78 = 1 := by kernel_rfl
@[go_sem] theorem Try.ty.ag78 : Go.Ab.aggO Try.prog 78 = some false := by kernel_rfl
@[go_sem] theorem Try.ty.ze78 : Go.Ab.zeroD Try.prog 78 = some [.val .nilFunc] := by kernel_rfl
@[go_sem] theorem Try.ty.el78 : Go.Ab.elemOf Try.prog 78 = none := by kernel_rfl
@[go_sem] theorem Try.ty.sz79 : Go.Ab.szOf Try.prog 79 = 1 := by kernel_rfl
@[go_sem] theorem Try.ty.ag79 : Go.Ab.aggO Try.prog 79 = some false := by kernel_rfl
@[go_sem] theorem Try.ty.ze79 : Go.Ab.zeroD Try.prog 79 = some [.val .nilFunc] := by kernel_rfl
@[go_sem] theorem Try.ty.el79 : Go.Ab.elemOf Try.prog 79 = none := by kernel_rfl
@[go_sem] theorem Try.ty.sz80 : Go.Ab.szOf Try.prog 80 = 1 := by kernel_rfl
@[go_sem] theorem Try.ty.ag80 : Go.Ab.aggO Try.prog 80 = some false := by kernel_rfl
@[go_sem] theorem Try.ty.ze80 : Go.Ab.zeroD Try.prog 80 = some [.val .nilFunc] := by kernel_rfl
@[go_sem] theorem Try.ty.el80 : Go.Ab.elemOf Try.prog 80 = none := by kernel_rfl
@[go_sem] theorem Try.ty.sz81 : Go.Ab.szOf Try.prog 81 = 1 := by kernel_rfl
@[go_sem] theorem Try.ty.ag81 : Go.Ab.aggO Try.prog 81 = some false := by kernel_rfl
@[go_sem] theorem Try.ty.ze81 : Go.Ab.zeroD Try.prog 81 = some [.val .nilFunc] := by kernel_rfl
@[go_sem] theorem Try.ty.el81 : Go.Ab.elemOf Try.prog 81 = none := by kernel_rfl
@[go_sem] theorem Try.ty.sz82 : Go.Ab.szOf Try.prog 82 = 3 := by kernel_rfl
@[go_sem] theorem Try.ty.ag82 : Go.Ab.aggO Try.prog 82 = some true := by kernel_rfl
@[go_sem] theorem Try.ty.el82 : Go.Ab.elemOf Try.prog 82 = none := by kernel_rfl
@[go_sem] theorem Try.ty.by82 : Go.Ab.bytesOf Try.prog 82 = 24 := by kernel_rfl
@[go_sem] theorem Try.ty.st82 : Go.Ab.strTy Try.prog 82 = false := by kernel_rfl
@[go_sem] theorem Try.ty.ar82 : Go.Ab.arrOf Try.prog 82 = none := by kernel_rfl
@[go_sem] theorem Try.ty.eq82 : Go.Ab.EqInts Try.prog 82 3 := Go.Ab.eq_struct (by kernel_rfl) (by kernel_rfl) (by kernel_rfl) (by kernel_rfl)
@[go_sem] theorem Try.ty.ze82 : Go.Ab.zeroD Try.prog 82 = some [.int .i64 0, .int .i64 0, .int .i64 0] := by kernel_rfl
@[go_sem] theorem Try.ty.fo82_0 : Go.Ab.fieldOff Try.prog 82 0 = some (0, 3) := by kernel_rfl
@[go_sem] theorem Try.ty.fo82_1 : Go.Ab.fieldOff Try.prog 82 1 = some (1, 3) := by kernel_rfl
@[go_sem] theorem Try.ty.fo82_2 : Go.Ab.fieldOff Try.prog 82 2 = some (2, 3) := by kernel_rfl
@[go_sem] theorem Try.ty.pl82 : Go.Ab.placeD Try.prog 82 = some fun i => ([(0, 1), (1, 1), (2, 1)] : List (Nat × Nat))[i]? := by kernel_rfl
@[go_sem] theorem Try.ty.sz83 : Go.Ab.szOf Try.prog 83 = 3 := by kernel_rfl
@[go_sem] theorem Try.ty.ag83 : Go.Ab.aggO Try.prog 83 = some true := by kernel_rfl
@[go_sem] theorem Try.ty.el83 : Go.Ab.elemOf Try.prog 83 = none := by kernel_rfl
@[go_sem] theorem Try.ty.by83 : Go.Ab.bytesOf Try.prog 83 = 24 := by kernel_rfl
@[go_sem] theorem Try.ty.st83 : Go.Ab.strTy Try.prog 83 = false := by kernel_rfl
@[go_sem] theorem Try.ty.ar83 : Go.Ab.arrOf Try.prog 83 = none := by kernel_rfl
@[go_sem] theorem Try.ty.eq83 : Go.Ab.EqInts Try.prog 83 3 := Go.Ab.eq_struct (by kernel_rfl) (by kernel_rfl) (by kernel_rfl) (by kernel_rfl)
@[go_sem] theorem Try.ty.ze83 : Go.Ab.zeroD Try.prog 83 = some [.int .i64 0, .int .i64 0, .int .i64 0] := by kernel_rfl
@[go_sem] theorem Try.ty.fo83_0 : Go.Ab.fieldOff Try.prog 83 0 = some (0, 3) := by kernel_rfl
@[go_sem] theorem Try.ty.fo83_1 : Go.Ab.fieldOff Try.prog 83 1 = some (1, 3) := by kernel_rfl
@[go_sem] theorem Try.ty.fo83_2 : Go.Ab.fieldOff Try.prog 83 2 = some (2, 3) := by kernel_rfl
@[go_sem] theorem Try.ty.pl83 : Go.Ab.placeD Try.prog 83 = some fun i => ([(0, 1), (1, 1), (2, 1)] : List (Nat × Nat))[i]? := by kernel_rfl
@[go_sem] theorem Try.ty.sz84 : Go.Ab.szOf Try.prog 84 = 1 := by kernel_rfl
@[go_sem] theorem Try.ty.ag84 : Go.Ab.aggO Try.prog 84 = some false := by kernel_rfl
@[go_sem] theorem Try.ty.ze84 : Go.Ab.zeroD Try.prog 84 = some [.val .nilFunc] := by kernel_rfl
@[go_sem] theorem Try.ty.el84 : Go.Ab.elemOf Try.prog 84 = none := by kernel_rfl
@[go_sem] theorem Try.ty.sz85 : Go.Ab.szOf Try.prog 85 = 1 := by kernel_rfl
@[go_sem] theorem Try.ty.ag85 : Go.Ab.aggO Try.prog 85 = some false := by kernel_rfl
@[go_sem] theorem Try.ty.ze85 : Go.Ab.zeroD Try.prog 85 = some [.val .nilFunc] := by kernel_rfl
@[go_sem] theorem Try.ty.el85 : Go.Ab.elemOf Try.prog 85 = none := by kernel_rfl
@[go_sem] theorem Try.ty.sz86 : Go.Ab.szOf Try.prog 86 = 1 := by kernel_rfl
@[go_sem] theorem Try.ty.ag86 : Go.Ab.aggO Try.prog 86 = some false := by kernel_rfl
@[go_sem] theorem Try.ty.ze86 : Go.Ab.zeroD Try.prog 86 = some [.val .nilFunc] := by kernel_rfl
@[go_sem] theorem Try.ty.el86 : Go.Ab.elemOf Try.prog 86 = none := by kernel_rfl
@[go_sem] theorem Try.ty.sz87 : Go.Ab.szOf Try.prog 87 = 1 := by kernel_rfl
@[go_sem] theorem Try.ty.ag87 : Go.Ab.aggO Try.prog 87 = some false := by kernel_rfl
@[go_sem] theorem Try.ty.ze87 : Go.Ab.zeroD Try.prog 87 = some [.val .nilFunc] := by kernel_rfl
@[go_sem] theorem Try.ty.el87 : Go.Ab.elemOf Try.prog 87 = none := by kernel_rfl
@[go_sem] theorem Try.ty.sz88 : Go.Ab.szOf Try.prog 88 = 1 := by kernel_rfl
@[go_sem] theorem Try.ty.ag88 : Go.Ab.aggO Try.prog 88 = some false := by kernel_rfl
@[go_sem] theorem Try.ty.ze88 : Go.Ab.zeroD Try.prog 88 = some [.val .nilFunc] := by kernel_rfl
@[go_sem] theorem Try.ty.el88 : Go.Ab.elemOf Try.prog 88 = none := by kernel_rfl
@[go_sem] theorem Try.ty.sz89 : Go.Ab.szOf Try.prog 89 = 1 := by kernel_rfl
@[go_sem] theorem Try.ty.ag89 : Go.Ab.aggO Try.prog 89 = some false := by kernel_rfl
@[go_sem] theorem Try.ty.ze89 : Go.Ab.zeroD Try.prog 89 = some [.val .nilFunc] := by kernel_rfl
@[go_sem] theorem Try.ty.el89 : Go.Ab.elemOf Try.prog 89 = none := by kernel_rfl
@[go_sem] theorem Try.ty.sz90 : Go.Ab.szOf Try.prog 90 = 1 := by kernel_rfl
@[go_sem] theorem Try.ty.ag90 : Go.Ab.aggO Try.prog 90 = some false := by kernel_rfl
@[go_sem] theorem Try.ty.ze90 : Go.Ab.zeroD Try.prog 90 = some [.val .nilFunc] := by kernel_rfl
@[go_sem] theorem Try.ty.el90 : Go.Ab.elemOf Try.prog 90 = none := by kernel_rfl
@[go_sem] theorem Try.ty.sz91 : Go.Ab.szOf Try.prog 91 = 1 := by kernel_rfl
@[go_sem] theorem Try.ty.ag91 : Go.Ab.aggO Try.prog 91 = some false := by kernel_rfl
@[go_sem] theorem Try.ty.ze91 : Go.Ab.zeroD Try.prog 91 = some [.val .nilFunc] := by kernel_rfl
@[go_sem] theorem Try.ty.el91 : Go.Ab.elemOf Try.prog 91 = none := by kernel_rfl
@[go_sem] theorem Try.ty.sz92 : Go.Ab.szOf Try.prog 92 = 1 := by kernel_rfl
@[go_sem] theorem Try.ty.ag92 : Go.Ab.aggO Try.prog 92 = some false := by kernel_rfl
@[go_sem] theorem Try.ty.ze92 : Go.Ab.zeroD Try.prog 92 = some [.val .nilFunc] := by kernel_rfl
@[go_sem] theorem Try.ty.el92 : Go.Ab.elemOf Try.prog 92 = none := by kernel_rfl
@[go_sem] theorem Try.ty.sz93 : Go.Ab.szOf Try.prog 93 = 1 := by kernel_rfl
@[go_sem] theorem Try.ty.ag93 : Go.Ab.aggO Try.prog 93 = some false := by kernel_rfl
@[go_sem] theorem Try.ty.ze93 : Go.Ab.zeroD Try.prog 93 = some [.val .nilFunc] := by kernel_rfl
@[go_sem] theorem Try.ty.el93 : Go.Ab.elemOf Try.prog 93 = none := by kernel_rfl
@[go_sem] theorem Try.ty.sz94 : Go.Ab.szOf Try.prog 94 = 1 := by kernel_rfl
@[go_sem] theorem Try.ty.ag94 : Go.Ab.aggO Try.prog 94 = some false := by kernel_rfl
@[go_sem] theorem Try.ty.ze94 : Go.Ab.zeroD Try.prog 94 = some [.val .nilFunc] := by kernel_rfl
@[go_sem] theorem Try.ty.el94 : Go.Ab.elemOf Try.prog 94 = none := by kernel_rfl
@[go_sem] theorem Try.ty.sz95 : Go.Ab.szOf Try.prog 95 = 1 := by kernel_rfl
@[go_sem] theorem Try.ty.ag95 : Go.Ab.aggO Try.prog 95 = some false := by kernel_rfl
@[go_sem] theorem Try.ty.ze95 : Go.Ab.zeroD Try.prog 95 = some [.val .nilFunc] := by kernel_rfl
@[go_sem] theorem Try.ty.el95 : Go.Ab.elemOf Try.prog 95 = none := by kernel_rfl
@[go_sem] theorem Try.ty.sz96 : Go.Ab.szOf Try.prog 96 = 1 := by kernel_rfl
@[go_sem] theorem Try.ty.ag96 : Go.Ab.aggO Try.prog 96 = some false := by kernel_rfl
@[go_sem] theorem Try.ty.ze96 : Go.Ab.zeroD Try.prog 96 = some [.val .nilFunc] := by kernel_rfl
@[go_sem] theorem Try.ty.el96 : Go.Ab.elemOf Try.prog 96 = none := by kernel_rfl
@[go_sem] theorem Try.ty.sz97 : Go.Ab.szOf Try.prog 97 = 1 := by kernel_rfl
@[go_sem] theorem Try.ty.ag97 : Go.Ab.aggO Try.prog 97 = some false := by kernel_rfl
@[go_sem] theorem Try.ty.ze97 : Go.Ab.zeroD Try.prog 97 = some [.val .nilFunc] := by kernel_rfl
@[go_sem] theorem Try.ty.el97 : Go.Ab.elemOf Try.prog 97 = none := by kernel_rfl
@[go_sem] theorem Try.ty.sz98 : Go.Ab.szOf Try.prog 98 = 1 := by kernel_rfl
@[go_sem] theorem Try.ty.ag98 : Go.Ab.aggO Try.prog 98 = some false := by kernel_rfl
@[go_sem] theorem Try.ty.ze98 : Go.Ab.zeroD Try.prog 98 = some [.val .nilFunc] := by kernel_rfl
@[go_sem] theorem Try.ty.el98 : Go.Ab.elemOf Try.prog 98 = none := by kernel_rfl
@[go_sem] theorem Try.ty.sz99 : Go.Ab.szOf Try.prog 99 = 1 := by kernel_rfl
@[go_sem] theorem Try.ty.ag99 : Go.Ab.aggO Try.prog 99 = some false := by kernel_rfl
@[go_sem] theorem Try.ty.ze99 : Go.Ab.zeroD Try.prog 99 = some [.val .nilFunc] := by kernel_rfl
@[go_sem] theorem Try.ty.el99 : Go.Ab.elemOf Try.prog 99 = none := by kernel_rfl
@[go_sem] theorem Try.ty.sz100 : Go.Ab.szOf Try.prog 100 = 1 := by kernel_rfl
@[go_sem] theorem Try.ty.ag100 : Go.Ab.aggO Try.prog 100 = some false := by kernel_rfl
@[go_sem] theorem Try.ty.ze100 : Go.Ab.zeroD Try.prog 100 = some [.val .nilFunc] := by kernel_rfl
@[go_sem] theorem Try.ty.el100 : Go.Ab.elemOf Try.prog 100 = none := by kernel_rfl
@[go_sem] theorem Try.ty.sz101 : Go.Ab.szOf Try.prog 101 = 1 := by kernel_rfl
@[go_sem] theorem Try.ty.ag101 : Go.Ab.aggO Try.prog 101 = some false := by kernel_rfl
@[go_sem] theorem Try.ty.ze101 : Go.Ab.zeroD Try.prog 101 = some [.val .nilFunc] := by kernel_rfl
@[go_sem] theorem Try.ty.el101 : Go.Ab.elemOf Try.prog 101 = none := by kernel_rfl
@[go_sem] theorem Try.ty.sz102 : Go.Ab.szOf Try.prog 102 = 1 := by kernel_rfl
@[go_sem] theorem Try.ty.ag102 : Go.Ab.aggO Try.prog 102 = some false := by kernel_rfl
@[go_sem] theorem Try.ty.ze102 : Go.Ab.zeroD Try.prog 102 = some [.val .nilFunc] := by kernel_rfl
@[go_sem] theorem Try.ty.el102 : Go.Ab.elemOf Try.prog 102 = none := by kernel_rfl
@[go_sem] theorem Try.ty.sz104 : Go.Ab.szOf Try.prog 104 = 1 := by kernel_rfl
@[go_sem] theorem Try.ty.ag104 : Go.Ab.aggO Try.prog 104 = some false := by kernel_rfl
@[go_sem] theorem Try.ty.ze104 : Go.Ab.zeroD Try.prog 104 = some [.val .nilFunc] := by kernel_rfl
@[go_sem] theorem Try.ty.el104 : Go.Ab.elemOf Try.prog 104 = none := by kernel_rfl
@[go_sem] theorem Try.ty.sz105 : Go.Ab.szOf Try.prog 105 = 1 := by kernel_rfl
@[go_sem] theorem Try.ty.ag105 : Go.Ab.aggO Try.prog 105 = some false := by kernel_rfl
@[go_sem] theorem Try.ty.ze105 : Go.Ab.zeroD Try.prog 105 = some [.val .nilFunc] := by kernel_rfl
@[go_sem] theorem Try.ty.el105 : Go.Ab.elemOf Try.prog 105 = none := by kernel_rfl
@[go_sem] theorem Try.ty.sz106 : Go.Ab.szOf Try.prog 106 = 1 := by kernel_rfl
@[go_sem] theorem Try.ty.ag106 : Go.Ab.aggO Try.prog 106 = some false := by kernel_rfl
@[go_sem] theorem Try.ty.ze106 : Go.Ab.zeroD Try.prog 106 = some [.val .nilFunc] := by kernel_rfl
@[go_sem] theorem Try.ty.el106 : Go.Ab.elemOf Try.prog 106 = none := by kernel_rfl
@[go_sem] theorem Try.ty.sz107 : Go.Ab.szOf Try.prog 107 = 1 := by kernel_rfl
@[go_sem] theorem Try.ty.ag107 : Go.Ab.aggO Try.prog 107 = some false := by kernel_rfl
@[go_sem] theorem Try.ty.ze107 : Go.Ab.zeroD Try.prog 107 = some [.val .nilFunc] := by kernel_rfl
@[go_sem] theorem Try.ty.el107 : Go.Ab.elemOf Try.prog 107 = none := by kernel_rfl
@[go_sem] theorem Try.ty.sz108 : Go.Ab.szOf Try.prog 108 = 1 := by kernel_rfl
@[go_sem] theorem Try.ty.ag108 : Go.Ab.aggO Try.prog 108 = some false := by kernel_rfl
@[go_sem] theorem Try.ty.ze108 : Go.Ab.zeroD Try.prog 108 = some [.val .nilFunc] := by kernel_rfl
@[go_sem] theorem Try.ty.el108 : Go.Ab.elemOf Try.prog 108 = none := by kernel_rfl
@[go_sem] theorem Try.ty.sz109 : Go.Ab.szOf Try.prog 109 = 5 := by kernel_rfl
@[go_sem] theorem Try.ty.ag109 : Go.Ab.aggO Try.prog 109 = some true := by kernel_rfl
@[go_sem] theorem Try.ty.el109 : Go.Ab.elemOf Try.prog 109 = none := by kernel_rfl
@[go_sem] theorem Try.ty.by109 : Go.Ab.bytesOf Try.prog 109 = 104 := by kernel_rfl
@[go_sem] theorem Try.ty.st109 : Go.Ab.strTy Try.prog 109 = false := by kernel_rfl
@[go_sem] theorem Try.ty.ar109 : Go.Ab.arrOf Try.prog 109 = none := by kernel_rfl
@[go_sem] theorem Try.ty.ze109 : Go.Ab.zeroD Try.prog 109 = some [.int .i64 0, .val (.slice none 0 0), .val (.slice none 0 0), .val (.slice none 0 0), .val (.slice none 0 0)] := by kernel_rfl
@[go_sem] theorem Try.ty.fo109_0 : Go.Ab.fieldOff Try.prog 109 0 = some (0, 42) := by kernel_rfl
@[go_sem] theorem Try.ty.fo109_1 : Go.Ab.fieldOff Try.prog 109 1 = some (3, 43) := by kernel_rfl
@[go_sem] theorem Try.ty.fo109_2 : Go.Ab.fieldOff Try.prog 109 2 = some (4, 43) := by kernel_rfl
@[go_sem] theorem Try.ty.pl109 : Go.Ab.placeD Try.prog 109 = some fun i => ([(0, 3), (3, 1), (4, 1)] : List (Nat × Nat))[i]? := by kernel_rfl
@[go_sem] theorem Try.ty.sz110 : Go.Ab.szOf Try.prog 110 = 5 := by kernel_rfl
@[go_sem] theorem Try.ty.ag110 : Go.Ab.aggO Try.prog 110 = some true := by kernel_rfl
@[go_sem] theorem Try.ty.el110 : Go.Ab.elemOf Try.prog 110 = none := by kernel_rfl
@[go_sem] theorem Try.ty.by110 : Go.Ab.bytesOf Try.prog 110 = 104 := by kernel_rfl
@[go_sem] theorem Try.ty.st110 : Go.Ab.strTy Try.prog 110 = false := by kernel_rfl
@[go_sem] theorem Try.ty.ar110 : Go.Ab.arrOf Try.prog 110 = none := by kernel_rfl
@[go_sem] theorem Try.ty.ze110 : Go.Ab.zeroD Try.prog 110 = some [.int .i64 0, .val (.slice none 0 0), .val (.slice none 0 0), .val (.slice none 0 0), .val (.slice none 0 0)] := by kernel_rfl
@[go_sem] theorem Try.ty.fo110_0 : Go.Ab.fieldOff Try.prog 110 0 = some (0, 42) := by kernel_rfl
@[go_sem] theorem Try.ty.fo110_1 : Go.Ab.fieldOff Try.prog 110 1 = some (3, 43) := by kernel_rfl
@[go_sem] theorem Try.ty.fo110_2 : Go.Ab.fieldOff Try.prog 110 2 = some (4, 43) := by kernel_rfl
@[go_sem] theorem Try.ty.pl110 : Go.Ab.placeD Try.prog 110 = some fun i => ([(0, 3), (3, 1), (4, 1)] : List (Nat × Nat))[i]? := by kernel_rfl
@[go_sem] theorem Try.ty.sz111 : Go.Ab.szOf Try.prog 111 = 1 := by kernel_rfl
@[go_sem] theorem Try.ty.ag111 : Go.Ab.aggO Try.prog 111 = some false := by kernel_rfl
@[go_sem] theorem Try.ty.ze111 : Go.Ab.zeroD Try.prog 111 = some [.val .nilFunc] := by kernel_rfl
@[go_sem] theorem Try.ty.el111 : Go.Ab.elemOf Try.prog 111 = none := by kernel_rfl
@[go_sem] theorem Try.ty.sz112 : Go.Ab.szOf Try.prog 112 = 1 := by kernel_rfl
@[go_sem] theorem Try.ty.ag112 : Go.Ab.aggO Try.prog 112 = some false := by kernel_rfl
@[go_sem] theorem Try.ty.ze112 : Go.Ab.zeroD Try.prog 112 = some [.val .nilFunc] := by kernel_rfl
@[go_sem] theorem Try.ty.el112 : Go.Ab.elemOf Try.prog 112 = none := by kernel_rfl
@[go_sem] theorem Try.ty.sz113 : Go.Ab.szOf Try.prog 113 = 1 := by kernel_rfl
@[go_sem] theorem Try.ty.ag113 : Go.Ab.aggO Try.prog 113 = some false := by kernel_rfl
@[go_sem] theorem Try.ty.ze113 : Go.Ab.zeroD Try.prog 113 = some [.val .nilFunc] := by kernel_rfl
@[go_sem] theorem Try.ty.el113 : Go.Ab.elemOf Try.prog 113 = none := by kernel_rfl
@[go_sem] theorem Try.ty.sz114 : Go.Ab.szOf Try.prog 114 = 3 := by kernel_rfl
@[go_sem] theorem Try.ty.ag114 : Go.Ab.aggO Try.prog 114 = some true := by kernel_rfl
@[go_sem] theorem Try.ty.el114 : Go.Ab.elemOf Try.prog 114 = none := by kernel_rfl
@[go_sem] theorem Try.ty.by114 : Go.Ab.bytesOf Try.prog 114 = 56 := by kernel_rfl
@[go_sem] theorem Try.ty.st114 : Go.Ab.strTy Try.prog 114 = false := by kernel_rfl
@[go_sem] theorem Try.ty.ar114 : Go.Ab.arrOf Try.prog 114 = none := by kernel_rfl
@[go_sem] theorem Try.ty.ze114 : Go.Ab.zeroD Try.prog 114 = some [.val (.slice none 0 0), .val (.slice none 0 0), .int .i64 0] := by kernel_rfl
@[go_sem] theorem Try.ty.fo114_0 : Go.Ab.fieldOff Try.prog 114 0 = some (0, 22) := by kernel_rfl
@[go_sem] theorem Try.ty.fo114_1 : Go.Ab.fieldOff Try.prog 114 1 = some (1, 22) := by kernel_rfl
@[go_sem] theorem Try.ty.fo114_2 : Go.Ab.fieldOff Try.prog 114 2 = some (2, 3) := by kernel_rfl
@[go_sem] theorem Try.ty.pl114 : Go.Ab.placeD Try.prog 114 = some fun i => ([(0, 1), (1, 1), (2, 1)] : List (Nat × Nat))[i]? := by kernel_rfl
@[go_sem] theorem Try.ty.sz115 : Go.Ab.szOf Try.prog 115 = 3 := by kernel_rfl
@[go_sem] theorem Try.ty.ag115 : Go.Ab.aggO Try.prog 115 = some true := by kernel_rfl
@[go_sem] theorem Try.ty.el115 : Go.Ab.elemOf Try.prog 115 = none := by kernel_rfl
@[go_sem] theorem Try.ty.by115 : Go.Ab.bytesOf Try.prog 115 = 56 := by kernel_rfl
@[go_sem] theorem Try.ty.st115 : Go.Ab.strTy Try.prog 115 = false := by kernel_rfl
@[go_sem] theorem Try.ty.ar115 : Go.Ab.arrOf Try.prog 115 = none := by kernel_rfl
@[go_sem] theorem Try.ty.ze115 : Go.Ab.zeroD Try.prog 115 = some [.val (.slice none 0 0), .val (.slice none 0 0), .int .i64 0] := by kernel_rfl
@[go_sem] theorem Try.ty.fo115_0 : Go.Ab.fieldOff Try.prog 115 0 = some (0, 22) := by kernel_rfl
@[go_sem] theorem Try.ty.fo115_1 : Go.Ab.fieldOff Try.prog 115 1 = some (1, 22) := by kernel_rfl
@[go_sem] theorem Try.ty.fo115_2 : Go.Ab.fieldOff Try.prog 115 2 = some (2, 3) := by kernel_rfl
@[go_sem] theorem Try.ty.pl115 : Go.Ab.placeD Try.prog 115 = some fun i => ([(0, 1), (1, 1), (2, 1)] : List (Nat × Nat))[i]? := by kernel_rfl
@[go_sem] theorem Try.ty.sz116 : Go.Ab.szOf Try.prog 116 = 1 := by kernel_rfl
@[go_sem] theorem Try.ty.ag116 : Go.Ab.aggO Try.prog 116 = some false := by kernel_rfl
@[go_sem] theorem Try.ty.ze116 : Go.Ab.zeroD Try.prog 116 = some [.val .nilFunc] := by kernel_rfl
@[go_sem] theorem Try.ty.el116 : Go.Ab.elemOf Try.prog 116 = none := by kernel_rfl
@[go_sem] theorem Try.ty.sz117 : Go.Ab.szOf Try.prog 117 = 1 := by kernel_rfl
@[go_sem] theorem Try.ty.ag117 : Go.Ab.aggO Try.prog 117 = some false := by kernel_rfl
@[go_sem] theorem Try.ty.ze117 : Go.Ab.zeroD Try.prog 117 = some [.val .nilFunc] := by kernel_rfl
@[go_sem] theorem Try.ty.el117 : Go.Ab.elemOf Try.prog 117 = none := by kernel_rfl
@[go_sem] theorem Try.ty.sz118 : Go.Ab.szOf Try.prog 118 = 1 := by kernel_rfl
@[go_sem] theorem Try.ty.ag118 : Go.Ab.aggO Try.prog 118 = some false := by kernel_rfl
@[go_sem] theorem Try.ty.ze118 : Go.Ab.zeroD Try.prog 118 = some [.val .nilFunc] := by kernel_rfl
@[go_sem] theorem Try.ty.el118 : Go.Ab.elemOf Try.prog 118 = none := by kernel_rfl
@[go_sem] theorem Try.ty.sz119 : Go.Ab.szOf Try.prog 119 = 1 := by kernel_rfl
@[go_sem] theorem Try.ty.ag119 : Go.Ab.aggO Try.prog 119 = some false := by kernel_rfl
@[go_sem] theorem Try.ty.ze119 : Go.Ab.zeroD Try.prog 119 = some [.val .nilFunc] := by kernel_rfl
@[go_sem] theorem Try.ty.el119 : Go.Ab.elemOf Try.prog 119 = none := by kernel_rfl
@[go_sem] theorem Try.ty.sz120 : Go.Ab.szOf Try.prog 120 = 1 := by kernel_rfl
@[go_sem] theorem Try.ty.ag120 : Go.Ab.aggO Try.prog 120 = some false := by kernel_rfl
@[go_sem] theorem Try.ty.ze120 : Go.Ab.zeroD Try.prog 120 = some [.val .nilFunc] := by kernel_rfl
@[go_sem] theorem Try.ty.el120 : Go.Ab.elemOf Try.prog 120 = none := by kernel_rfl
@[go_sem] theorem Try.ty.sz121 : Go.Ab.szOf Try.prog 121 = 1 := by kernel_rfl
@[go_sem] theorem Try.ty.ag121 : Go.Ab.aggO Try.prog 121 = some false := by kernel_rfl
@[go_sem] theorem Try.ty.ze121 : Go.Ab.zeroD Try.prog 121 = some [.val .nilFunc] := by kernel_rfl
@[go_sem] theorem Try.ty.el121 : Go.Ab.elemOf Try.prog 121 = none := by kernel_rfl
@[go_sem] theorem Try.ty.sz122 : Go.Ab.szOf Try.prog 122 = 1 := by kernel_rfl
@[go_sem] theorem Try.ty.ag122 : Go.Ab.aggO Try.prog 122 = some false := by kernel_rfl
@[go_sem] theorem Try.ty.ze122 : Go.Ab.zeroD Try.prog 122 = some [.val .nilFunc] := by kernel_rfl
@[go_sem] theorem Try.ty.el122 : Go.Ab.elemOf Try.prog 122 = none := by kernel_rfl
@[go_sem] theorem Try.ty.sz123 : Go.Ab.szOf Try.prog 123 = 1 := by kernel_rfl
@[go_sem] theorem Try.ty.ag123 : Go.Ab.aggO Try.prog 123 = some false := by kernel_rfl
@[go_sem] theorem Try.ty.el123 : Go.Ab.elemOf Try.prog 123 = none := by kernel_rfl
@[go_sem] theorem Try.ty.by123 : Go.Ab.bytesOf Try.prog 123 = 8 := by kernel_rfl
@[go_sem] theorem Try.ty.st123 : Go.Ab.strTy Try.prog 123 = false := by kernel_rfl
@[go_sem] theorem Try.ty.ar123 : Go.Ab.arrOf Try.prog 123 = none := by kernel_rfl
@[go_sem] theorem Try.ty.mp123 : Go.Ab.mapOf Try.prog 123 = some (125, 3) := by kernel_rfl
@[go_sem] theorem Try.ty.zv123_3 : Go.Ab.zeroV Try.prog 3 = some (.int .i64 0) := by kernel_rfl
@[go_sem] theorem Try.ty.ky123 : Go.Ab.KeyOk Try.prog 125 true 4 := Go.Ab.key_arr (e := 3) (by kernel_rfl) (by kernel_rfl) (by kernel_rfl) (by kernel_rfl)
@[go_sem] theorem Try.ty.ze123 : Go.Ab.zeroD Try.prog 123 = some [.val (.map none)] := by kernel_rfl
@[go_sem] theorem Try.ty.sz124 : Go.Ab.szOf Try.prog 124 = 4 := by kernel_rfl
@[go_sem] theorem Try.ty.ag124 : Go.Ab.aggO Try.prog 124 = some true := by kernel_rfl
@[go_sem] theorem Try.ty.el124 : Go.Ab.elemOf Try.prog 124 = none := by kernel_rfl
@[go_sem] theorem Try.ty.by124 : Go.Ab.bytesOf Try.prog 124 = 32 := by kernel_rfl
@[go_sem] theorem Try.ty.st124 : Go.Ab.strTy Try.prog 124 = false := by kernel_rfl
@[go_sem] theorem Try.ty.ar124 : Go.Ab.arrOf Try.prog 124 = some (4, 3) := by kernel_rfl
@[go_sem] theorem Try.ty.ze124 : Go.Ab.zeroD Try.prog 124 = some [.int .i64 0, .int .i64 0, .int .i64 0, .int .i64 0] := by kernel_rfl
@[go_sem] theorem Try.ty.pl124 : Go.Ab.placeD Try.prog 124 = some fun i => some (i * 1, 1) := by kernel_rfl
@[go_sem] theorem Try.ty.sz125 : Go.Ab.szOf Try.prog 125 = 4 := by kernel_rfl
@[go_sem] theorem Try.ty.ag125 : Go.Ab.aggO Try.prog 125 = some true := by kernel_rfl
@[go_sem] theorem Try.ty.el125 : Go.Ab.elemOf Try.prog 125 = none := by kernel_rfl
@[go_sem] theorem Try.ty.by125 : Go.Ab.bytesOf Try.prog 125 = 32 := by kernel_rfl
@[go_sem] theorem Try.ty.st125 : Go.Ab.strTy Try.prog 125 = false := by kernel_rfl
@[go_sem] theorem Try.ty.ar125 : Go.Ab.arrOf Try.prog 125 = some (4, 3) := by kernel_rfl
@[go_sem] theorem Try.ty.ze125 : Go.Ab.zeroD Try.prog 125 = some [.int .i64 0, .int .i64 0, .int .i64 0, .int .i64 0] := by kernel_rfl
@[go_sem] theorem Try.ty.pl125 : Go.Ab.placeD Try.prog 125 = some fun i => some (i * 1, 1) := by kernel_rfl
@[go_sem] theorem Try.ty.sz126 : Go.Ab.szOf Try.prog 126 = 1 := by kernel_rfl
@[go_sem] theorem Try.ty.ag126 : Go.Ab.aggO Try.prog 126 = some false := by kernel_rfl
@[go_sem] theorem Try.ty.ze126 : Go.Ab.zeroD Try.prog 126 = some [.val .nilFunc] := by kernel_rfl
@[go_sem] theorem Try.ty.el126 : Go.Ab.elemOf Try.prog 126 = none := by kernel_rfl
@[go_sem] theorem Try.ty.sz127 : Go.Ab.szOf Try.prog 127 = 1 := by kernel_rfl
@[go_sem] theorem Try.ty.ag127 : Go.Ab.aggO Try.prog 127 = some false := by kernel_rfl
@[go_sem] theorem Try.ty.ze127 : Go.Ab.zeroD Try.prog 127 = some [.val .nilFunc] := by kernel_rfl
@[go_sem] theorem Try.ty.el127 : Go.Ab.elemOf Try.prog 127 = none := by kernel_rfl
@[go_sem] theorem Try.ty.sz128 : Go.Ab.szOf Try.prog 128 = 1 := by kernel_rfl
@[go_sem] theorem Try.ty.ag128 : Go.Ab.aggO Try.prog 128 = some false := by kernel_rfl
@[go_sem] theorem Try.ty.el128 : Go.Ab.elemOf Try.prog 128 = none := by kernel_rfl
@[go_sem] theorem Try.ty.by128 : Go.Ab.bytesOf Try.prog 128 = 8 := by kernel_rfl
@[go_sem] theorem Try.ty.st128 : Go.Ab.strTy Try.prog 128 = false := by kernel_rfl
@[go_sem] theorem Try.ty.in128 : Go.Ab.intOfTy Try.prog 128 = some .u64 := by kernel_rfl
@[go_sem] theorem Try.ty.ar128 : Go.Ab.arrOf Try.prog 128 = none := by kernel_rfl
@[go_sem] theorem Try.ty.ze128 : Go.Ab.zeroD Try.prog 128 = some [.int .u64 0] := by kernel_rfl
@[go_sem] theorem Try.ty.sz130 : Go.Ab.szOf Try.prog 130 = 1 := by kernel_rfl
@[go_sem] theorem Try.ty.ag130 : Go.Ab.aggO Try.prog 130 = some false := by kernel_rfl
@[go_sem] theorem Try.ty.ze130 : Go.Ab.zeroD Try.prog 130 = some [.val .nilFunc] := by kernel_rfl
@[go_sem] theorem Try.ty.el130 : Go.Ab.elemOf Try.prog 130 = none := by kernel_rfl
@[go_sem] theorem Try.ty.sz131 : Go.Ab.szOf Try.prog 131 = 2 := by kernel_rfl
@[go_sem] theorem Try.ty.ag131 : Go.Ab.aggO Try.prog 131 = some true := by kernel_rfl
@[go_sem] theorem Try.ty.el131 : Go.Ab.elemOf Try.prog 131 = none := by kernel_rfl
@[go_sem] theorem Try.ty.by131 : Go.Ab.bytesOf Try.prog 131 = 16 := by kernel_rfl
@[go_sem] theorem Try.ty.st131 : Go.Ab.strTy Try.prog 131 = false := by kernel_rfl
@[go_sem] theorem Try.ty.ar131 : Go.Ab.arrOf Try.prog 131 = some (2, 3) := by kernel_rfl
@[go_sem] theorem Try.ty.ze131 : Go.Ab.zeroD Try.prog 131 = some [.int .i64 0, .int .i64 0] := by kernel_rfl
@[go_sem] theorem Try.ty.pl131 : Go.Ab.placeD Try.prog 131 = some fun i => some (i * 1, 1) := by kernel_rfl
@[go_sem] theorem Try.ty.sz132 : Go.Ab.szOf Try.prog 132 = 2 := by kernel_rfl
@[go_sem] theorem Try.ty.ag132 : Go.Ab.aggO Try.prog 132 = some true := by kernel_rfl
@[go_sem] theorem Try.ty.el132 : Go.Ab.elemOf Try.prog 132 = none := by kernel_rfl
@[go_sem] theorem Try.ty.by132 : Go.Ab.bytesOf Try.prog 132 = 16 := by kernel_rfl
@[go_sem] theorem Try.ty.st132 : Go.Ab.strTy Try.prog 132 = false := by kernel_rfl
@[go_sem] theorem Try.ty.ar132 : Go.Ab.arrOf Try.prog 132 = some (2, 118) := by kernel_rfl
@[go_sem] theorem Try.ty.ze132 : Go.Ab.zeroD Try.prog 132 = some [.val .nilFunc, .val .nilFunc] := by kernel_rfl
@[go_sem] theorem Try.ty.pl132 : Go.Ab.placeD Try.prog 132 = some fun i => some (i * 1, 1) := by kernel_rfl
@[go_sem] theorem Try.ty.sz133 : Go.Ab.szOf Try.prog 133 = 1 := by kernel_rfl
@[go_sem] theorem Try.ty.ag133 : Go.Ab.aggO Try.prog 133 = some false := by kernel_rfl
@[go_sem] theorem Try.ty.ze133 : Go.Ab.zeroD Try.prog 133 = some [.val .nilFunc] := by kernel_rfl
@[go_sem] theorem Try.ty.el133 : Go.Ab.elemOf Try.prog 133 = none := by kernel_rfl
@[go_sem] theorem Try.ty.sz135 : Go.Ab.szOf Try.prog 135 = 1 := by kernel_rfl
@[go_sem] theorem Try.ty.ag135 : Go.Ab.aggO Try.prog 135 = some false := by kernel_rfl
@[go_sem] theorem Try.ty.ze135 : Go.Ab.zeroD Try.prog 135 = some [.val .nilFunc] := by kernel_rfl
@[go_sem] theorem Try.ty.el135 : Go.Ab.elemOf Try.prog 135 = none := by kernel_rfl
@[go_sem] theorem Try.ty.sz136 : Go.Ab.szOf Try.prog 136 = 1 := by kernel_rfl
@[go_sem] theorem Try.ty.ag136 : Go.Ab.aggO Try.prog 136 = some false := by kernel_rfl
@[go_sem] theorem Try.ty.ze136 : Go.Ab.zeroD Try.prog 136 = some [.val .nilFunc] := by kernel_rfl
@[go_sem] theorem Try.ty.el136 : Go.Ab.elemOf Try.prog 136 = none := by kernel_rfl
@[go_sem] theorem Try.ty.sz137 : Go.Ab.szOf Try.prog 137 = 1 := by kernel_rfl
@[go_sem] theorem Try.ty.ag137 : Go.Ab.aggO Try.prog 137 = some false := by kernel_rfl
@[go_sem] theorem Try.ty.ze137 : Go.Ab.zeroD Try.prog 137 = some [.val .nilFunc] := by kernel_rfl
@[go_sem] theorem Try.ty.el137 : Go.Ab.elemOf Try.prog 137 = none := by kernel_rfl
@[go_sem] theorem Try.ty.sz138 : Go.Ab.szOf Try.prog 138 = 1 := by kernel_rfl
@[go_sem] theorem Try.ty.ag138 : Go.Ab.aggO Try.prog 138 = some false := by kernel_rfl
@[go_sem] theorem Try.ty.ze138 : Go.Ab.zeroD Try.prog 138 = some [.val .nilFunc] := by kernel_rfl
@[go_sem] theorem Try.ty.el138 : Go.Ab.elemOf Try.prog 138 = none := by kernel_rfl
@[go_sem] theorem Try.ty.sz139 : Go.Ab.szOf Try.prog 139 = 1 := by kernel_rfl
@[go_sem] theorem Try.ty.ag139 : Go.Ab.aggO Try.prog 139 = some false := by kernel_rfl
@[go_sem] theorem Try.ty.ze139 : Go.Ab.zeroD Try.prog 139 = some [.val .nilFunc] := by kernel_rfl
@[go_sem] theorem Try.ty.el139 : Go.Ab.elemOf Try.prog 139 = none := by kernel_rfl
@[go_sem] theorem Try.ty.sz140 : Go.Ab.szOf Try.prog 140 = 1 := by kernel_rfl
@[go_sem] theorem Try.ty.ag140 : Go.Ab.aggO Try.prog 140 = some false := by kernel_rfl
@[go_sem] theorem Try.ty.el140 : Go.Ab.elemOf Try.prog 140 = none := by kernel_rfl
@[go_sem] theorem Try.ty.by140 : Go.Ab.bytesOf Try.prog 140 = 4 := by kernel_rfl
@[go_sem] theorem Try.ty.st140 : Go.Ab.strTy Try.prog 140 = false := by kernel_rfl
@[go_sem] theorem Try.ty.in140 : Go.Ab.intOfTy Try.prog 140 = some .u32 := by kernel_rfl
@[go_sem] theorem Try.ty.ar140 : Go.Ab.arrOf Try.prog 140 = none := by kernel_rfl
@[go_sem] theorem Try.ty.ze140 : Go.Ab.zeroD Try.prog 140 = some [.int .u32 0] := by kernel_rfl
@[go_sem] theorem Try.ty.sz142 : Go.Ab.szOf Try.prog 142 = 1 := by kernel_rfl
@[go_sem] theorem Try.ty.ag142 : Go.Ab.aggO Try.prog 142 = some false := by kernel_rfl
@[go_sem] theorem Try.ty.ze142 : Go.Ab.zeroD Try.prog 142 = some [.val .nilFunc] := by kernel_rfl
@[go_sem] theorem Try.ty.el142 : Go.Ab.elemOf Try.prog 142 = none := by kernel_rfl
@[go_sem] theorem Try.ty.sz143 : Go.Ab.szOf Try.prog 143 = 1 := by kernel_rfl
@[go_sem] theorem Try.ty.ag143 : Go.Ab.aggO Try.prog 143 = some false := by kernel_rfl
@[go_sem] theorem Try.ty.el143 : Go.Ab.elemOf Try.prog 143 = none := by kernel_rfl
@[go_sem] theorem Try.ty.by143 : Go.Ab.bytesOf Try.prog 143 = 8 := by kernel_rfl
@[go_sem] theorem Try.ty.st143 : Go.Ab.strTy Try.prog 143 = false := by kernel_rfl
@[go_sem] theorem Try.ty.in143 : Go.Ab.intOfTy Try.prog 143 = some .u64 := by kernel_rfl
@[go_sem] theorem Try.ty.ar143 : Go.Ab.arrOf Try.prog 143 = none := by kernel_rfl
@[go_sem] theorem Try.ty.ze143 : Go.Ab.zeroD Try.prog 143 = some [.int .u64 0] := by kernel_rfl
@[go_sem] theorem Try.ty.sz145 : Go.Ab.szOf Try.prog 145 = 1 := by kernel_rfl
@[go_sem] theorem Try.ty.ag145 : Go.Ab.aggO Try.prog 145 = some false := by kernel_rfl
@[go_sem] theorem Try.ty.ze145 : Go.Ab.zeroD Try.prog 145 = some [.val .nilFunc] := by kernel_rfl
@[go_sem] theorem Try.ty.el145 : Go.Ab.elemOf Try.prog 145 = none := by kernel_rfl
@[go_sem] theorem Try.ty.sz146 : Go.Ab.szOf Try.prog 146 = 1 := by kernel_rfl
@[go_sem] theorem Try.ty.ag146 : Go.Ab.aggO Try.prog 146 = some false := by kernel_rfl
@[go_sem] theorem Try.ty.ze146 : Go.Ab.zeroD Try.prog 146 = some [.val .nilFunc] := by kernel_rfl
@[go_sem] theorem Try.ty.el146 : Go.Ab.elemOf Try.prog 146 = none := by kernel_rfl
@[go_sem] theorem Try.ty.sz147 : Go.Ab.szOf Try.prog 147 = 1 := by kernel_rfl
@[go_sem] theorem Try.ty.ag147 : Go.Ab.aggO Try.prog 147 = some false := by kernel_rfl
@[go_sem] theorem Try.ty.ze147 : Go.Ab.zeroD Try.prog 147 = some [.val .nilFunc] := by kernel_rfl
@[go_sem] theorem Try.ty.el147 : Go.Ab.elemOf Try.prog 147 = none := by kernel_rfl
@[go_sem] theorem Try.ty.sz148 : Go.Ab.szOf Try.prog 148 = 1 := by kernel_rfl
@[go_sem] theorem Try.ty.ag148 : Go.Ab.aggO Try.prog 148 = some false := by kernel_rfl
@[go_sem] theorem Try.ty.ze148 : Go.Ab.zeroD Try.prog 148 = some [.val .nilFunc] := by kernel_rfl
@[go_sem] theorem Try.ty.el148 : Go.Ab.elemOf Try.prog 148 = none := by kernel_rfl
@[go_sem] theorem Try.ty.sz149 : Go.Ab.szOf Try.prog 149 = 1 := by kernel_rfl
@[go_sem] theorem Try.ty.ag149 : Go.Ab.aggO Try.prog 149 = some false := by kernel_rfl
@[go_sem] theorem Try.ty.ze149 : Go.Ab.zeroD Try.prog 149 = some [.val .nilFunc] := by kernel_rfl
@[go_sem] theorem Try.ty.el149 : Go.Ab.elemOf Try.prog 149 = none := by kernel_rfl
@[go_sem] theorem Try.ty.sz150 : Go.Ab.szOf Try.prog 150 = 4 := by kernel_rfl
@[go_sem] theorem Try.ty.ag150 : Go.Ab.aggO Try.prog 150 = some true := by kernel_rfl
@[go_sem] theorem Try.ty.el150 : Go.Ab.elemOf Try.prog 150 = none := by kernel_rfl
@[go_sem] theorem Try.ty.by150 : Go.Ab.bytesOf Try.prog 150 = 40 := by kernel_rfl
@[go_sem] theorem Try.ty.st150 : Go.Ab.strTy Try.prog 150 = false := by kernel_rfl
@[go_sem] theorem Try.ty.ar150 : Go.Ab.arrOf Try.prog 150 = none := by kernel_rfl
@[go_sem] theorem Try.ty.ze150 : Go.Ab.zeroD Try.prog 150 = some [.val (.pointer none), .val (.pointer none), .val (.pointer none), .str ⟨#[]⟩] := by kernel_rfl
@[go_sem] theorem Try.ty.fo150_0 : Go.Ab.fieldOff Try.prog 150 0 = some (0, 17) := by kernel_rfl
@[go_sem] theorem Try.ty.fo150_1 : Go.Ab.fieldOff Try.prog 150 1 = some (1, 17) := by kernel_rfl
@[go_sem] theorem Try.ty.fo150_2 : Go.Ab.fieldOff Try.prog 150 2 = some (2, 17) := by kernel_rfl
@[go_sem] theorem Try.ty.fo150_3 : Go.Ab.fieldOff Try.prog 150 3 = some (3, 9) := by kernel_rfl
@[go_sem] theorem Try.ty.pl150 : Go.Ab.placeD Try.prog 150 = some fun i => ([(0, 1), (1, 1), (2, 1), (3, 1)] : List (Nat × Nat))[i]? := by kernel_rfl
@[go_sem] theorem Try.ty.sz151 : Go.Ab.szOf Try.prog 151 = 4 := by kernel_rfl
@[go_sem] theorem Try.ty.ag151 : Go.Ab.aggO Try.prog 151 = some true := by kernel_rfl
@[go_sem] theorem Try.ty.el151 : Go.Ab.elemOf Try.prog 151 = none := by kernel_rfl
@[go_sem] theorem Try.ty.by151 : Go.Ab.bytesOf Try.prog 151 = 40 := by kernel_rfl
@[go_sem] theorem Try.ty.st151 : Go.Ab.strTy Try.prog 151 = false := by kernel_rfl
@[go_sem] theorem Try.ty.ar151 : Go.Ab.arrOf Try.prog 151 = none := by kernel_rfl
@[go_sem] theorem Try.ty.ze151 : Go.Ab.zeroD Try.prog 151 = some [.val (.pointer none), .val (.pointer none), .val (.pointer none), .str ⟨#[]⟩] := by kernel_rfl
@[go_sem] theorem Try.ty.fo151_0 : Go.Ab.fieldOff Try.prog 151 0 = some (0, 17) := by kernel_rfl
@[go_sem] theorem Try.ty.fo151_1 : Go.Ab.fieldOff Try.prog 151 1 = some (1, 17) := by kernel_rfl
@[go_sem] theorem Try.ty.fo151_2 : Go.Ab.fieldOff Try.prog 151 2 = some (2, 17) := by kernel_rfl
@[go_sem] theorem Try.ty.fo151_3 : Go.Ab.fieldOff Try.prog 151 3 = some (3, 9) := by kernel_rfl
@[go_sem] theorem Try.ty.pl151 : Go.Ab.placeD Try.prog 151 = some fun i => ([(0, 1), (1, 1), (2, 1), (3, 1)] : List (Nat × Nat))[i]? := by kernel_rfl
@[go_sem] theorem Try.ty.sz152 : Go.Ab.szOf Try.prog 152 = 0 := by kernel_rfl
@[go_sem] theorem Try.ty.ag152 : Go.Ab.aggO Try.prog 152 = some true := by kernel_rfl
@[go_sem] theorem Try.ty.el152 : Go.Ab.elemOf Try.prog 152 = none := by kernel_rfl
@[go_sem] theorem Try.ty.by152 : Go.Ab.bytesOf Try.prog 152 = 0 := by kernel_rfl
@[go_sem] theorem Try.ty.st152 : Go.Ab.strTy Try.prog 152 = false := by kernel_rfl
@[go_sem] theorem Try.ty.ar152 : Go.Ab.arrOf Try.prog 152 = some (0, 16) := by kernel_rfl
@[go_sem] theorem Try.ty.ze152 : Go.Ab.zeroD Try.prog 152 = some [] := by kernel_rfl
@[go_sem] theorem Try.ty.pl152 : Go.Ab.placeD Try.prog 152 = some fun i => some (i * 1, 1) := by kernel_rfl
@[go_sem] theorem Try.ty.sz153 : Go.Ab.szOf Try.prog 153 = 0 := by kernel_rfl
@[go_sem] theorem Try.ty.ag153 : Go.Ab.aggO Try.prog 153 = some true := by kernel_rfl
@[go_sem] theorem Try.ty.el153 : Go.Ab.elemOf Try.prog 153 = none := by kernel_rfl
@[go_sem] theorem Try.ty.by153 : Go.Ab.bytesOf Try.prog 153 = 0 := by kernel_rfl
@[go_sem] theorem Try.ty.st153 : Go.Ab.strTy Try.prog 153 = false := by kernel_rfl
@[go_sem] theorem Try.ty.ar153 : Go.Ab.arrOf Try.prog 153 = none := by kernel_rfl
@[go_sem] theorem Try.ty.ze153 : Go.Ab.zeroD Try.prog 153 = some [] := by kernel_rfl
@[go_sem] theorem Try.ty.pl153 : Go.Ab.placeD Try.prog 153 = some fun i => ([(0, 0)] : List (Nat × Nat))[i]? := by kernel_rfl
@[go_sem] theorem Try.ty.sz154 : Go.Ab.szOf Try.prog 154 = 0 := by kernel_rfl
@[go_sem] theorem Try.ty.ag154 : Go.Ab.aggO Try.prog 154 = some true := by kernel_rfl
@[go_sem] theorem Try.ty.el154 : Go.Ab.elemOf Try.prog 154 = none := by kernel_rfl
@[go_sem] theorem Try.ty.by154 : Go.Ab.bytesOf Try.prog 154 = 0 := by kernel_rfl
@[go_sem] theorem Try.ty.st154 : Go.Ab.strTy Try.prog 154 = false := by kernel_rfl
@[go_sem] theorem Try.ty.ar154 : Go.Ab.arrOf Try.prog 154 = none := by kernel_rfl
@[go_sem] theorem Try.ty.ze154 : Go.Ab.zeroD Try.prog 154 = some [] := by kernel_rfl
@[go_sem] theorem Try.ty.pl154 : Go.Ab.placeD Try.prog 154 = some fun i => ([(0, 0)] : List (Nat × Nat))[i]? := by kernel_rfl
@[go_sem] theorem Try.ty.sz155 : Go.Ab.szOf Try.prog 155 = 1 := by kernel_rfl
@[go_sem] theorem Try.ty.ag155 : Go.Ab.aggO Try.prog 155 = some false := by kernel_rfl
@[go_sem] theorem Try.ty.ze155 : Go.Ab.zeroD Try.prog 155 = some [.val .nilFunc] := by kernel_rfl
@[go_sem] theorem Try.ty.el155 : Go.Ab.elemOf Try.prog 155 = none := by kernel_rfl
@[go_sem] theorem Try.ty.sz156 : Go.Ab.szOf Try.prog 156 = 1 := by kernel_rfl
@[go_sem] theorem Try.ty.ag156 : Go.Ab.aggO Try.prog 156 = some false := by kernel_rfl
@[go_sem] theorem Try.ty.el156 : Go.Ab.elemOf Try.prog 156 = none := by kernel_rfl
@[go_sem] theorem Try.ty.by156 : Go.Ab.bytesOf Try.prog 156 = 1 := by kernel_rfl
@[go_sem] theorem Try.ty.st156 : Go.Ab.strTy Try.prog 156 = false := by kernel_rfl
@[go_sem] theorem Try.ty.in156 : Go.Ab.intOfTy Try.prog 156 = some .u8 := by kernel_rfl
@[go_sem] theorem Try.ty.ar156 : Go.Ab.arrOf Try.prog 156 = none := by kernel_rfl
@[go_sem] theorem Try.ty.ze156 : Go.Ab.zeroD Try.prog 156 = some [.int .u8 0] := by kernel_rfl
@[go_sem] theorem Try.ty.sz157 : Go.Ab.szOf Try.prog 157 = 1 := by kernel_rfl
@[go_sem] theorem Try.ty.ag157 : Go.Ab.aggO Try.prog 157 = some false := by kernel_rfl
@[go_sem] theorem Try.ty.el157 : Go.Ab.elemOf Try.prog 157 = none := by kernel_rfl
@[go_sem] theorem Try.ty.by157 : Go.Ab.bytesOf Try.prog 157 = 1 := by kernel_rfl
@[go_sem] theorem Try.ty.st157 : Go.Ab.strTy Try.prog 157 = false := by kernel_rfl
@[go_sem] theorem Try.ty.in157 : Go.Ab.intOfTy Try.prog 157 = some .u8 := by kernel_rfl
@[go_sem] theorem Try.ty.ar157 : Go.Ab.arrOf Try.prog 157 = none := by kernel_rfl
@[go_sem] theorem Try.ty.ze157 : Go.Ab.zeroD Try.prog 157 = some [.int .u8 0] := by kernel_rfl
@[go_sem] theorem Try.ty.sz158 : Go.Ab.szOf Try.prog 158 = 1 := by kernel_rfl
@[go_sem] theorem Try.ty.ag158 : Go.Ab.aggO Try.prog 158 = some false := by kernel_rfl
@[go_sem] theorem Try.ty.ze158 : Go.Ab.zeroD Try.prog 158 = some [.val .nilFunc] := by kernel_rfl
@[go_sem] theorem Try.ty.el158 : Go.Ab.elemOf Try.prog 158 = none := by kernel_rfl
@[go_sem] theorem Try.ty.sz159 : Go.Ab.szOf Try.prog 159 = 1 := by kernel_rfl
@[go_sem] theorem Try.ty.ag159 : Go.Ab.aggO Try.prog 159 = some false := by kernel_rfl
@[go_sem] theorem Try.ty.el159 : Go.Ab.elemOf Try.prog 159 = none := by kernel_rfl
@[go_sem] theorem Try.ty.by159 : Go.Ab.bytesOf Try.prog 159 = 8 := by kernel_rfl
@[go_sem] theorem Try.ty.st159 : Go.Ab.strTy Try.prog 159 = false := by kernel_rfl
@[go_sem] theorem Try.ty.ar159 : Go.Ab.arrOf Try.prog 159 = none := by kernel_rfl
@[go_sem] theorem Try.ty.ze159 : Go.Ab.zeroD Try.prog 159 = some [.val (.pointer none)] := by kernel_rfl
@[go_sem] theorem Try.ty.sz160 : Go.Ab.szOf Try.prog 160 = 1 := by kernel_rfl
@[go_sem] theorem Try.ty.ag160 : Go.Ab.aggO Try.prog 160 = some false := by kernel_rfl
@[go_sem] theorem Try.ty.el160 : Go.Ab.elemOf Try.prog 160 = none := by kernel_rfl
@[go_sem] theorem Try.ty.by160 : Go.Ab.bytesOf Try.prog 160 = 4 := by kernel_rfl
@[go_sem] theorem Try.ty.st160 : Go.Ab.strTy Try.prog 160 = false := by kernel_rfl
@[go_sem] theorem Try.ty.in160 : Go.Ab.intOfTy Try.prog 160 = some .i32 := by kernel_rfl
@[go_sem] theorem Try.ty.ar160 : Go.Ab.arrOf Try.prog 160 = none := by kernel_rfl
@[go_sem] theorem Try.ty.ze160 : Go.Ab.zeroD Try.prog 160 = some [.int .i32 0] := by kernel_rfl
@[go_sem] theorem Try.ty.sz161 : Go.Ab.szOf Try.prog 161 = 1 := by kernel_rfl
@[go_sem] theorem Try.ty.ag161 : Go.Ab.aggO Try.prog 161 = some false := by kernel_rfl
@[go_sem] theorem Try.ty.el161 : Go.Ab.elemOf Try.prog 161 = none := by kernel_rfl
@[go_sem] theorem Try.ty.by161 : Go.Ab.bytesOf Try.prog 161 = 4 := by kernel_rfl
@[go_sem] theorem Try.ty.st161 : Go.Ab.strTy Try.prog 161 = false := by kernel_rfl
@[go_sem] theorem Try.ty.in161 : Go.Ab.intOfTy Try.prog 161 = some .i32 := by kernel_rfl
@[go_sem] theorem Try.ty.ar161 : Go.Ab.arrOf Try.prog 161 = none := by kernel_rfl
@[go_sem] theorem Try.ty.ze161 : Go.Ab.zeroD Try.prog 161 = some [.int .i32 0] := by kernel_rfl
@[go_sem] theorem Try.ty.sz162 : Go.Ab.szOf Try.prog 162 = 11 := by kernel_rfl
@[go_sem] theorem Try.ty.ag162 : Go.Ab.aggO Try.prog 162 = some true := by kernel_rfl
@[go_sem] theorem Try.ty.el162 : Go.Ab.elemOf Try.prog 162 = none := by kernel_rfl
@[go_sem] theorem Try.ty.by162 : Go.Ab.bytesOf Try.prog 162 = 48 := by kernel_rfl
@[go_sem] theorem Try.ty.st162 : Go.Ab.strTy Try.prog 162 = false := by kernel_rfl
@[go_sem] theorem Try.ty.ar162 : Go.Ab.arrOf Try.prog 162 = none := by kernel_rfl
@[go_sem] theorem Try.ty.ze162 : Go.Ab.zeroD Try.prog 162 = some [.int .u64 0, .int .u64 0, .int .u32 0, .int .u8 0, .int .u8 0, .int .u8 0, .int .u8 0, .val .nilFunc, .val (.pointer none), .int .i32 0, .int .i32 0] := by kernel_rfl
@[go_sem] theorem Try.ty.fo162_0 : Go.Ab.fieldOff Try.prog 162 0 = some (0, 12) := by kernel_rfl
@[go_sem] theorem Try.ty.fo162_1 : Go.Ab.fieldOff Try.prog 162 1 = some (1, 12) := by kernel_rfl
@[go_sem] theorem Try.ty.fo162_2 : Go.Ab.fieldOff Try.prog 162 2 = some (2, 140) := by kernel_rfl
@[go_sem] theorem Try.ty.fo162_3 : Go.Ab.fieldOff Try.prog 162 3 = some (3, 156) := by kernel_rfl
@[go_sem] theorem Try.ty.fo162_4 : Go.Ab.fieldOff Try.prog 162 4 = some (4, 5) := by kernel_rfl
@[go_sem] theorem Try.ty.fo162_5 : Go.Ab.fieldOff Try.prog 162 5 = some (5, 5) := by kernel_rfl
@[go_sem] theorem Try.ty.fo162_6 : Go.Ab.fieldOff Try.prog 162 6 = some (6, 157) := by kernel_rfl
@[go_sem] theorem Try.ty.fo162_7 : Go.Ab.fieldOff Try.prog 162 7 = some (7, 158) := by kernel_rfl
@[go_sem] theorem Try.ty.fo162_8 : Go.Ab.fieldOff Try.prog 162 8 = some (8, 159) := by kernel_rfl
@[go_sem] theorem Try.ty.fo162_9 : Go.Ab.fieldOff Try.prog 162 9 = some (9, 160) := by kernel_rfl
@[go_sem] theorem Try.ty.fo162_10 : Go.Ab.fieldOff Try.prog 162 10 = some (10, 161) := by kernel_rfl
@[go_sem] theorem Try.ty.pl162 : Go.Ab.placeD Try.prog 162 = some fun i => ([(0, 1), (1, 1), (2, 1), (3, 1), (4, 1), (5, 1), (6, 1), (7, 1), (8, 1), (9, 1), (10, 1)] : List (Nat × Nat))[i]? := by kernel_rfl
@[go_sem] theorem Try.ty.sz163 : Go.Ab.szOf Try.prog 163 = 11 := by kernel_rfl
@[go_sem] theorem Try.ty.ag163 : Go.Ab.aggO Try.prog 163 = some true := by kernel_rfl
@[go_sem] theorem Try.ty.el163 : Go.Ab.elemOf Try.prog 163 = none := by kernel_rfl
@[go_sem] theorem Try.ty.by163 : Go.Ab.bytesOf Try.prog 163 = 48 := by kernel_rfl
@[go_sem] theorem Try.ty.st163 : Go.Ab.strTy Try.prog 163 = false := by kernel_rfl
@[go_sem] theorem Try.ty.ar163 : Go.Ab.arrOf Try.prog 163 = none := by kernel_rfl
@[go_sem] theorem Try.ty.ze163 : Go.Ab.zeroD Try.prog 163 = some [.int .u64 0, .int .u64 0, .int .u32 0, .int .u8 0, .int .u8 0, .int .u8 0, .int .u8 0, .val .nilFunc, .val (.pointer none), .int .i32 0, .int .i32 0] := by kernel_rfl
@[go_sem] theorem Try.ty.fo163_0 : Go.Ab.fieldOff Try.prog 163 0 = some (0, 12) := by kernel_rfl
@[go_sem] theorem Try.ty.fo163_1 : Go.Ab.fieldOff Try.prog 163 1 = some (1, 12) := by kernel_rfl
@[go_sem] theorem Try.ty.fo163_2 : Go.Ab.fieldOff Try.prog 163 2 = some (2, 140) := by kernel_rfl
@[go_sem] theorem Try.ty.fo163_3 : Go.Ab.fieldOff Try.prog 163 3 = some (3, 156) := by kernel_rfl
@[go_sem] theorem Try.ty.fo163_4 : Go.Ab.fieldOff Try.prog 163 4 = some (4, 5) := by kernel_rfl
@[go_sem] theorem Try.ty.fo163_5 : Go.Ab.fieldOff Try.prog 163 5 = some (5, 5) := by kernel_rfl
@[go_sem] theorem Try.ty.fo163_6 : Go.Ab.fieldOff Try.prog 163 6 = some (6, 157) := by kernel_rfl
@[go_sem] theorem Try.ty.fo163_7 : Go.Ab.fieldOff Try.prog 163 7 = some (7, 158) := by kernel_rfl
@[go_sem] theorem Try.ty.fo163_8 : Go.Ab.fieldOff Try.prog 163 8 = some (8, 159) := by kernel_rfl
@[go_sem] theorem Try.ty.fo163_9 : Go.Ab.fieldOff Try.prog 163 9 = some (9, 160) := by kernel_rfl
@[go_sem] theorem Try.ty.fo163_10 : Go.Ab.fieldOff Try.prog 163 10 = some (10, 161) := by kernel_rfl
@[go_sem] theorem Try.ty.pl163 : Go.Ab.placeD Try.prog 163 = some fun i => ([(0, 1), (1, 1), (2, 1), (3, 1), (4, 1), (5, 1), (6, 1), (7, 1), (8, 1), (9, 1), (10, 1)] : List (Nat × Nat))[i]? := by kernel_rfl
theorem Try.ty.mixed : Try.prog.follows .mixedOrders = true := by kernel_rfl
end Go.Proofs.Ythamljpomhjepaa
