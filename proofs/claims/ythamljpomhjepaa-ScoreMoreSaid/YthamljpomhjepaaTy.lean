/- What the plain layer asks of the types of this translation. Printed by a program. -/
import Derived.Test.YthamljpomhjepaaAbI
import Derived.Test.YthamljpomhjepaaRows
namespace Go.Proofs.Ythamljpomhjepaa
open Go.Ab
@[go_sem] theorem Try.ty.sz1 : Go.Ab.szOf Try.prog 1 = 1 := by kernel_rfl
@[go_sem] theorem Try.ty.ag1 : Go.Ab.aggO Try.prog 1 = some false := by kernel_rfl
@[go_sem] theorem Try.ty.ze1 : Go.Ab.zeroD Try.prog 1 = some [.val .nilFunc] := by kernel_rfl
@[go_sem] theorem Try.ty.el1 : Go.Ab.elemOf Try.prog 1 = none := by kernel_rfl
@[go_sem] theorem Try.ty.sz2 : Go.Ab.szOf Try.prog 2 = 1 := by kernel_rfl
@[go_sem] theorem Try.ty.ag2 : Go.Ab.aggO Try.prog 2 = some false := by kernel_rfl
@[go_sem] theorem Try.ty.el2 : Go.Ab.elemOf Try.prog 2 = none := by kernel_rfl
@[go_sem] theorem Try.ty.by2 : Go.Ab.bytesOf Try.prog 2 = 8 := by kernel_rfl
@[go_sem] theorem Try.ty.st2 : Go.Ab.strTy Try.prog 2 = false := by kernel_rfl
@[go_sem] theorem Try.ty.in2 : Go.Ab.intOfTy Try.prog 2 = some .i64 := by kernel_rfl
@[go_sem] theorem Try.ty.ar2 : Go.Ab.arrOf Try.prog 2 = none := by kernel_rfl
@[go_sem] theorem Try.ty.ze2 : Go.Ab.zeroD Try.prog 2 = some [.int .i64 0] := by kernel_rfl
@[go_sem] theorem Try.ty.sz3 : Go.Ab.szOf Try.prog 3 = 1 := by kernel_rfl
@[go_sem] theorem Try.ty.ag3 : Go.Ab.aggO Try.prog 3 = some false := by kernel_rfl
@[go_sem] theorem Try.ty.el3 : Go.Ab.elemOf Try.prog 3 = none := by kernel_rfl
@[go_sem] theorem Try.ty.by3 : Go.Ab.bytesOf Try.prog 3 = 8 := by kernel_rfl
@[go_sem] theorem Try.ty.st3 : Go.Ab.strTy Try.prog 3 = false := by kernel_rfl
@[go_sem] theorem Try.ty.in3 : Go.Ab.intOfTy Try.prog 3 = some .i64 := by kernel_rfl
@[go_sem] theorem Try.ty.ar3 : Go.Ab.arrOf Try.prog 3 = none := by kernel_rfl
@[go_sem] theorem Try.ty.ze3 : Go.Ab.zeroD Try.prog 3 = some [.int .i64 0] := by kernel_rfl
@[go_sem] theorem Try.ty.sz4 : Go.Ab.szOf Try.prog 4 = 1 := by kernel_rfl
@[go_sem] theorem Try.ty.ag4 : Go.Ab.aggO Try.prog 4 = some false := by kernel_rfl
@[go_sem] theorem Try.ty.el4 : Go.Ab.elemOf Try.prog 4 = none := by kernel_rfl
@[go_sem] theorem Try.ty.by4 : Go.Ab.bytesOf Try.prog 4 = 1 := by kernel_rfl
@[go_sem] theorem Try.ty.st4 : Go.Ab.strTy Try.prog 4 = false := by kernel_rfl
@[go_sem] theorem Try.ty.ar4 : Go.Ab.arrOf Try.prog 4 = none := by kernel_rfl
@[go_sem] theorem Try.ty.ze4 : Go.Ab.zeroD Try.prog 4 = some [.bool false] := by kernel_rfl
@[go_sem] theorem Try.ty.sz9 : Go.Ab.szOf Try.prog 9 = 1 := by kernel_rfl
@[go_sem] theorem Try.ty.ag9 : Go.Ab.aggO Try.prog 9 = some false := by kernel_rfl
@[go_sem] theorem Try.ty.el9 : Go.Ab.elemOf Try.prog 9 = none := by kernel_rfl
@[go_sem] theorem Try.ty.by9 : Go.Ab.bytesOf Try.prog 9 = 16 := by kernel_rfl
@[go_sem] theorem Try.ty.st9 : Go.Ab.strTy Try.prog 9 = true := by kernel_rfl
@[go_sem] theorem Try.ty.ar9 : Go.Ab.arrOf Try.prog 9 = none := by kernel_rfl
@[go_sem] theorem Try.ty.ze9 : Go.Ab.zeroD Try.prog 9 = some [.str ⟨#[]⟩] := by kernel_rfl
@[go_sem] theorem Try.ty.sz22 : Go.Ab.szOf Try.prog 22 = 1 := by kernel_rfl
@[go_sem] theorem Try.ty.ag22 : Go.Ab.aggO Try.prog 22 = some false := by kernel_rfl
@[go_sem] theorem Try.ty.el22 : Go.Ab.elemOf Try.prog 22 = some 3 := by kernel_rfl
@[go_sem] theorem Try.ty.by22 : Go.Ab.bytesOf Try.prog 22 = 24 := by kernel_rfl
@[go_sem] theorem Try.ty.st22 : Go.Ab.strTy Try.prog 22 = false := by kernel_rfl
@[go_sem] theorem Try.ty.ze22 : Go.Ab.zeroD Try.prog 22 = some [.val (.slice none 0 0)] := by kernel_rfl
@[go_sem] theorem Try.ty.sz24 : Go.Ab.szOf Try.prog 24 = 1 := by kernel_rfl
@[go_sem] theorem Try.ty.ag24 : Go.Ab.aggO Try.prog 24 = some false := by kernel_rfl
@[go_sem] theorem Try.ty.el24 : Go.Ab.elemOf Try.prog 24 = none := by kernel_rfl
@[go_sem] theorem Try.ty.by24 : Go.Ab.bytesOf Try.prog 24 = 8 := by kernel_rfl
@[go_sem] theorem Try.ty.st24 : Go.Ab.strTy Try.prog 24 = false := by kernel_rfl
@[go_sem] theorem Try.ty.in24 : Go.Ab.intOfTy Try.prog 24 = some .i64 := by kernel_rfl
@[go_sem] theorem Try.ty.ar24 : Go.Ab.arrOf Try.prog 24 = none := by kernel_rfl
@[go_sem] theorem Try.ty.ze24 : Go.Ab.zeroD Try.prog 24 = some [.int .i64 0] := by kernel_rfl
@[go_sem] theorem Try.ty.sz29 : Go.Ab.szOf Try.prog 29 = 1 := by kernel_rfl
@[go_sem] theorem Try.ty.ag29 : Go.Ab.aggO Try.prog 29 = some false := by kernel_rfl
@[go_sem] theorem Try.ty.ze29 : Go.Ab.zeroD Try.prog 29 = some [.val .nilFunc] := by kernel_rfl
@[go_sem] theorem Try.ty.el29 : Go.Ab.elemOf Try.prog 29 = none := by kernel_rfl
@[go_sem] theorem Try.ty.sz30 : Go.Ab.szOf Try.prog 30 = 1 := by kernel_rfl
@[go_sem] theorem Try.ty.ag30 : Go.Ab.aggO Try.prog 30 = some false := by kernel_rfl
@[go_sem] theorem Try.ty.ze30 : Go.Ab.zeroD Try.prog 30 = some [.val .nilFunc] := by kernel_rfl
@[go_sem] theorem Try.ty.el30 : Go.Ab.elemOf Try.prog 30 = none := by kernel_rfl
@[go_sem] theorem Try.ty.sz36 : Go.Ab.szOf Try.prog 36 = 1 := by kernel_rfl
@[go_sem] theorem Try.ty.ag36 : Go.Ab.aggO Try.prog 36 = some false := by kernel_rfl
@[go_sem] theorem Try.ty.ze36 : Go.Ab.zeroD Try.prog 36 = some [.val .nilFunc] := by kernel_rfl
@[go_sem] theorem Try.ty.el36 : Go.Ab.elemOf Try.prog 36 = none := by kernel_rfl
@[go_sem] theorem Try.ty.sz38 : Go.Ab.szOf Try.prog 38 = 1 := by kernel_rfl
@[go_sem] theorem Try.ty.ag38 : Go.Ab.aggO Try.prog 38 = some false := by kernel_rfl
@[go_sem] theorem Try.ty.ze38 : Go.Ab.zeroD Try.prog 38 = some [.val .nilFunc] := by kernel_rfl
@[go_sem] theorem Try.ty.el38 : Go.Ab.elemOf Try.prog 38 = none := by kernel_rfl
@[go_sem] theorem Try.ty.sz40 : Go.Ab.szOf Try.prog 40 = 1 := by kernel_rfl
@[go_sem] theorem Try.ty.ag40 : Go.Ab.aggO Try.prog 40 = some false := by kernel_rfl
@[go_sem] theorem Try.ty.el40 : Go.Ab.elemOf Try.prog 40 = some 22 := by kernel_rfl
@[go_sem] theorem Try.ty.by40 : Go.Ab.bytesOf Try.prog 40 = 24 := by kernel_rfl
@[go_sem] theorem Try.ty.st40 : Go.Ab.strTy Try.prog 40 = false := by kernel_rfl
@[go_sem] theorem Try.ty.ze40 : Go.Ab.zeroD Try.prog 40 = some [.val (.slice none 0 0)] := by kernel_rfl
@[go_sem] theorem Try.ty.sz41 : Go.Ab.szOf Try.prog 41 = 3 := by kernel_rfl
@[go_sem] theorem Try.ty.ag41 : Go.Ab.aggO Try.prog 41 = some true := by kernel_rfl
@[go_sem] theorem Try.ty.el41 : Go.Ab.elemOf Try.prog 41 = none := by kernel_rfl
@[go_sem] theorem Try.ty.by41 : Go.Ab.bytesOf Try.prog 41 = 56 := by kernel_rfl
@[go_sem] theorem Try.ty.st41 : Go.Ab.strTy Try.prog 41 = false := by kernel_rfl
@[go_sem] theorem Try.ty.ar41 : Go.Ab.arrOf Try.prog 41 = none := by kernel_rfl
@[go_sem] theorem Try.ty.ze41 : Go.Ab.zeroD Try.prog 41 = some [.int .i64 0, .val (.slice none 0 0), .val (.slice none 0 0)] := by kernel_rfl
@[go_sem] theorem Try.ty.fo41_0 : Go.Ab.fieldOff Try.prog 41 0 = some (0, 3) := by kernel_rfl
@[go_sem] theorem Try.ty.fo41_1 : Go.Ab.fieldOff Try.prog 41 1 = some (1, 22) := by kernel_rfl
@[go_sem] theorem Try.ty.fo41_2 : Go.Ab.fieldOff Try.prog 41 2 = some (2, 40) := by kernel_rfl
@[go_sem] theorem Try.ty.pl41 : Go.Ab.placeD Try.prog 41 = some fun i => ([(0, 1), (1, 1), (2, 1)] : List (Nat × Nat))[i]? := by kernel_rfl
@[go_sem] theorem Try.ty.sz42 : Go.Ab.szOf Try.prog 42 = 3 := by kernel_rfl
@[go_sem] theorem Try.ty.ag42 : Go.Ab.aggO Try.prog 42 = some true := by kernel_rfl
@[go_sem] theorem Try.ty.el42 : Go.Ab.elemOf Try.prog 42 = none := by kernel_rfl
@[go_sem] theorem Try.ty.by42 : Go.Ab.bytesOf Try.prog 42 = 56 := by kernel_rfl
@[go_sem] theorem Try.ty.st42 : Go.Ab.strTy Try.prog 42 = false := by kernel_rfl
@[go_sem] theorem Try.ty.ar42 : Go.Ab.arrOf Try.prog 42 = none := by kernel_rfl
@[go_sem] theorem Try.ty.ze42 : Go.Ab.zeroD Try.prog 42 = some [.int .i64 0, .val (.slice none 0 0), .val (.slice none 0 0)] := by kernel_rfl
@[go_sem] theorem Try.ty.fo42_0 : Go.Ab.fieldOff Try.prog 42 0 = some (0, 3) := by kernel_rfl
@[go_sem] theorem Try.ty.fo42_1 : Go.Ab.fieldOff Try.prog 42 1 = some (1, 22) := by kernel_rfl
@[go_sem] theorem Try.ty.fo42_2 : Go.Ab.fieldOff Try.prog 42 2 = some (2, 40) := by kernel_rfl
@[go_sem] theorem Try.ty.pl42 : Go.Ab.placeD Try.prog 42 = some fun i => ([(0, 1), (1, 1), (2, 1)] : List (Nat × Nat))[i]? := by kernel_rfl
@[go_sem] theorem Try.ty.sz43 : Go.Ab.szOf Try.prog 43 = 1 := by kernel_rfl
@[go_sem] theorem Try.ty.ag43 : Go.Ab.aggO Try.prog 43 = some false := by kernel_rfl
@[go_sem] theorem Try.ty.el43 : Go.Ab.elemOf Try.prog 43 = some 40 := by kernel_rfl
@[go_sem] theorem Try.ty.by43 : Go.Ab.bytesOf Try.prog 43 = 24 := by kernel_rfl
@[go_sem] theorem Try.ty.st43 : Go.Ab.strTy Try.prog 43 = false := by kernel_rfl
@[go_sem] theorem Try.ty.ze43 : Go.Ab.zeroD Try.prog 43 = some [.val (.slice none 0 0)] := by kernel_rfl
@[go_sem] theorem Try.ty.sz48 : Go.Ab.szOf Try.prog 48 = 2 := by kernel_rfl
@[go_sem] theorem Try.ty.ag48 : Go.Ab.aggO Try.prog 48 = some true := by kernel_rfl
@[go_sem] theorem Try.ty.el48 : Go.Ab.elemOf Try.prog 48 = none := by kernel_rfl
@[go_sem] theorem Try.ty.by48 : Go.Ab.bytesOf Try.prog 48 = 16 := by kernel_rfl
@[go_sem] theorem Try.ty.st48 : Go.Ab.strTy Try.prog 48 = false := by kernel_rfl
@[go_sem] theorem Try.ty.ar48 : Go.Ab.arrOf Try.prog 48 = none := by kernel_rfl
@[go_sem] theorem Try.ty.eq48 : Go.Ab.EqInts Try.prog 48 2 := Go.Ab.eq_struct (by kernel_rfl) (by kernel_rfl) (by kernel_rfl) (by kernel_rfl)
@[go_sem] theorem Try.ty.ze48 : Go.Ab.zeroD Try.prog 48 = some [.int .i64 0, .int .i64 0] := by kernel_rfl
@[go_sem] theorem Try.ty.fo48_0 : Go.Ab.fieldOff Try.prog 48 0 = some (0, 3) := by kernel_rfl
@[go_sem] theorem Try.ty.fo48_1 : Go.Ab.fieldOff Try.prog 48 1 = some (1, 3) := by kernel_rfl
@[go_sem] theorem Try.ty.pl48 : Go.Ab.placeD Try.prog 48 = some fun i => ([(0, 1), (1, 1)] : List (Nat × Nat))[i]? := by kernel_rfl
@[go_sem] theorem Try.ty.sz49 : Go.Ab.szOf Try.prog 49 = 2 := by kernel_rfl
@[go_sem] theorem Try.ty.ag49 : Go.Ab.aggO Try.prog 49 = some true := by kernel_rfl
@[go_sem] theorem Try.ty.el49 : Go.Ab.elemOf Try.prog 49 = none := by kernel_rfl
@[go_sem] theorem Try.ty.by49 : Go.Ab.bytesOf Try.prog 49 = 16 := by kernel_rfl
@[go_sem] theorem Try.ty.st49 : Go.Ab.strTy Try.prog 49 = false := by kernel_rfl
@[go_sem] theorem Try.ty.ar49 : Go.Ab.arrOf Try.prog 49 = none := by kernel_rfl
@[go_sem] theorem Try.ty.eq49 : Go.Ab.EqInts Try.prog 49 2 := Go.Ab.eq_struct (by kernel_rfl) (by kernel_rfl) (by kernel_rfl) (by kernel_rfl)
@[go_sem] theorem Try.ty.ze49 : Go.Ab.zeroD Try.prog 49 = some [.int .i64 0, .int .i64 0] := by kernel_rfl
@[go_sem] theorem Try.ty.fo49_0 : Go.Ab.fieldOff Try.prog 49 0 = some (0, 3) := by kernel_rfl
@[go_sem] theorem Try.ty.fo49_1 : Go.Ab.fieldOff Try.prog 49 1 = some (1, 3) := by kernel_rfl
@[go_sem] theorem Try.ty.pl49 : Go.Ab.placeD Try.prog 49 = some fun i => ([(0, 1), (1, 1)] : List (Nat × Nat))[i]? := by kernel_rfl
@[go_sem] theorem Try.ty.sz60 : Go.Ab.szOf Try.prog 60 = 1 := by kernel_rfl
@[go_sem] theorem Try.ty.ag60 : Go.Ab.aggO Try.prog 60 = some false := by kernel_rfl
@[go_sem] theorem Try.ty.el60 : Go.Ab.elemOf Try.prog 60 = none := by kernel_rfl
@[go_sem] theorem Try.ty.by60 : Go.Ab.bytesOf Try.prog 60 = 8 := by kernel_rfl
@[go_sem] theorem Try.ty.st60 : Go.Ab.strTy Try.prog 60 = false := by kernel_rfl
@[go_sem] theorem Try.ty.in60 : Go.Ab.intOfTy Try.prog 60 = some .i64 := by kernel_rfl
@[go_sem] theorem Try.ty.ar60 : Go.Ab.arrOf Try.prog 60 = none := by kernel_rfl
@[go_sem] theorem Try.ty.ze60 : Go.Ab.zeroD Try.prog 60 = some [.int .i64 0] := by kernel_rfl
@[go_sem] theorem Try.ty.sz71 : Go.Ab.szOf Try.prog 71 = 3 := by kernel_rfl
@[go_sem] theorem Try.ty.ag71 : Go.Ab.aggO Try.prog 71 = some true := by kernel_rfl
@[go_sem] theorem Try.ty.el71 : Go.Ab.elemOf Try.prog 71 = none := by kernel_rfl
@[go_sem] theorem Try.ty.by71 : Go.Ab.bytesOf Try.prog 71 = 40 := by kernel_rfl
@[go_sem] theorem Try.ty.st71 : Go.Ab.strTy Try.prog 71 = false := by kernel_rfl
@[go_sem] theorem Try.ty.ar71 : Go.Ab.arrOf Try.prog 71 = none := by kernel_rfl
@[go_sem] theorem Try.ty.ze71 : Go.Ab.zeroD Try.prog 71 = some [.int .i64 0, .int .i64 0, .val (.slice none 0 0)] := by kernel_rfl
@[go_sem] theorem Try.ty.fo71_0 : Go.Ab.fieldOff Try.prog 71 0 = some (0, 3) := by kernel_rfl
@[go_sem] theorem Try.ty.fo71_1 : Go.Ab.fieldOff Try.prog 71 1 = some (1, 3) := by kernel_rfl
@[go_sem] theorem Try.ty.fo71_2 : Go.Ab.fieldOff Try.prog 71 2 = some (2, 40) := by kernel_rfl
@[go_sem] theorem Try.ty.pl71 : Go.Ab.placeD Try.prog 71 = some fun i => ([(0, 1), (1, 1), (2, 1)] : List (Nat × Nat))[i]? := by kernel_rfl
@[go_sem] theorem Try.ty.sz72 : Go.Ab.szOf Try.prog 72 = 3 := by kernel_rfl
@[go_sem] theorem Try.ty.ag72 : Go.Ab.aggO Try.prog 72 = some true := by kernel_rfl
@[go_sem] theorem Try.ty.el72 : Go.Ab.elemOf Try.prog 72 = none := by kernel_rfl
@[go_sem] theorem Try.ty.by72 : Go.Ab.bytesOf Try.prog 72 = 40 := by kernel_rfl
@[go_sem] theorem Try.ty.st72 : Go.Ab.strTy Try.prog 72 = false := by kernel_rfl
@[go_sem] theorem Try.ty.ar72 : Go.Ab.arrOf Try.prog 72 = none := by kernel_rfl
@[go_sem] theorem Try.ty.ze72 : Go.Ab.zeroD Try.prog 72 = some [.int .i64 0, .int .i64 0, .val (.slice none 0 0)] := by kernel_rfl
@[go_sem] theorem Try.ty.fo72_0 : Go.Ab.fieldOff Try.prog 72 0 = some (0, 3) := by kernel_rfl
@[go_sem] theorem Try.ty.fo72_1 : Go.Ab.fieldOff Try.prog 72 1 = some (1, 3) := by kernel_rfl
@[go_sem] theorem Try.ty.fo72_2 : Go.Ab.fieldOff Try.prog 72 2 = some (2, 40) := by kernel_rfl
@[go_sem] theorem Try.ty.pl72 : Go.Ab.placeD Try.prog 72 = some fun i => ([(0, 1), (1, 1), (2, 1)] : List (Nat × Nat))[i]? := by kernel_rfl
@[go_sem] theorem Try.ty.sz82 : Go.Ab.szOf Try.prog 82 = 3 := by kernel_rfl
@[go_sem] theorem Try.ty.ag82 : Go.Ab.aggO Try.prog 82 = some true := by kernel_rfl
@[go_sem] theorem Try.ty.el82 : Go.Ab.elemOf Try.prog 82 = none := by kernel_rfl
@[go_sem] theorem Try.ty.by82 : Go.Ab.bytesOf Try.prog 82 = 24 := by kernel_rfl
@[go_sem] theorem Try.ty.st82 : Go.Ab.strTy Try.prog 82 = false := by kernel_rfl
@[go_sem] theorem Try.ty.ar82 : Go.Ab.arrOf Try.prog 82 = none := by kernel_rfl
@[go_sem] theorem Try.ty.eq82 : Go.Ab.EqInts Try.prog 82 3 := Go.Ab.eq_struct (by kernel_rfl) (by kernel_rfl) (by kernel_rfl) (by kernel_rfl)
@[go_sem] theorem Try.ty.ze82 : Go.Ab.zeroD Try.prog 82 = some [.int .i64 0, .int .i64 0, .int .i64 0] := by kernel_rfl
@[go_sem] theorem Try.ty.fo82_0 : Go.Ab.fieldOff Try.prog 82 0 = some (0, 3) := by kernel_rfl
@[go_sem] theorem Try.ty.fo82_1 : Go.Ab.fieldOff Try.prog 82 1 = some (1, 3) := by kernel_rfl
@[go_sem] theorem Try.ty.fo82_2 : Go.Ab.fieldOff Try.prog 82 2 = some (2, 3) := by kernel_rfl
@[go_sem] theorem Try.ty.pl82 : Go.Ab.placeD Try.prog 82 = some fun i => ([(0, 1), (1, 1), (2, 1)] : List (Nat × Nat))[i]? := by kernel_rfl
@[go_sem] theorem Try.ty.sz83 : Go.Ab.szOf Try.prog 83 = 3 := by kernel_rfl
@[go_sem] theorem Try.ty.ag83 : Go.Ab.aggO Try.prog 83 = some true := by kernel_rfl
@[go_sem] theorem Try.ty.el83 : Go.Ab.elemOf Try.prog 83 = none := by kernel_rfl
@[go_sem] theorem Try.ty.by83 : Go.Ab.bytesOf Try.prog 83 = 24 := by kernel_rfl
@[go_sem] theorem Try.ty.st83 : Go.Ab.strTy Try.prog 83 = false := by kernel_rfl
@[go_sem] theorem Try.ty.ar83 : Go.Ab.arrOf Try.prog 83 = none := by kernel_rfl
@[go_sem] theorem Try.ty.eq83 : Go.Ab.EqInts Try.prog 83 3 := Go.Ab.eq_struct (by kernel_rfl) (by kernel_rfl) (by kernel_rfl) (by kernel_rfl)
@[go_sem] theorem Try.ty.ze83 : Go.Ab.zeroD Try.prog 83 = some [.int .i64 0, .int .i64 0, .int .i64 0] := by kernel_rfl
@[go_sem] theorem Try.ty.fo83_0 : Go.Ab.fieldOff Try.prog 83 0 = some (0, 3) := by kernel_rfl
@[go_sem] theorem Try.ty.fo83_1 : Go.Ab.fieldOff Try.prog 83 1 = some (1, 3) := by kernel_rfl
@[go_sem] theorem Try.ty.fo83_2 : Go.Ab.fieldOff Try.prog 83 2 = some (2, 3) := by kernel_rfl
@[go_sem] theorem Try.ty.pl83 : Go.Ab.placeD Try.prog 83 = some fun i => ([(0, 1), (1, 1), (2, 1)] : List (Nat × Nat))[i]? := by kernel_rfl
@[go_sem] theorem Try.ty.sz93 : Go.Ab.szOf Try.prog 93 = 1 := by kernel_rfl
@[go_sem] theorem Try.ty.ag93 : Go.Ab.aggO Try.prog 93 = some false := by kernel_rfl
@[go_sem] theorem Try.ty.ze93 : Go.Ab.zeroD Try.prog 93 = some [.val .nilFunc] := by kernel_rfl
@[go_sem] theorem Try.ty.el93 : Go.Ab.elemOf Try.prog 93 = none := by kernel_rfl
@[go_sem] theorem Try.ty.sz102 : Go.Ab.szOf Try.prog 102 = 1 := by kernel_rfl
@[go_sem] theorem Try.ty.ag102 : Go.Ab.aggO Try.prog 102 = some false := by kernel_rfl
@[go_sem] theorem Try.ty.ze102 : Go.Ab.zeroD Try.prog 102 = some [.val .nilFunc] := by kernel_rfl
@[go_sem] theorem Try.ty.el102 : Go.Ab.elemOf Try.prog 102 = none := by kernel_rfl
@[go_sem] theorem Try.ty.sz105 : Go.Ab.szOf Try.prog 105 = 1 := by kernel_rfl
@[go_sem] theorem Try.ty.ag105 : Go.Ab.aggO Try.prog 105 = some false := by kernel_rfl
@[go_sem] theorem Try.ty.ze105 : Go.Ab.zeroD Try.prog 105 = some [.val .nilFunc] := by kernel_rfl
@[go_sem] theorem Try.ty.el105 : Go.Ab.elemOf Try.prog 105 = none := by kernel_rfl
@[go_sem] theorem Try.ty.sz109 : Go.Ab.szOf Try.prog 109 = 5 := by kernel_rfl
@[go_sem] theorem Try.ty.ag109 : Go.Ab.aggO Try.prog 109 = some true := by kernel_rfl
@[go_sem] theorem Try.ty.el109 : Go.Ab.elemOf Try.prog 109 = none := by kernel_rfl
@[go_sem] theorem Try.ty.by109 : Go.Ab.bytesOf Try.prog 109 = 104 := by kernel_rfl
@[go_sem] theorem Try.ty.st109 : Go.Ab.strTy Try.prog 109 = false := by kernel_rfl
@[go_sem] theorem Try.ty.ar109 : Go.Ab.arrOf Try.prog 109 = none := by kernel_rfl
@[go_sem] theorem Try.ty.ze109 : Go.Ab.zeroD Try.prog 109 = some [.int .i64 0, .val (.slice none 0 0), .val (.slice none 0 0), .val (.slice none 0 0), .val (.slice none 0 0)] := by kernel_rfl
@[go_sem] theorem Try.ty.fo109_0 : Go.Ab.fieldOff Try.prog 109 0 = some (0, 42) := by kernel_rfl
@[go_sem] theorem Try.ty.fo109_1 : Go.Ab.fieldOff Try.prog 109 1 = some (3, 43) := by kernel_rfl
@[go_sem] theorem Try.ty.fo109_2 : Go.Ab.fieldOff Try.prog 109 2 = some (4, 43) := by kernel_rfl
@[go_sem] theorem Try.ty.pl109 : Go.Ab.placeD Try.prog 109 = some fun i => ([(0, 3), (3, 1), (4, 1)] : List (Nat × Nat))[i]? := by kernel_rfl
@[go_sem] theorem Try.ty.sz110 : Go.Ab.szOf Try.prog 110 = 5 := by kernel_rfl
@[go_sem] theorem Try.ty.ag110 : Go.Ab.aggO Try.prog 110 = some true := by kernel_rfl
@[go_sem] theorem Try.ty.el110 : Go.Ab.elemOf Try.prog 110 = none := by kernel_rfl
@[go_sem] theorem Try.ty.by110 : Go.Ab.bytesOf Try.prog 110 = 104 := by kernel_rfl
@[go_sem] theorem Try.ty.st110 : Go.Ab.strTy Try.prog 110 = false := by kernel_rfl
@[go_sem] theorem Try.ty.ar110 : Go.Ab.arrOf Try.prog 110 = none := by kernel_rfl
@[go_sem] theorem Try.ty.ze110 : Go.Ab.zeroD Try.prog 110 = some [.int .i64 0, .val (.slice none 0 0), .val (.slice none 0 0), .val (.slice none 0 0), .val (.slice none 0 0)] := by kernel_rfl
@[go_sem] theorem Try.ty.fo110_0 : Go.Ab.fieldOff Try.prog 110 0 = some (0, 42) := by kernel_rfl
@[go_sem] theorem Try.ty.fo110_1 : Go.Ab.fieldOff Try.prog 110 1 = some (3, 43) := by kernel_rfl
@[go_sem] theorem Try.ty.fo110_2 : Go.Ab.fieldOff Try.prog 110 2 = some (4, 43) := by kernel_rfl
@[go_sem] theorem Try.ty.pl110 : Go.Ab.placeD Try.prog 110 = some fun i => ([(0, 3), (3, 1), (4, 1)] : List (Nat × Nat))[i]? := by kernel_rfl
@[go_sem] theorem Try.ty.sz114 : Go.Ab.szOf Try.prog 114 = 3 := by kernel_rfl
@[go_sem] theorem Try.ty.ag114 : Go.Ab.aggO Try.prog 114 = some true := by kernel_rfl
@[go_sem] theorem Try.ty.el114 : Go.Ab.elemOf Try.prog 114 = none := by kernel_rfl
@[go_sem] theorem Try.ty.by114 : Go.Ab.bytesOf Try.prog 114 = 56 := by kernel_rfl
@[go_sem] theorem Try.ty.st114 : Go.Ab.strTy Try.prog 114 = false := by kernel_rfl
@[go_sem] theorem Try.ty.ar114 : Go.Ab.arrOf Try.prog 114 = none := by kernel_rfl
@[go_sem] theorem Try.ty.ze114 : Go.Ab.zeroD Try.prog 114 = some [.val (.slice none 0 0), .val (.slice none 0 0), .int .i64 0] := by kernel_rfl
@[go_sem] theorem Try.ty.fo114_0 : Go.Ab.fieldOff Try.prog 114 0 = some (0, 22) := by kernel_rfl
@[go_sem] theorem Try.ty.fo114_1 : Go.Ab.fieldOff Try.prog 114 1 = some (1, 22) := by kernel_rfl
@[go_sem] theorem Try.ty.fo114_2 : Go.Ab.fieldOff Try.prog 114 2 = some (2, 3) := by kernel_rfl
@[go_sem] theorem Try.ty.pl114 : Go.Ab.placeD Try.prog 114 = some fun i => ([(0, 1), (1, 1), (2, 1)] : List (Nat × Nat))[i]? := by kernel_rfl
@[go_sem] theorem Try.ty.sz115 : Go.Ab.szOf Try.prog 115 = 3 := by kernel_rfl
@[go_sem] theorem Try.ty.ag115 : Go.Ab.aggO Try.prog 115 = some true := by kernel_rfl
@[go_sem] theorem Try.ty.el115 : Go.Ab.elemOf Try.prog 115 = none := by kernel_rfl
@[go_sem] theorem Try.ty.by115 : Go.Ab.bytesOf Try.prog 115 = 56 := by kernel_rfl
@[go_sem] theorem Try.ty.st115 : Go.Ab.strTy Try.prog 115 = false := by kernel_rfl
@[go_sem] theorem Try.ty.ar115 : Go.Ab.arrOf Try.prog 115 = none := by kernel_rfl
@[go_sem] theorem Try.ty.ze115 : Go.Ab.zeroD Try.prog 115 = some [.val (.slice none 0 0), .val (.slice none 0 0), .int .i64 0] := by kernel_rfl
@[go_sem] theorem Try.ty.fo115_0 : Go.Ab.fieldOff Try.prog 115 0 = some (0, 22) := by kernel_rfl
@[go_sem] theorem Try.ty.fo115_1 : Go.Ab.fieldOff Try.prog 115 1 = some (1, 22) := by kernel_rfl
@[go_sem] theorem Try.ty.fo115_2 : Go.Ab.fieldOff Try.prog 115 2 = some (2, 3) := by kernel_rfl
@[go_sem] theorem Try.ty.pl115 : Go.Ab.placeD Try.prog 115 = some fun i => ([(0, 1), (1, 1), (2, 1)] : List (Nat × Nat))[i]? := by kernel_rfl
@[go_sem] theorem Try.ty.sz118 : Go.Ab.szOf Try.prog 118 = 1 := by kernel_rfl
@[go_sem] theorem Try.ty.ag118 : Go.Ab.aggO Try.prog 118 = some false := by kernel_rfl
@[go_sem] theorem Try.ty.ze118 : Go.Ab.zeroD Try.prog 118 = some [.val .nilFunc] := by kernel_rfl
@[go_sem] theorem Try.ty.el118 : Go.Ab.elemOf Try.prog 118 = none := by kernel_rfl
@[go_sem] theorem Try.ty.sz123 : Go.Ab.szOf Try.prog 123 = 1 := by kernel_rfl
@[go_sem] theorem Try.ty.ag123 : Go.Ab.aggO Try.prog 123 = some false := by kernel_rfl
@[go_sem] theorem Try.ty.el123 : Go.Ab.elemOf Try.prog 123 = none := by kernel_rfl
@[go_sem] theorem Try.ty.by123 : Go.Ab.bytesOf Try.prog 123 = 8 := by kernel_rfl
@[go_sem] theorem Try.ty.st123 : Go.Ab.strTy Try.prog 123 = false := by kernel_rfl
@[go_sem] theorem Try.ty.ar123 : Go.Ab.arrOf Try.prog 123 = none := by kernel_rfl
@[go_sem] theorem Try.ty.mp123 : Go.Ab.mapOf Try.prog 123 = some (125, 3) := by kernel_rfl
@[go_sem] theorem Try.ty.zv123_3 : Go.Ab.zeroV Try.prog 3 = some (.int .i64 0) := by kernel_rfl
@[go_sem] theorem Try.ty.ky123 : Go.Ab.KeyOk Try.prog 125 true 4 := Go.Ab.key_arr (e := 3) (by kernel_rfl) (by kernel_rfl) (by kernel_rfl) (by kernel_rfl)
@[go_sem] theorem Try.ty.ze123 : Go.Ab.zeroD Try.prog 123 = some [.val (.map none)] := by kernel_rfl
@[go_sem] theorem Try.ty.sz124 : Go.Ab.szOf Try.prog 124 = 4 := by kernel_rfl
@[go_sem] theorem Try.ty.ag124 : Go.Ab.aggO Try.prog 124 = some true := by kernel_rfl
@[go_sem] theorem Try.ty.el124 : Go.Ab.elemOf Try.prog 124 = none := by kernel_rfl
@[go_sem] theorem Try.ty.by124 : Go.Ab.bytesOf Try.prog 124 = 32 := by kernel_rfl
@[go_sem] theorem Try.ty.st124 : Go.Ab.strTy Try.prog 124 = false := by kernel_rfl
@[go_sem] theorem Try.ty.ar124 : Go.Ab.arrOf Try.prog 124 = some (4, 3) := by kernel_rfl
@[go_sem] theorem Try.ty.ze124 : Go.Ab.zeroD Try.prog 124 = some [.int .i64 0, .int .i64 0, .int .i64 0, .int .i64 0] := by kernel_rfl
@[go_sem] theorem Try.ty.pl124 : Go.Ab.placeD Try.prog 124 = some fun i => some (i * 1, 1) := by kernel_rfl
@[go_sem] theorem Try.ty.sz125 : Go.Ab.szOf Try.prog 125 = 4 := by kernel_rfl
@[go_sem] theorem Try.ty.ag125 : Go.Ab.aggO Try.prog 125 = some true := by kernel_rfl
@[go_sem] theorem Try.ty.el125 : Go.Ab.elemOf Try.prog 125 = none := by kernel_rfl
@[go_sem] theorem Try.ty.by125 : Go.Ab.bytesOf Try.prog 125 = 32 := by kernel_rfl
@[go_sem] theorem Try.ty.st125 : Go.Ab.strTy Try.prog 125 = false := by kernel_rfl
@[go_sem] theorem Try.ty.ar125 : Go.Ab.arrOf Try.prog 125 = some (4, 3) := by kernel_rfl
@[go_sem] theorem Try.ty.ze125 : Go.Ab.zeroD Try.prog 125 = some [.int .i64 0, .int .i64 0, .int .i64 0, .int .i64 0] := by kernel_rfl
@[go_sem] theorem Try.ty.pl125 : Go.Ab.placeD Try.prog 125 = some fun i => some (i * 1, 1) := by kernel_rfl
@[go_sem] theorem Try.ty.sz127 : Go.Ab.szOf Try.prog 127 = 1 := by kernel_rfl
@[go_sem] theorem Try.ty.ag127 : Go.Ab.aggO Try.prog 127 = some false := by kernel_rfl
@[go_sem] theorem Try.ty.ze127 : Go.Ab.zeroD Try.prog 127 = some [.val .nilFunc] := by kernel_rfl
@[go_sem] theorem Try.ty.el127 : Go.Ab.elemOf Try.prog 127 = none := by kernel_rfl
@[go_sem] theorem Try.ty.sz128 : Go.Ab.szOf Try.prog 128 = 1 := by kernel_rfl
@[go_sem] theorem Try.ty.ag128 : Go.Ab.aggO Try.prog 128 = some false := by kernel_rfl
@[go_sem] theorem Try.ty.el128 : Go.Ab.elemOf Try.prog 128 = none := by kernel_rfl
@[go_sem] theorem Try.ty.by128 : Go.Ab.bytesOf Try.prog 128 = 8 := by kernel_rfl
@[go_sem] theorem Try.ty.st128 : Go.Ab.strTy Try.prog 128 = false := by kernel_rfl
@[go_sem] theorem Try.ty.in128 : Go.Ab.intOfTy Try.prog 128 = some .u64 := by kernel_rfl
@[go_sem] theorem Try.ty.ar128 : Go.Ab.arrOf Try.prog 128 = none := by kernel_rfl
@[go_sem] theorem Try.ty.ze128 : Go.Ab.zeroD Try.prog 128 = some [.int .u64 0] := by kernel_rfl
@[go_sem] theorem Try.ty.sz131 : Go.Ab.szOf Try.prog 131 = 2 := by kernel_rfl
@[go_sem] theorem Try.ty.ag131 : Go.Ab.aggO Try.prog 131 = some true := by kernel_rfl
@[go_sem] theorem Try.ty.el131 : Go.Ab.elemOf Try.prog 131 = none := by kernel_rfl
@[go_sem] theorem Try.ty.by131 : Go.Ab.bytesOf Try.prog 131 = 16 := by kernel_rfl
@[go_sem] theorem Try.ty.st131 : Go.Ab.strTy Try.prog 131 = false := by kernel_rfl
@[go_sem] theorem Try.ty.ar131 : Go.Ab.arrOf Try.prog 131 = some (2, 3) := by kernel_rfl
@[go_sem] theorem Try.ty.ze131 : Go.Ab.zeroD Try.prog 131 = some [.int .i64 0, .int .i64 0] := by kernel_rfl
@[go_sem] theorem Try.ty.pl131 : Go.Ab.placeD Try.prog 131 = some fun i => some (i * 1, 1) := by kernel_rfl
@[go_sem] theorem Try.ty.sz132 : Go.Ab.szOf Try.prog 132 = 2 := by kernel_rfl
@[go_sem] theorem Try.ty.ag132 : Go.Ab.aggO Try.prog 132 = some true := by kernel_rfl
@[go_sem] theorem Try.ty.el132 : Go.Ab.elemOf Try.prog 132 = none := by kernel_rfl
@[go_sem] theorem Try.ty.by132 : Go.Ab.bytesOf Try.prog 132 = 16 := by kernel_rfl
@[go_sem] theorem Try.ty.st132 : Go.Ab.strTy Try.prog 132 = false := by kernel_rfl
@[go_sem] theorem Try.ty.ar132 : Go.Ab.arrOf Try.prog 132 = some (2, 118) := by kernel_rfl
@[go_sem] theorem Try.ty.ze132 : Go.Ab.zeroD Try.prog 132 = some [.val .nilFunc, .val .nilFunc] := by kernel_rfl
@[go_sem] theorem Try.ty.pl132 : Go.Ab.placeD Try.prog 132 = some fun i => some (i * 1, 1) := by kernel_rfl
@[go_sem] theorem Try.ty.sz136 : Go.Ab.szOf Try.prog 136 = 1 := by kernel_rfl
@[go_sem] theorem Try.ty.ag136 : Go.Ab.aggO Try.prog 136 = some false := by kernel_rfl
@[go_sem] theorem Try.ty.ze136 : Go.Ab.zeroD Try.prog 136 = some [.val .nilFunc] := by kernel_rfl
@[go_sem] theorem Try.ty.el136 : Go.Ab.elemOf Try.prog 136 = none := by kernel_rfl
@[go_sem] theorem Try.ty.sz140 : Go.Ab.szOf Try.prog 140 = 1 := by kernel_rfl
@[go_sem] theorem Try.ty.ag140 : Go.Ab.aggO Try.prog 140 = some false := by kernel_rfl
@[go_sem] theorem Try.ty.el140 : Go.Ab.elemOf Try.prog 140 = none := by kernel_rfl
@[go_sem] theorem Try.ty.by140 : Go.Ab.bytesOf Try.prog 140 = 4 := by kernel_rfl
@[go_sem] theorem Try.ty.st140 : Go.Ab.strTy Try.prog 140 = false := by kernel_rfl
@[go_sem] theorem Try.ty.in140 : Go.Ab.intOfTy Try.prog 140 = some .u32 := by kernel_rfl
@[go_sem] theorem Try.ty.ar140 : Go.Ab.arrOf Try.prog 140 = none := by kernel_rfl
@[go_sem] theorem Try.ty.ze140 : Go.Ab.zeroD Try.prog 140 = some [.int .u32 0] := by kernel_rfl
@[go_sem] theorem Try.ty.sz143 : Go.Ab.szOf Try.prog 143 = 1 := by kernel_rfl
@[go_sem] theorem Try.ty.ag143 : Go.Ab.aggO Try.prog 143 = some false := by kernel_rfl
@[go_sem] theorem Try.ty.el143 : Go.Ab.elemOf Try.prog 143 = none := by kernel_rfl
@[go_sem] theorem Try.ty.by143 : Go.Ab.bytesOf Try.prog 143 = 8 := by kernel_rfl
@[go_sem] theorem Try.ty.st143 : Go.Ab.strTy Try.prog 143 = false := by kernel_rfl
@[go_sem] theorem Try.ty.in143 : Go.Ab.intOfTy Try.prog 143 = some .u64 := by kernel_rfl
@[go_sem] theorem Try.ty.ar143 : Go.Ab.arrOf Try.prog 143 = none := by kernel_rfl
@[go_sem] theorem Try.ty.ze143 : Go.Ab.zeroD Try.prog 143 = some [.int .u64 0] := by kernel_rfl
@[go_sem] theorem Try.ty.sz147 : Go.Ab.szOf Try.prog 147 = 1 := by kernel_rfl
@[go_sem] theorem Try.ty.ag147 : Go.Ab.aggO Try.prog 147 = some false := by kernel_rfl
@[go_sem] theorem Try.ty.ze147 : Go.Ab.zeroD Try.prog 147 = some [.val .nilFunc] := by kernel_rfl
@[go_sem] theorem Try.ty.el147 : Go.Ab.elemOf Try.prog 147 = none := by kernel_rfl
theorem Try.ty.mixed : Try.prog.follows .mixedOrders = true := by kernel_rfl
end Go.Proofs.Ythamljpomhjepaa
