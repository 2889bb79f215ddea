/- What the plain layer asks of the types of this translation. Printed by a program. -/
import Derived.Test.YtdbiiegohemahaaDoorAbI
import Derived.Test.YtdbiiegohemahaaDoorRows
namespace Go.Proofs.YtdbiiegohemahaaDoor
open Go.Ab
@[go_sem] theorem Tryd.ty.sz135 : Go.Ab.szOf Tryd.prog 135 = 17 := by kernel_rfl
@[go_sem] theorem Tryd.ty.ag135 : Go.Ab.aggO Tryd.prog 135 = some true := by kernel_rfl
@[go_sem] theorem Tryd.ty.el135 : Go.Ab.elemOf Tryd.prog 135 = none := by kernel_rfl
@[go_sem] theorem Tryd.ty.by135 : Go.Ab.bytesOf Tryd.prog 135 = 136 := by kernel_rfl
@[go_sem] theorem Tryd.ty.st135 : Go.Ab.strTy Tryd.prog 135 = false := by kernel_rfl
@[go_sem] theorem Tryd.ty.ar135 : Go.Ab.arrOf Tryd.prog 135 = some (17, 3) := by kernel_rfl
@[go_sem] theorem Tryd.ty.ze135 : Go.Ab.zeroD Tryd.prog 135 = some [.int .i64 0, .int .i64 0, .int .i64 0, .int .i64 0, .int .i64 0, .int .i64 0, .int .i64 0, .int .i64 0, .int .i64 0, .int .i64 0, .int .i64 0, .int .i64 0, .int .i64 0, .int .i64 0, .int .i64 0, .int .i64 0, .int .i64 0] := by kernel_rfl
@[go_sem] theorem Tryd.ty.pl135 : Go.Ab.placeD Tryd.prog 135 = some fun i => some (i * 1, 1) := by kernel_rfl
end Go.Proofs.YtdbiiegohemahaaDoor
