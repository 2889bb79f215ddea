import Derived.Test.YtopobgihpdaggaaGreatDoorRows
import Derived.JoinedOf
import Derived.SevenTiedAt
import Derived.KernelRfl
set_option linter.unusedVariables false
set_option linter.unusedSimpArgs false
namespace Go.Proofs.YtopobgihpdaggaaGreatDoor
set_option maxRecDepth 100000
theorem Vc:false=Rows.topHonestRow.goesBy Tryz.prog:=by kernel_rfl
end Go.Proofs.YtopobgihpdaggaaGreatDoor
