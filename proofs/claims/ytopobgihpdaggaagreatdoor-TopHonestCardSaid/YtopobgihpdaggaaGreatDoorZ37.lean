import Derived.Test.YtopobgihpdaggaaGreatDoorRows
import Derived.JoinedOf
import Derived.SevenTiedAt
import Derived.KernelRfl
set_option linter.unusedVariables false
set_option linter.unusedSimpArgs false
namespace Go.Proofs.YtopobgihpdaggaaGreatDoor
set_option maxRecDepth 100000
theorem Va:true=Tryz.prog.looks []:=by kernel_rfl
end Go.Proofs.YtopobgihpdaggaaGreatDoor
