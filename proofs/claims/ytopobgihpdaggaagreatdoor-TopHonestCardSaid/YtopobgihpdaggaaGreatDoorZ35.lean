import Derived.Test.YtopobgihpdaggaaGreatDoorRows
import Derived.JoinedOf
import Derived.SevenTiedAt
import Derived.KernelRfl
set_option linter.unusedVariables false
set_option linter.unusedSimpArgs false
namespace Go.Proofs.YtopobgihpdaggaaGreatDoor
set_option maxRecDepth 100000
theorem Ni:Tryz.prog.funcNamed "isobar/isobartop.TopHonest" =some 3:=by kernel_rfl
theorem Vb:decide (Tryz.f3.isInstance Tryz.prog Rows.topHonestRow.origin Rows.topHonestRow.targs)=true:=by kernel_rfl
theorem U_:([37,3,24].all λu=> !Tryz.prog.wantsStandIn u)=true:=by kernel_rfl
end Go.Proofs.YtopobgihpdaggaaGreatDoor
