import Derived.Test.YtngalllaiphkhaaGreatDoorYVmP
namespace Go.Proofs.YtngalllaiphkhaaGreatDoor
open Go.RowKit
set_option linter.unusedVariables false
set_option linter.unusedSimpArgs false
abbrev tBool:Nat:=4
theorem Tryz.infoBool:(Tryz.prog.info? tBool).map (fun i=>(i.zero,i.size,i.bytes)) = some (some (.bool false),1,1):=by kernel_rfl
section
variable {w wr:World} {r nb c m ub:Nat} {sp:List Value} {U:Nat -> Bool} {A:Nat -> Node} {X:Sec}
end
end Go.Proofs.YtngalllaiphkhaaGreatDoor
