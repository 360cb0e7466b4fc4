import Derived.Test.YtngalllaiphkhaaGreatDoorYVnA
import Derived.Test.YtngalllaiphkhaaGreatDoorYMS
import Derived.BigRegion
import Derived.BigQuiet
namespace Go.Proofs.YtngalllaiphkhaaGreatDoor
open Go.RowKit
set_option linter.unusedVariables false
set_option linter.unusedSimpArgs false
section
variable {S0:Nat -> Prop} {w0 w:World} {r nb c m:Nat} {sp:List Value} {A:Nat -> Node} {B R:Asr}
end
section
variable {S0:Nat -> Prop} {w0 w:World} {r nb c m:Nat} {sp:List Value} {A:Nat -> Node} {B R:Asr}
end
section
variable {S0:Nat -> Prop} {w0 w:World} {r nb c m:Nat} {sp:List Value} {A:Nat -> Node} {B R:Asr}
end
section
variable {S0:Nat -> Prop} {w0 w:World} {r nb c m:Nat} {sp:List Value} {A:Nat -> Node} {B R:Asr}
end
section
variable {S0:Nat -> Prop} {w0 w:World} {r nb c m:Nat} {sp:List Value} {A:Nat -> Node} {B R:Asr}
end
end Go.Proofs.YtngalllaiphkhaaGreatDoor
