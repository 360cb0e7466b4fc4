import Derived.Test.YtngalllaiphkhaaGreatDoorYWA
namespace Go.Proofs.YtngalllaiphkhaaGreatDoor
open Go.RowKit
section
variable {S0:Nat -> Prop} {w0 w:World} {B:Asr}
theorem Lv.blk {c e:Nat} {cs:List Value} (h:Lv S0 w0 (Star (blkA c e cs) B) w):Blk w c e cs:=by
 obtain ⟨S,h⟩:=h.first
 exact h.1
end
end Go.Proofs.YtngalllaiphkhaaGreatDoor
