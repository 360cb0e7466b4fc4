import Derived.Test.YtngalllaiphkhaaGreatDoorYRvO
import Derived.Test.YtngalllaiphkhaaGreatDoorShelfT
namespace Go.Proofs.YtngalllaiphkhaaGreatDoor
open Go.RowKit
open Go.Lib (hid)
set_option maxRecDepth 100000
set_option maxHeartbeats 16000000
set_option linter.unusedVariables false
set_option linter.unusedSimpArgs false
section
open Go.RowKit Go.Shelf
abbrev tBools:Nat:=128
section
variable {S0:Nat -> Prop} {w0 w:World} {cb hk m:Nat} {U:Nat -> Bool} {B R:Asr}
def ownU (m:Nat) (U:Nat -> Bool) (i:Nat):Nat -> Bool:=if ownB m U i = true then marks U [i] else U
theorem own_calls (hL:Lv S0 w0 (Star (blkA cb tBools [.slice (some ⟨hk,0,none⟩) m m]) (Star (blkA hk tBool (boolL U m)) B)) w) (hB:Loc B) (i:Nat) :
 Calls Tryz.prog 172 #[.int .i64 i,.pointer (some ⟨cb,0,none⟩)] w fun e w'=>e = .returned (.bool (ownB m U i)) /\ Lv S0 w0 (Star (blkA cb tBools [.slice (some ⟨hk,0,none⟩) m m]) (Star (blkA hk tBool (boolL (ownU m U i) m)) B)) w':=by
 have c0:=hL.blk.cell (j:=0) rfl
 have HL:=hid hL
 have HB:=hid hB
 by_cases h9:i < 9
 ·have e:ownB m U i = false:=by unfold ownB;simp [show ¬ 9 <= i by omega]
  unfold ownU
  rw [e,if_neg (by decide)]
  have h9':(i:Int) < 9:=by omega
  clear hL hB e
  go_enter Tryz.func172,Tryz.ntmps172
  go_wp2_with fail
  go_ret
  exact ⟨rfl,HL.out⟩
 ·have h9':¬ (i:Int) < 9:=by omega
  by_cases hm:m <= i
  ·have e:ownB m U i = false:=by unfold ownB;simp [show ¬ i < m by omega]
   unfold ownU
   rw [e,if_neg (by decide)]
   have hm':(m:Int) <= (i:Int):=by omega
   clear hL hB e
   go_enter Tryz.func172,Tryz.ntmps172
   go_wp2_with fail
   go_ret
   exact ⟨rfl,HL.out⟩
  ·have hm':¬ (m:Int) <= (i:Int):=by omega
   have him:i < m:=by omega
   have him':(i:Int) < (m:Int):=by omega
   have q0:=hL.drop.blk.cell (boolL_get U him)
   have q1:=hL.drop.blk.free i
   cases hU:U i with
   | true =>
    have e:ownB m U i = false:=by unfold ownB;simp [hU]
    unfold ownU
    rw [e,if_neg (by decide)]
    rw [hU] at q0
    clear hL hB e hU
    go_enter Tryz.func172,Tryz.ntmps172
    go_wp2_with fail
    go_ret
    exact ⟨rfl,HL.out⟩
   | false =>
    have e:ownB m U i = true:=ownB_iff.2 ⟨⟨by omega,him⟩,hU⟩
    unfold ownU
    rw [e,if_pos rfl]
    rw [hU] at q0
    have hE:=(hL.map fun _ h=>star_flip h).turn (loc_star (loc_blk _ _ _) hB) (turn_blk i (.bool true))
    rw [boolL_set _ him] at hE
    have hE:=hid (hE.map fun _ h=>star_flip h)
    clear hL hB e hU
    go_enter Tryz.func172,Tryz.ntmps172
    go_wp2_with fail
    go_ret
    exact ⟨rfl,hE.out⟩
end
end
end Go.Proofs.YtngalllaiphkhaaGreatDoor
