import Derived.Test.YtngalllaiphkhaaGreatDoorYTnB
import Derived.Test.YtngalllaiphkhaaGreatDoorYTnA
namespace Go.Proofs.YtngalllaiphkhaaGreatDoor
open Go.RowKit
open Go.Lib (hid)
set_option maxRecDepth 100000
set_option maxHeartbeats 16000000
set_option linter.unusedVariables false
set_option linter.unusedSimpArgs false
section
variable {S0:Nat -> Prop} {w0 w:World} {d n:Nat} {D:DSt} {B:Asr}
theorem blank_mount (hL:Lv S0 w0 (Star (dskA kD d D) B) w) (hB:Loc B) (hD:Blank D n) (hn:n <= 30) :
 Calls Tryz.prog 25 #[.pointer (some ⟨d,0,none⟩)] w fun e w'=>(∃ k:Int,e = .returned (.tuple #[.pointer none,.int .i64 k]) /\ (D.openE ≠ 0 -> k = D.openE)) /\ Fr S0 w0 w':=by
 have hw:(D.wait.length + 31) * 24 <= 140737488355328:=by have:=hD.few;omega
 have HO:=hid (open_calls hL hB hw)
 have HVM:Hid (∀ b W,Lv S0 w0 (Star (dskA kD d D.opened) (Star (lgA b d [] false) B)) W -> Calls Tryz.prog 64 #[.pointer (some ⟨b,0,none⟩)] W fun e w'=>e = .returned (.tuple #[.pointer none,.int .i64 6]) /\ Fr S0 w0 w'):=hid fun b W hl=>by
  have hlv:LV S0 w0 b d ⟨D.opened,[],false⟩ B W:=hl.map fun _ h=>star_flip h
  refine (vmount_calls hlv hB (hD.opened.rdv (by omega))).mono ?_
  rintro e w' (⟨h,_⟩ | ⟨_,he,h⟩)
  ·exact absurd h blank_not
  ·exact ⟨he,h.fr⟩
 clear hL hB hD hn hw
 go_enter Tryz.func25,Tryz.ntmps25
 go_wp2_with fail
 refine HO.out.mono ?_
 rintro e w1 (⟨h0,rfl,L1⟩ | ⟨h0,b,rfl,L1⟩)
 ·have HF:=hid L1.fr
  have t0:(D.openE != 0) = true:=bne_iff_ne.2 h0
  clear L1 HO HVM h0
  go_wp2_with fail
  go_ret2
  exact ⟨⟨D.openE,rfl,fun _=>rfl⟩,HF.out⟩
 ·have HM:=hid (HVM.out b _ L1)
  clear L1 HO HVM
  go_wp2_with fail
  refine HM.out.mono ?_
  rintro e w2 ⟨rfl,hf⟩
  go_wp2_with fail
  go_ret2
  exact ⟨⟨6,rfl,fun h=>absurd h0 h⟩,hf⟩
end
end Go.Proofs.YtngalllaiphkhaaGreatDoor
