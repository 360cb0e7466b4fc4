import Derived.Test.YtngalllaiphkhaaGreatDoorYMI
import Derived.Test.YtngalllaiphkhaaGreatDoorYNV
namespace Go.Proofs.YtngalllaiphkhaaGreatDoor
open Go.RowKit
def freshN (n:Int):Nat:=if n < 48 \/ 544 < n then 48 else n.toNat
def freshL (n:Int):LSt:=⟨(DSt.fresh (freshN n)).opened,[],false⟩
theorem freshN_le (n:Int):48 <= freshN n /\ freshN n <= 544:=by unfold freshN;split <;> omega
theorem fresh_opens (m:Nat):(DSt.fresh (32 + m)).openE = 0 /\ (DSt.fresh (32 + m)).opened = DSt.fresh (32 + m):=(calm_fresh m).opens
theorem freshL_eq (n:Int):freshL n = ⟨DSt.fresh (freshN n),[],false⟩ /\ (DSt.fresh (freshN n)).openE = 0:=by
 obtain ⟨h1,h2⟩:=freshN_le n
 obtain ⟨e1,e2⟩:=fresh_opens (freshN n - 32)
 rw [show 32 + (freshN n - 32) = freshN n by omega] at e1 e2
 exact ⟨by unfold freshL;rw [e2],e1⟩
section
variable {S0:Nat -> Prop} {w0 w:World} {v b d:Nat} {L:LSt} {B R:Asr}
theorem LV.vok (h:LV S0 w0 b d L B w) (hs:L.stg = []) (hw:L.D.wait.length <= 70):VOk L:=by
 obtain ⟨_,_,_,_,_,h1⟩:=h.parts
 exact ⟨by unfold LSt.Ok;rw [hs];exact good_nil _,hw,h1⟩
theorem VV.commit (hL:VV S0 w0 v b d L B w) (hB:Loc B) (hk:VOk L) :
 Calls Tryz.prog 105 #[.pointer (some ⟨b,0,none⟩)] w fun e w'=>e = .returned (.int .i64 L.commitE) /\ VV S0 w0 v b d L.commit B w' :=
 lv_commit hL (loc_star (loc_blk _ _ _) hB) hk.ok (by have:=hk.wait;omega)
end
end Go.Proofs.YtngalllaiphkhaaGreatDoor
