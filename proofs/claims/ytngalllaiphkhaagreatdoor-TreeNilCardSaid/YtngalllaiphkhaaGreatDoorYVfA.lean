import Derived.Test.YtngalllaiphkhaaGreatDoorYMN
namespace Go.Proofs.YtngalllaiphkhaaGreatDoor
open Go.RowKit
open Go.Lib (hid)
set_option maxRecDepth 100000
set_option maxHeartbeats 16000000
theorem freeD_find {L:LSt} {n:Int} (h:vfindE L n ≠ 0):vfreeE L n = vfindE L n /\ vfree L n = L:=by
 have e:vfreeE L n = vfindE L n:=by unfold vfreeE;rw [if_pos h]
 refine ⟨e,?_⟩
 unfold vfree
 rw [if_neg (by rw [e];exact h)]
theorem freeD_full {L:LSt} {n:Int} (h:vfindE L n = 0) (h3:vfullB L = true):vfreeE L n = 4 /\ vfree L n = L:=by
 have e:vfreeE L n = 4:=by unfold vfreeE;rw [if_neg (by simpa using h),if_pos h3]
 refine ⟨e,?_⟩
 unfold vfree
 rw [if_neg (by rw [e];decide)]
theorem freeD_ok {L:LSt} {n:Int} (h:vfindE L n = 0) (h3:vfullB L = false):vfreeE L n = 0 /\ vfree L n = vkeep (vcut L (vfindX L n) 0).1 n.toNat Ino.free:=by
 have e:vfreeE L n = 0:=by unfold vfreeE;rw [if_neg (by simpa using h),if_neg (by rw [h3];decide)]
 refine ⟨e,?_⟩
 unfold vfree
 rw [if_pos e]
section
variable {S0:Nat -> Prop} {w0 w:World} {v b d:Nat} {L:LSt} {B R:Asr}
theorem vFree_calls (hL:VV S0 w0 v b d L B w) (hB:Loc B) (hk:VOk L) (n:Int) (hC:vfreeE L n = 0 -> CutOk L (vfindX L n) (sectorsP 0)) :
 Calls Tryz.prog 59 #[.pointer (some ⟨v,0,none⟩),.int .i64 n] w fun e w'=>e = .returned (.int .i64 (vfreeE L n)) /\ VV S0 w0 v b d (vfree L n) B w':=by
 have HF:=hid (vfind_calls hL hB hk n)
 have hfit:=vfindX_fits L n
 have HCO:=hid hC
 obtain ⟨x,hx⟩:∃ x,x = vfindX L n:=⟨_,rfl⟩
 obtain ⟨gE,hgE⟩:∃ e,e = vfindE L n:=⟨_,rfl⟩
 rw [<- hx,<- hgE] at HF
 rw [<- hx] at hfit
 clear hC
 by_cases hE:gE = 0
 ·have h0:vfindE L n = 0:=by rw [<- hgE];exact hE
  subst hE
  cases hf:vfullB L with
  | true =>
   obtain ⟨e1,e2⟩:=freeD_full h0 hf
   rw [e1,e2]
   have HFU:=hid hf
   clear e1 e2 h0 hgE hL hk hx hfit hf HCO
   go_enter Tryz.func59,Tryz.ntmps59
   go_wp2_with fail
   refine HF.out.mono ?_
   rintro e w2 ⟨rfl,L2⟩
   have HB3:=hid (Blk.new w2 tIno zeroI)
   have HL3:=hid (VV.box L2 hB tIno zeroI)
   clear L2
   go_wp2_with (with_reducible show wpList _ _ _ _ _ _;refine wpList_store_blk (x:=.tmp 5) (y:=.tmp 11) rfl rfl rfl HB3.out (inoL x) rfl (Tryz.sizeInoL _) (zero_len _) (ino_one _) ?_;intro w4 hb4 hf4 hs4;have L5:=VV.rerow HL3.out hB hb4 hf4;have HL5:=hid L5;clear L5 hb4 hf4)
   have HU:=vfull_calls HL5.out
   rw [HFU.out] at HU
   have HU:=hid HU
   refine HU.out.mono ?_
   rintro e w5 ⟨rfl,rfl⟩
   go_wp2_with fail
   go_ret
   exact ⟨rfl,VV.less HL5.out⟩
  | false =>
   obtain ⟨e1,e2⟩:=freeD_ok h0 hf
   have hC:=HCO.out e1
   rw [e1,e2,<- hx]
   rw [<- hx] at hC
   obtain ⟨_,m,rfl,hm32,_⟩:=vfind_at h0
   rw [Int.toNat_natCast]
   have HFU:=hid hf
   have hxs:=hfit.size
   have HKC:=hid (vok_cut hk x 0)
   have HCT:Hid (∀ xb W,VX S0 w0 v b d xb L x B W -> Calls Tryz.prog 114 #[.pointer (some ⟨v,0,none⟩),.pointer (some ⟨xb,0,none⟩),.int .i64 0] W fun e w'=>e = .returned (.tuple #[]) /\ VX S0 w0 v b d xb (vcut L x 0).1 (vcut L x 0).2 B w'):=hid fun xb W hW=>vcut_calls hW hB hk 0 (by omega) (by omega) hC
   clear e1 e2 h0 hgE hL hk hx hfit hf hC HCO
   generalize vcut L x 0 = q at *
   obtain ⟨M,y⟩:=q
   have HKC:Hid (VOk M):=HKC
   go_enter Tryz.func59,Tryz.ntmps59
   go_wp2_with fail
   refine HF.out.mono ?_
   rintro e w2 ⟨rfl,L2⟩
   have HB3:=hid (Blk.new w2 tIno zeroI)
   have HL3:=hid (VV.box L2 hB tIno zeroI)
   clear L2
   go_wp2_with (with_reducible show wpList _ _ _ _ _ _;refine wpList_store_blk (x:=.tmp 5) (y:=.tmp 11) rfl rfl rfl HB3.out (inoL x) rfl (Tryz.sizeInoL _) (zero_len _) (ino_one _) ?_;intro w4 hb4 hf4 hs4;have L5:=VV.rerow HL3.out hB hb4 hf4;have HL5:=hid L5;clear L5 hb4 hf4)
   have HU:=vfull_calls HL5.out
   rw [HFU.out] at HU
   have HU:=hid HU
   refine HU.out.mono ?_
   rintro e w5 ⟨rfl,rfl⟩
   have HC5:=hid (HCT.out _ _ HL5.out)
   go_wp2_with fail
   refine HC5.out.mono ?_
   rintro e w6 ⟨rfl,L6⟩
   have L6:VX S0 w0 v b d _ M y B w6:=L6
   have HKE:=hid (vkeep_calls L6 (loc_star (loc_blk _ _ _) hB) HKC.out m hm32 Ino.free free_fits)
   clear L6
   go_wp2_with fail
   refine HKE.out.mono ?_
   rintro e w7 ⟨rfl,L7⟩
   go_wp2_with fail
   go_ret
   exact ⟨rfl,VV.less L7⟩
 ·obtain ⟨e1,e2⟩:=freeD_find (show vfindE L n ≠ 0 by rw [<- hgE];exact hE)
  rw [e1,e2,<- hgE]
  have hE':(gE == 0) = false:=by rw [beq_eq_false_iff_ne];exact hE
  clear hE e1 e2 hgE hL hk hx hfit HCO
  go_enter Tryz.func59,Tryz.ntmps59
  go_wp2_with fail
  refine HF.out.mono ?_
  rintro e w2 ⟨rfl,L2⟩
  have HB3:=hid (Blk.new w2 tIno zeroI)
  have HL3:=hid (VV.box L2 hB tIno zeroI)
  clear L2
  go_wp2_with (with_reducible show wpList _ _ _ _ _ _;refine wpList_store_blk (x:=.tmp 5) (y:=.tmp 11) rfl rfl rfl HB3.out (inoL x) rfl (Tryz.sizeInoL _) (zero_len _) (ino_one _) ?_;intro w4 hb4 hf4 hs4;have L5:=VV.rerow HL3.out hB hb4 hf4;have HL5:=hid L5;clear L5 hb4 hf4)
  go_ret
  exact ⟨rfl,VV.less HL5.out⟩
end
end Go.Proofs.YtngalllaiphkhaaGreatDoor
