import Derived.Test.YtngalllaiphkhaaGreatDoorYNU
namespace Go.Proofs.YtngalllaiphkhaaGreatDoor
open Go.RowKit
open Go.Lib (hid)
set_option maxRecDepth 100000
set_option maxHeartbeats 16000000
section
variable {S0:Nat -> Prop} {w0 w:World} {v b d:Nat} {L:LSt} {B R:Asr}
theorem vwrite_ok1_calls (hL:VV S0 w0 v b d L B w) (hB:Loc B) (hk:VOk L) (m:Nat) (hm32:m < 32) (o:Nat) (s:ByteArray) (h0:vfindE L m = 0) (q1:o <= (vfindX L m).size) (q2:¬ 512 < s.size) (q4:o + s.size <= 2368) (hf:vfullB L = false)
 (q5:¬ (vroom L:Int) < (takesP (max (vfindX L m).size (o + s.size)):Int) - takesP (vfindX L m).size) (q8:5 < sectorsP (max (vfindX L m).size (o + s.size))) (q10:(vfindX L m).a5 ≠ 0) :
 Calls Tryz.prog 48 #[.pointer (some ⟨v,0,none⟩),.int .i64 m,.int .i64 o,.string s] w fun e w'=>e = .returned (.int .i64 0) /\ VV S0 w0 v b d (vkeep (vput (vgrown L (vfindX L m) (max (vfindX L m).size (o + s.size))).2 s.size (vgrown L (vfindX L m) (max (vfindX L m).size (o + s.size))).1 o s) m (vgrown L (vfindX L m) (max (vfindX L m).size (o + s.size))).2) B w':=by
 have HF:=hid (vfind_calls hL hB hk m)
 have hfit:=vfindX_fits L m
 obtain ⟨x,hx⟩:∃ x,x = vfindX L m:=⟨_,rfl⟩
 rw [<- hx,h0] at HF
 rw [<- hx] at hfit q1 q5 q8 ⊢
 obtain ⟨sz,hsz⟩:∃ sz,sz = max x.size (o + s.size):=⟨_,rfl⟩
 rw [<- hsz] at q5 q8
 have hxs:=hfit.size
 have q0:¬ (o:Int) < 0:=by omega
 have q3:¬ (512:Int) < (s.size:Int):=by omega
 have q6:¬ (x.size:Int) < (o:Int):=by omega
 have q7:¬ (2368:Int) < (o:Int) + (s.size:Int):=by omega
 have wr:IntKind.i64.wrap ((o:Int) + (s.size:Int)) = (o:Int) + (s.size:Int):=by rw [IntKind.wrap_i64] <;> omega
 have hmax:max (x.size:Int) ((o:Int) + (s.size:Int)) = (sz:Int):=by omega
 have hszb:sz < 65536:=by omega
 have HSZ:=hid hsz
 clear hsz
 have ht1:=takesP_le sz
 have ht2:=takesP_le x.size
 have wt:IntKind.i64.wrap ((takesP sz:Int) - (takesP x.size:Int)) = (takesP sz:Int) - (takesP x.size:Int):=by rw [IntKind.wrap_i64] <;> omega
 have HFU:=hid hf
 have HK:=hid hk
 have HT1:=hid (fun W=>vtakes_calls sz (by omega) W)
 have HT2:=hid (fun W=>vtakes_calls x.size (by omega) W)
 rw [<- hx] at q10
 have HSC:=hid (fun W=>vsectors_calls sz (by omega) W)
 have q9:(5:Int) < (sectorsP sz:Int):=by omega
 have q11:((x.a5:Int) == 0) = false:=by rw [beq_eq_false_iff_ne];omega
 have HVI:Hid (vindirect L x sz = (L,x)):=hid (by unfold vindirect;rw [if_neg (fun h=>q10 h.2)])
 clear h0 hL hk hx q2 hf q1
 go_enter Tryz.func48,Tryz.ntmps48
 go_wp2_with fail
 refine HF.out.mono ?_
 rintro e w2 ⟨rfl,L2⟩
 have HB3:=hid (Blk.new w2 tIno zeroI)
 have HL3:=hid (VV.box L2 hB tIno zeroI)
 clear L2
 go_wp2_with (with_reducible show wpList _ _ _ _ _ _;refine wpList_store_blk (x:=.tmp 9) (y:=.tmp 20) rfl rfl rfl HB3.out (inoL x) rfl (Tryz.sizeInoL _) (zero_len _) (ino_one _) ?_;intro w4 hb4 hf4 hs4;have c2:=hb4.cell (j:=2) rfl;have L5:=VV.rerow HL3.out hB hb4 hf4;have HL5:=hid L5;clear L5 hb4 hf4)
 have HU:=vfull_calls HL5.out
 rw [HFU.out] at HU
 have HU:=hid HU
 refine HU.out.mono ?_
 rintro e w5 ⟨rfl,rfl⟩
 have HLD:=hid (Lv.drew HL5.out (VV.loc (loc_star (loc_blk _ _ _) hB)))
 have HRM:=hid (vroom_calls HLD.out (loc_star (loc_blk _ _ _) hB) HK.out)
 go_wp2_with fail
 go_region_held3 (fun w'=>w'.cell? ⟨w2.heap.size,2,none⟩ = some (.int .i64 x.size))
  (first | go_keep | exact t0)
  (first | (go_at_call_of 94 (Value.int IntKind.i64 sz);refine (HT1.out _).mono ?_;rintro e w8 ⟨rfl,rfl⟩) | (go_at_call_of 94 (Value.int IntKind.i64 x.size);refine (HT2.out _).mono ?_;rintro e w8 ⟨rfl,rfl⟩) | (go_at_call 95;refine HRM.out.mono ?_;rintro e w6 ⟨rfl,L6⟩;have t0:=(VV.blk L6).cell (j:=2) rfl))
 obtain ⟨xb,hxb⟩:∃ xb,xb = w2.heap.size:=⟨_,rfl⟩
 have L6:VX S0 w0 v b d xb L x B w6:=by rw [hxb];exact L6
 rw [<- hxb]
 clear HU HLD HRM HL5 HB3 HL3 t0 hxb
 obtain ⟨M,hMe⟩:∃ M,M = L:=⟨_,rfl⟩
 obtain ⟨y,hye⟩:∃ y,y = x:=⟨_,rfl⟩
 have c8:=(VV.blk L6).cell (j:=8) rfl
 rw [<- hMe,<- hye] at L6
 have HVI:Hid (vindirect L x sz = (M,y)):=by rw [hMe,hye];exact HVI
 have HM:Hid (VOk M):=by rw [hMe];exact HK
 have HYS:Hid (y.size = x.size):=by rw [hye];exact hid rfl
 have HYF:Hid y.Fits:=by rw [hye];exact hid hfit
 clear hMe hye q8 q10
 have HKN:=hid (fun W=>vsectors_calls x.size (by omega) W)
 have HKS:=hid (fun W=>vsectors_calls sz (by omega) W)
 have hk0:sectorsP x.size <= 1024:=by unfold sectorsP;omega
 have hks:sectorsP sz <= sectorsP x.size \/ sectorsP sz <= 37:=by
  by_cases h:x.size < o + s.size
  ·right;have:=HSZ.out;unfold sectorsP;omega
  ·left;have:=HSZ.out;have:sz = x.size:=by omega
   rw [this];exact Nat.le_refl _
 have HKSB:=hid hks
 obtain ⟨k0,hk0e⟩:∃ k0,k0 = sectorsP x.size:=⟨_,rfl⟩
 obtain ⟨k1,hk1e⟩:∃ k1,k1 = sectorsP sz:=⟨_,rfl⟩
 rw [<- hk0e] at HKN hk0
 rw [<- hk1e] at HKS
 have HK0:=hid hk0e
 have HK1:=hid hk1e
 clear hk0e hk1e hks
 have c2:=(VV.blk L6).cell (j:=2) rfl
 rw [HYS.out] at c2
 have HL6:Hid (VX S0 w0 v b d xb (growF (M,y) k0 0).1 (growF (M,y) k0 0).2 B w6):=hid L6
 have HGF:Hid (∀ j,VOk (growF (M,y) k0 j).1 /\ (growF (M,y) k0 j).2.size = y.size /\ (growF (M,y) k0 j).2.Fits):=hid (growF_keeps HM.out HYF.out k0)
 clear L6 wr hmax ht1 ht2 wt hfit
 go_wp2_with fail
 refine (HSC.out _).mono ?_
 rintro e w7 ⟨rfl,rfl⟩
 go_wp2_with fail
 clear c8 q9 q11
 clear q5
 refine (HKN.out _).mono ?_
 rintro e w7 ⟨rfl,rfl⟩
 go_wp2_with fail
 clear c2
 go_loopw [12,13] (fun s12 _ wr=>∃ j:Nat,k0 + j <= max k0 k1 /\ s12 = .int .i64 (k0 + j:Nat) /\ Hid (VX S0 w0 v b d xb (growF (M,y) k0 j).1 (growF (M,y) k0 j).2 B wr)) (fun s12 _ _=>k1 - (intOf s12).toNat)
 case atStart=>exact ⟨0,by omega,rfl,HL6⟩
 case round =>
  obtain ⟨j,hj,rfl,HLr⟩:=hrel
  clear HL6
  by_cases hlt:k0 + j < k1
  ·have h37:k0 + j < 37:=by have:=HKSB.out;have:=HK0.out;have:=HK1.out;omega
   have hlt':((k0 + j:Nat):Int) < (k1:Int):=by omega
   have HTK:=hid (vtake_calls HLr.out (loc_star (loc_blk _ _ _) hB) (HGF.out j).1)
   obtain ⟨p,hp⟩:∃ p,p = growF (M,y) k0 j:=⟨_,rfl⟩
   have hsucc:=growF_succ (M,y) k0 j
   rw [<- hp] at hsucc HTK HLr
   have hpk:=HGF.out j
   rw [<- hp] at hpk
   obtain ⟨Lp,xp⟩:=p
   have HSU:Hid (growF (M,y) k0 (j + 1) = vgrow (Lp,xp) (k0 + j)):=hid hsucc
   have HPK:Hid (VOk Lp /\ xp.size = y.size /\ xp.Fits):=hid hpk
   have HTK:Hid (Calls Tryz.prog 97 #[.pointer (some ⟨v,0,none⟩)] wr fun e w'=>e = .returned (.int .i64 (vtakeN Lp:Nat)) /\ VX S0 w0 v b d xb (vtake Lp) xp B w'):=HTK
   clear hp hsucc hpk HLr
   go_wp2_with fail
   refine (HKS.out _).mono ?_
   rintro e w8 ⟨rfl,rfl⟩
   go_wp2_with fail
   refine HTK.out.mono ?_
   rintro e w9 ⟨rfl,L9⟩
   have q9:=VV.cell L9
   have HL9:=hid (Lv.drew L9 (VV.loc (loc_star (loc_blk _ _ _) hB)))
   have HNO:=hid (Lv.calls HL9.out (VV.loc (loc_star (loc_blk _ _ _) hB)) (vnought_calls _))
   have HST:Hid (∀ W,VX S0 w0 v b d xb (vtake Lp) xp B W -> Calls Tryz.prog 98 #[.pointer (some ⟨b,0,none⟩),.int .i64 (vtakeN Lp:Nat),.string nought] W fun e w'=>e = .returned (.int .i64 ((vtake Lp).setE (vtakeN Lp:Nat) nought)) /\ VX S0 w0 v b d xb ((vtake Lp).set (vtakeN Lp:Nat) nought) xp B w') :=
    hid fun W hW=>lv_set hW (VV.locB (loc_star (loc_blk _ _ _) hB)) (vok_take HPK.out.1).ok _ _
   clear L9 HTK
   go_wp2_with fail
   go_region_held3 (fun w'=>w'.cell? ⟨v,0,none⟩ = some (.pointer (some ⟨b,0,none⟩)))
    (first | go_keep | exact t0)
    (first | (go_at_call 99;refine HNO.out.mono ?_;rintro e w10 ⟨rfl,L10⟩;have t0:=VV.cell L10) | (go_at_call 98;refine (HST.out _ L10).mono ?_;rintro e w11 ⟨rfl,L11⟩;have t0:=VV.cell L11))
   have htl:=vtakeN_lt HPK.out.1
   have HSE:=hid (vset_calls L11 hB (vok_set (vok_take HPK.out.1) _ _) (k0 + j) h37 (vtakeN Lp) (by omega))
   clear L10 L11 HNO HST HL9 t0 htl q9
   go_wp2_with fail
   refine HSE.out.mono ?_
   rintro e w12 ⟨rfl,L12⟩
   have HL12:Hid (VX S0 w0 v b d xb (growF (M,y) k0 (j + 1)).1 (growF (M,y) k0 (j + 1)).2 B w12):=by rw [HSU.out];exact L12
   clear L12 HSE
   have wj:IntKind.i64.wrap (((k0 + j:Nat):Int) + 1) = ((k0 + (j + 1):Nat):Int):=by rw [IntKind.wrap_i64] <;> omega
   go_wp2_with fail
   go_roundw
   case rel=>exact ⟨j + 1,by omega,by go_num,HL12⟩
   case measure=>simp [intOf];omega
  ·obtain rfl:j = k1 - k0:=by omega
   have hg:=HGF.out (k1 - k0)
   have hge:¬ ((k0 + (k1 - k0):Nat):Int) < (k1:Int):=by omega
   have hvg:vgrown L x sz = ((growF (M,y) k0 (k1 - k0)).1,{ (growF (M,y) k0 (k1 - k0)).2 with size:=sz }):=by rw [vgrown_eq,HVI.out,<- HK0.out,<- HK1.out]
   generalize growF (M,y) k0 (k1 - k0) = g at *
   obtain ⟨Lg,xg⟩:=g
   obtain ⟨z,hz⟩:∃ z:Ino,z = { xg with size:=sz }:=⟨_,rfl⟩
   have hvg:vgrown L x sz = (Lg,z):=by rw [hvg,hz]
   have HVG:=hid hvg
   have HLr:Hid (VX S0 w0 v b d xb Lg xg B wr):=HLr
   have hc:=VV.cell1 HLr.out hB 2 (.int .i64 sz)
   have hrow:(inoL xg).set 2 (.int .i64 sz) = inoL z:=by rw [hz];rfl
   rw [hrow] at hc
   have HZ:Hid (VX S0 w0 v b d xb Lg z B (wr.setCell ⟨xb,2,none⟩ (.int .i64 sz))):=hid hc
   have HZF:Hid z.Fits:=by rw [hz];exact hid (resize_fits hg.2.2 _ (by omega))
   have HZK:Hid (VOk Lg):=hid hg.1
   have c2:=(VV.blk HLr.out).cell (j:=2) rfl
   have f2:=(VV.blk HLr.out).free 2
   have HQ2:Hid (s.size <= 512):=hid (by omega)
   have HQ4:=hid q4
   clear hg hvg hc hrow hz HLr HGF hj hlt HKSB hszb hxs q3 q6 q7 q4 hk0
   go_wp2_with fail
   refine (HKS.out _).mono ?_
   rintro e w8 ⟨rfl,rfl⟩
   go_wp2_with fail
   clear c2 f2 hge
   go_loopw [2,3,14,15] (fun s2 s3 _ _ wr=>∃ (Lc:LSt) (oc:Nat) (sc:ByteArray) (fc:Nat),s2 = .int .i64 oc /\ s3 = .string sc /\ Hid (vput z fc Lc oc sc = vput z s.size Lg o s) /\ sc.size <= fc /\ sc.size <= 512 /\ oc + sc.size <= 2368 /\ Hid (VOk Lc) /\ Hid (VX S0 w0 v b d xb Lc z B wr)) (fun s2 _ _ _ _=>2368 - (intOf s2).toNat)
   case atStart=>exact ⟨Lg,o,s,s.size,rfl,rfl,hid rfl,Nat.le_refl _,HQ2.out,HQ4.out,HZK,HZ⟩
   case round =>
    obtain ⟨Lc,oc,sc,fc,rfl,rfl,HFI,hfc,hsc,hoc,HKC,HLc⟩:=hrel
    clear HZ
    by_cases hs0:sc.size = 0
    ·have hs1:(sc.size:Int) = 0:=by omega
     have hfin:=HFI.out
     rw [vput_nil _ _ _ _ _ hs0] at hfin
     have HFIN:=hid hfin
     have HB9:=hid (VV.blk HLc.out)
     have HKP:=hid (vkeep_calls HLc.out (loc_star (loc_blk _ _ _) hB) HKC.out m hm32 z HZF.out)
     clear hfin hs0 hfc hsc hoc
     go_wp2_with (with_reducible show wpList _ _ _ _ _ _;refine wpList_load_blk (x:=.tmp 9) rfl rfl rfl HB9.out Tryz.underlying161 rfl (Tryz.sizeInoL _) ?_)
     refine HKP.out.mono ?_
     rintro e w20 ⟨rfl,L20⟩
     go_wp2_with fail
     go_ret
     refine ⟨rfl,?_⟩
     rw [<- HSZ.out,HVG.out]
     show VV S0 w0 v b d (vkeep (vput z s.size Lg o s) m z) B w20
     rw [<- HFIN.out]
     exact VV.less L20
    ·have hs1:(0:Int) < (sc.size:Int):=by omega
     obtain ⟨f,rfl⟩:∃ f,fc = f + 1:=⟨fc - 1,by omega⟩
     have hfi:=HFI.out
     rw [vput_succ _ _ _ _ _ hs0] at hfi
     obtain ⟨nn,hnn⟩:∃ nn,nn = min sc.size (64 - oc % 64):=⟨_,rfl⟩
     rw [<- hnn] at hfi
     have HFI2:=hid hfi
     have hoff:oc / 64 < 37:=by omega
     have hsx:(sc.extract 0 nn).size = nn:=by rw [ByteArray.size_extract];omega
     have hsy:(sc.extract nn sc.size).size = sc.size - nn:=by rw [ByteArray.size_extract];omega
     have HAT:Hid (∀ W,VX S0 w0 v b d xb Lc z B W -> Calls Tryz.prog 102 #[.pointer (some ⟨v,0,none⟩),.pointer (some ⟨xb,0,none⟩),.int .i64 (oc / 64:Nat)] W fun e w'=>e = .returned (.int .i64 (vat Lc z (oc / 64):Nat)) /\ VX S0 w0 v b d xb Lc z B w'):=hid fun W hW=>vat_calls hW hB HKC.out _ hoff
     have HPA:Hid (∀ W,VX S0 w0 v b d xb Lc z B W -> Calls Tryz.prog 101 #[.pointer (some ⟨v,0,none⟩),.int .i64 (vat Lc z (oc / 64):Nat),.int .i64 (oc % 64:Nat),.string (sc.extract 0 nn)] W fun e w'=>e = .returned (.tuple #[]) /\ VX S0 w0 v b d xb (vpatch Lc (vat Lc z (oc / 64):Nat) (oc % 64) (sc.extract 0 nn)) z B w') :=
      hid fun W hW=>vpatch_calls hW (loc_star (loc_blk _ _ _) hB) HKC.out _ _ _ (by rw [hsx];omega)
     have HKC2:=hid (vok_patch HKC.out (vat Lc z (oc / 64):Nat) (oc % 64) (sc.extract 0 nn))
     have HLD:=hid (Lv.drew HLc.out (VV.loc (loc_star (loc_blk _ _ _) hB)))
     have HSY:=hid hsy
     obtain ⟨rr,hrr⟩:∃ rr,rr = oc % 64:=⟨_,rfl⟩
     obtain ⟨qq,hqq⟩:∃ qq,qq = oc / 64:=⟨_,rfl⟩
     have n0:(oc:Int).tmod 64 = (rr:Int):=by rw [Int.tmod_eq_emod_of_nonneg (by omega)];omega
     have n1:IntKind.i64.wrap (64 - (rr:Int)) = ((64 - rr:Nat):Int):=by rw [IntKind.wrap_i64] <;> omega
     have n2:min (sc.size:Int) ((64 - rr:Nat):Int) = (nn:Int):=by omega
     have n3:(oc:Int).tdiv 64 = (qq:Int):=by rw [Int.tdiv_eq_ediv_of_nonneg (by omega)];omega
     have n4:IntKind.i64.wrap (qq:Int) = (qq:Int):=by rw [IntKind.wrap_i64];omega
     have n5:nn <= sc.size:=by omega
     have n6:IntKind.i64.wrap ((oc:Int) + (nn:Int)) = ((oc + nn:Nat):Int):=by rw [IntKind.wrap_i64] <;> omega
     have n7:(nn:Int) <= (sc.size:Int):=by omega
     have n8:0 < nn:=by omega
     rw [<- hrr,<- hqq] at HPA HKC2 HFI2
     rw [<- hqq] at HAT
     clear hfi hnn hsx hsy hoff hrr hqq hs0 HLc
     go_wp2_with fail
     go_region_held3 (fun _=>True)
      (first | go_keep | trivial)
      (first | (go_at_call 102;refine (HAT.out _ HLD.out).mono ?_;rintro e w21 ⟨rfl,L21⟩) | (go_at_call 101;refine (HPA.out _ L21).mono ?_;rintro e w22 ⟨rfl,L22⟩))
     have L23:=Lv.drew L22 (VV.loc (loc_star (loc_blk _ _ _) hB))
     have HL23:=hid L23
     clear L21 L22 L23 HLD HAT HPA
     go_wp2_with fail
     refine wp_region_reads (by kernel_rfl) (by kernel_rfl) ?_
     repeat still_step
     refine wpStill_nil ?_
     go_wp2_with fail
     go_roundw
     case rel=>exact ⟨_,oc + nn,sc.extract nn sc.size,f,by go_num,rfl,HFI2,by rw [HSY.out];omega,by rw [HSY.out];omega,by rw [HSY.out];omega,HKC2,HL23⟩
     case measure=>simp [intOf];omega
theorem vwrite_ok2_calls (hL:VV S0 w0 v b d L B w) (hB:Loc B) (hk:VOk L) (m:Nat) (hm32:m < 32) (o:Nat) (s:ByteArray) (h0:vfindE L m = 0) (q1:o <= (vfindX L m).size) (q2:¬ 512 < s.size) (q4:o + s.size <= 2368) (hf:vfullB L = false)
 (q5:¬ (vroom L:Int) < (takesP (max (vfindX L m).size (o + s.size)):Int) - takesP (vfindX L m).size) (q8:5 < sectorsP (max (vfindX L m).size (o + s.size))) (q10:(vfindX L m).a5 = 0) :
 Calls Tryz.prog 48 #[.pointer (some ⟨v,0,none⟩),.int .i64 m,.int .i64 o,.string s] w fun e w'=>e = .returned (.int .i64 0) /\ VV S0 w0 v b d (vkeep (vput (vgrown L (vfindX L m) (max (vfindX L m).size (o + s.size))).2 s.size (vgrown L (vfindX L m) (max (vfindX L m).size (o + s.size))).1 o s) m (vgrown L (vfindX L m) (max (vfindX L m).size (o + s.size))).2) B w':=by
 have HF:=hid (vfind_calls hL hB hk m)
 have hfit:=vfindX_fits L m
 obtain ⟨x,hx⟩:∃ x,x = vfindX L m:=⟨_,rfl⟩
 rw [<- hx,h0] at HF
 rw [<- hx] at hfit q1 q5 q8 ⊢
 obtain ⟨sz,hsz⟩:∃ sz,sz = max x.size (o + s.size):=⟨_,rfl⟩
 rw [<- hsz] at q5 q8
 have hxs:=hfit.size
 have q0:¬ (o:Int) < 0:=by omega
 have q3:¬ (512:Int) < (s.size:Int):=by omega
 have q6:¬ (x.size:Int) < (o:Int):=by omega
 have q7:¬ (2368:Int) < (o:Int) + (s.size:Int):=by omega
 have wr:IntKind.i64.wrap ((o:Int) + (s.size:Int)) = (o:Int) + (s.size:Int):=by rw [IntKind.wrap_i64] <;> omega
 have hmax:max (x.size:Int) ((o:Int) + (s.size:Int)) = (sz:Int):=by omega
 have hszb:sz < 65536:=by omega
 have HSZ:=hid hsz
 clear hsz
 have ht1:=takesP_le sz
 have ht2:=takesP_le x.size
 have wt:IntKind.i64.wrap ((takesP sz:Int) - (takesP x.size:Int)) = (takesP sz:Int) - (takesP x.size:Int):=by rw [IntKind.wrap_i64] <;> omega
 have HFU:=hid hf
 have HK:=hid hk
 have HT1:=hid (fun W=>vtakes_calls sz (by omega) W)
 have HT2:=hid (fun W=>vtakes_calls x.size (by omega) W)
 rw [<- hx] at q10
 have HSC:=hid (fun W=>vsectors_calls sz (by omega) W)
 have q9:(5:Int) < (sectorsP sz:Int):=by omega
 have q11:(x.a5:Int) = 0:=by omega
 have HVI:Hid (vindirect L x sz = ((vtake L).set (vtakeN L:Nat) nought,x.put 5 (vtakeN L))):=hid (by unfold vindirect;rw [if_pos ⟨q8,q10⟩])
 have htl:=vtakeN_lt hk
 have HTL:=hid htl
 clear htl
 clear h0 hL hk hx q2 hf q1
 go_enter Tryz.func48,Tryz.ntmps48
 go_wp2_with fail
 refine HF.out.mono ?_
 rintro e w2 ⟨rfl,L2⟩
 have HB3:=hid (Blk.new w2 tIno zeroI)
 have HL3:=hid (VV.box L2 hB tIno zeroI)
 clear L2
 go_wp2_with (with_reducible show wpList _ _ _ _ _ _;refine wpList_store_blk (x:=.tmp 9) (y:=.tmp 20) rfl rfl rfl HB3.out (inoL x) rfl (Tryz.sizeInoL _) (zero_len _) (ino_one _) ?_;intro w4 hb4 hf4 hs4;have c2:=hb4.cell (j:=2) rfl;have L5:=VV.rerow HL3.out hB hb4 hf4;have HL5:=hid L5;clear L5 hb4 hf4)
 have HU:=vfull_calls HL5.out
 rw [HFU.out] at HU
 have HU:=hid HU
 refine HU.out.mono ?_
 rintro e w5 ⟨rfl,rfl⟩
 have HLD:=hid (Lv.drew HL5.out (VV.loc (loc_star (loc_blk _ _ _) hB)))
 have HRM:=hid (vroom_calls HLD.out (loc_star (loc_blk _ _ _) hB) HK.out)
 go_wp2_with fail
 go_region_held3 (fun w'=>w'.cell? ⟨w2.heap.size,2,none⟩ = some (.int .i64 x.size))
  (first | go_keep | exact t0)
  (first | (go_at_call_of 94 (Value.int IntKind.i64 sz);refine (HT1.out _).mono ?_;rintro e w8 ⟨rfl,rfl⟩) | (go_at_call_of 94 (Value.int IntKind.i64 x.size);refine (HT2.out _).mono ?_;rintro e w8 ⟨rfl,rfl⟩) | (go_at_call 95;refine HRM.out.mono ?_;rintro e w6 ⟨rfl,L6⟩;have t0:=(VV.blk L6).cell (j:=2) rfl))
 obtain ⟨xb,hxb⟩:∃ xb,xb = w2.heap.size:=⟨_,rfl⟩
 have L6:VX S0 w0 v b d xb L x B w6:=by rw [hxb];exact L6
 rw [<- hxb]
 clear HU HLD HRM HL5 HB3 HL3 t0 hxb
 have c8:=(VV.blk L6).cell (j:=8) rfl
 have f8:=(VV.blk L6).free 8
 have HTK:Hid (Calls Tryz.prog 97 #[.pointer (some ⟨v,0,none⟩)] w6 fun e w'=>e = .returned (.int .i64 (vtakeN L:Nat)) /\ VX S0 w0 v b d xb (vtake L) x B w'):=hid (vtake_calls L6 (loc_star (loc_blk _ _ _) hB) HK.out)
 clear L6 q8 q10
 go_wp2_with fail
 refine (HSC.out _).mono ?_
 rintro e w7 ⟨rfl,rfl⟩
 go_wp2_with fail
 refine HTK.out.mono ?_
 rintro e w9 ⟨rfl,L9⟩
 clear c8 f8
 have c8:=(VV.blk L9).cell (j:=8) rfl
 have f8:=(VV.blk L9).free 8
 have q12:=VV.cell L9
 have hc:=VV.cell1 L9 hB 8 (.int .i64 (vtakeN L:Nat))
 have hrow:(inoL x).set 8 (.int .i64 (vtakeN L:Nat)) = inoL (x.put 5 (vtakeN L)):=rfl
 rw [hrow] at hc
 obtain ⟨y,hye⟩:∃ y,y = x.put 5 (vtakeN L):=⟨_,rfl⟩
 rw [<- hye] at hc HVI
 have ha5:y.a5 = vtakeN L:=by rw [hye];rfl
 have HYS:Hid (y.size = x.size):=by rw [hye];exact hid rfl
 have HYF:Hid y.Fits:=by rw [hye];exact hid (put_fits hfit 5 _ (by have:=HTL.out;omega))
 have HC:Hid (VX S0 w0 v b d xb (vtake L) y B (w9.setCell ⟨xb,8,none⟩ (.int .i64 (vtakeN L:Nat)))):=hid hc
 have HLD:=hid (Lv.drew HC.out (VV.loc (loc_star (loc_blk _ _ _) hB)))
 have HNO:=hid (Lv.calls HLD.out (VV.loc (loc_star (loc_blk _ _ _) hB)) (vnought_calls _))
 have HST:Hid (∀ W,VX S0 w0 v b d xb (vtake L) y B W -> Calls Tryz.prog 98 #[.pointer (some ⟨b,0,none⟩),.int .i64 (vtakeN L:Nat),.string nought] W fun e w'=>e = .returned (.int .i64 ((vtake L).setE (vtakeN L:Nat) nought)) /\ VX S0 w0 v b d xb ((vtake L).set (vtakeN L:Nat) nought) y B w') :=
  hid fun W hW=>lv_set hW (VV.locB (loc_star (loc_blk _ _ _) hB)) (vok_take HK.out).ok _ _
 have q13:=VV.cell HC.out
 have q14:(w9.setCell ⟨xb,8,none⟩ (.int .i64 (vtakeN L:Nat))).cell? ⟨xb,8,none⟩ = some (.int .i64 (vtakeN L:Nat)):=by have h:=(VV.blk HC.out).cell (j:=8) rfl;rw [ha5] at h;exact h
 have HA5:=hid ha5
 clear L9 hc hrow hye HTK ha5
 go_wp2_with fail
 go_region_held3 (fun w'=>w'.cell? ⟨v,0,none⟩ = some (.pointer (some ⟨b,0,none⟩)) /\ w'.cell? ⟨xb,8,none⟩ = some (.int .i64 (vtakeN L:Nat)))
  (first | go_keep | exact t0)
  (first | (go_at_call 99;refine HNO.out.mono ?_;rintro e w10 ⟨rfl,L10⟩;have t0:=And.intro (VV.cell L10) ((VV.blk L10).cell (j:=8) rfl);have hh:=HA5.out;rw [hh] at t0;clear hh) | (go_at_call 98;refine (HST.out _ L10).mono ?_;rintro e w11 ⟨rfl,L11⟩;have t0:=And.intro (VV.cell L11) ((VV.blk L11).cell (j:=8) rfl);have hh:=HA5.out;rw [hh] at t0;clear hh))
 obtain ⟨M,hMe⟩:∃ M,M = (vtake L).set (vtakeN L:Nat) nought:=⟨_,rfl⟩
 have HM:Hid (VOk M):=by rw [hMe];exact hid (vok_set (vok_take HK.out) _ _)
 have L6:VX S0 w0 v b d xb M y B w11:=by rw [hMe];exact L11
 rw [<- hMe] at HVI
 clear hMe L10 L11 t0 HNO HST HLD HC q12 q13 q14 c8 f8 q9 q11
 have HKN:=hid (fun W=>vsectors_calls x.size (by omega) W)
 have HKS:=hid (fun W=>vsectors_calls sz (by omega) W)
 have hk0:sectorsP x.size <= 1024:=by unfold sectorsP;omega
 have hks:sectorsP sz <= sectorsP x.size \/ sectorsP sz <= 37:=by
  by_cases h:x.size < o + s.size
  ·right;have:=HSZ.out;unfold sectorsP;omega
  ·left;have:=HSZ.out;have:sz = x.size:=by omega
   rw [this];exact Nat.le_refl _
 have HKSB:=hid hks
 obtain ⟨k0,hk0e⟩:∃ k0,k0 = sectorsP x.size:=⟨_,rfl⟩
 obtain ⟨k1,hk1e⟩:∃ k1,k1 = sectorsP sz:=⟨_,rfl⟩
 rw [<- hk0e] at HKN hk0
 rw [<- hk1e] at HKS
 have HK0:=hid hk0e
 have HK1:=hid hk1e
 clear hk0e hk1e hks
 have c2:=(VV.blk L6).cell (j:=2) rfl
 rw [HYS.out] at c2
 have HL6:Hid (VX S0 w0 v b d xb (growF (M,y) k0 0).1 (growF (M,y) k0 0).2 B w11):=hid L6
 have HGF:Hid (∀ j,VOk (growF (M,y) k0 j).1 /\ (growF (M,y) k0 j).2.size = y.size /\ (growF (M,y) k0 j).2.Fits):=hid (growF_keeps HM.out HYF.out k0)
 clear L6 wr hmax ht1 ht2 wt hfit
 go_wp2_with fail
 clear q5
 refine (HKN.out _).mono ?_
 rintro e w7 ⟨rfl,rfl⟩
 go_wp2_with fail
 clear c2
 go_loopw [12,13] (fun s12 _ wr=>∃ j:Nat,k0 + j <= max k0 k1 /\ s12 = .int .i64 (k0 + j:Nat) /\ Hid (VX S0 w0 v b d xb (growF (M,y) k0 j).1 (growF (M,y) k0 j).2 B wr)) (fun s12 _ _=>k1 - (intOf s12).toNat)
 case atStart=>exact ⟨0,by omega,rfl,HL6⟩
 case round =>
  obtain ⟨j,hj,rfl,HLr⟩:=hrel
  clear HL6
  by_cases hlt:k0 + j < k1
  ·have h37:k0 + j < 37:=by have:=HKSB.out;have:=HK0.out;have:=HK1.out;omega
   have hlt':((k0 + j:Nat):Int) < (k1:Int):=by omega
   have HTK:=hid (vtake_calls HLr.out (loc_star (loc_blk _ _ _) hB) (HGF.out j).1)
   obtain ⟨p,hp⟩:∃ p,p = growF (M,y) k0 j:=⟨_,rfl⟩
   have hsucc:=growF_succ (M,y) k0 j
   rw [<- hp] at hsucc HTK HLr
   have hpk:=HGF.out j
   rw [<- hp] at hpk
   obtain ⟨Lp,xp⟩:=p
   have HSU:Hid (growF (M,y) k0 (j + 1) = vgrow (Lp,xp) (k0 + j)):=hid hsucc
   have HPK:Hid (VOk Lp /\ xp.size = y.size /\ xp.Fits):=hid hpk
   have HTK:Hid (Calls Tryz.prog 97 #[.pointer (some ⟨v,0,none⟩)] wr fun e w'=>e = .returned (.int .i64 (vtakeN Lp:Nat)) /\ VX S0 w0 v b d xb (vtake Lp) xp B w'):=HTK
   clear hp hsucc hpk HLr
   go_wp2_with fail
   refine (HKS.out _).mono ?_
   rintro e w8 ⟨rfl,rfl⟩
   go_wp2_with fail
   refine HTK.out.mono ?_
   rintro e w9 ⟨rfl,L9⟩
   have q9:=VV.cell L9
   have HL9:=hid (Lv.drew L9 (VV.loc (loc_star (loc_blk _ _ _) hB)))
   have HNO:=hid (Lv.calls HL9.out (VV.loc (loc_star (loc_blk _ _ _) hB)) (vnought_calls _))
   have HST:Hid (∀ W,VX S0 w0 v b d xb (vtake Lp) xp B W -> Calls Tryz.prog 98 #[.pointer (some ⟨b,0,none⟩),.int .i64 (vtakeN Lp:Nat),.string nought] W fun e w'=>e = .returned (.int .i64 ((vtake Lp).setE (vtakeN Lp:Nat) nought)) /\ VX S0 w0 v b d xb ((vtake Lp).set (vtakeN Lp:Nat) nought) xp B w') :=
    hid fun W hW=>lv_set hW (VV.locB (loc_star (loc_blk _ _ _) hB)) (vok_take HPK.out.1).ok _ _
   clear L9 HTK
   go_wp2_with fail
   go_region_held3 (fun w'=>w'.cell? ⟨v,0,none⟩ = some (.pointer (some ⟨b,0,none⟩)))
    (first | go_keep | exact t0)
    (first | (go_at_call 99;refine HNO.out.mono ?_;rintro e w10 ⟨rfl,L10⟩;have t0:=VV.cell L10) | (go_at_call 98;refine (HST.out _ L10).mono ?_;rintro e w11 ⟨rfl,L11⟩;have t0:=VV.cell L11))
   have htl:=vtakeN_lt HPK.out.1
   have HSE:=hid (vset_calls L11 hB (vok_set (vok_take HPK.out.1) _ _) (k0 + j) h37 (vtakeN Lp) (by omega))
   clear L10 L11 HNO HST HL9 t0 htl q9
   go_wp2_with fail
   refine HSE.out.mono ?_
   rintro e w12 ⟨rfl,L12⟩
   have HL12:Hid (VX S0 w0 v b d xb (growF (M,y) k0 (j + 1)).1 (growF (M,y) k0 (j + 1)).2 B w12):=by rw [HSU.out];exact L12
   clear L12 HSE
   have wj:IntKind.i64.wrap (((k0 + j:Nat):Int) + 1) = ((k0 + (j + 1):Nat):Int):=by rw [IntKind.wrap_i64] <;> omega
   go_wp2_with fail
   go_roundw
   case rel=>exact ⟨j + 1,by omega,by go_num,HL12⟩
   case measure=>simp [intOf];omega
  ·obtain rfl:j = k1 - k0:=by omega
   have hg:=HGF.out (k1 - k0)
   have hge:¬ ((k0 + (k1 - k0):Nat):Int) < (k1:Int):=by omega
   have hvg:vgrown L x sz = ((growF (M,y) k0 (k1 - k0)).1,{ (growF (M,y) k0 (k1 - k0)).2 with size:=sz }):=by rw [vgrown_eq,HVI.out,<- HK0.out,<- HK1.out]
   generalize growF (M,y) k0 (k1 - k0) = g at *
   obtain ⟨Lg,xg⟩:=g
   obtain ⟨z,hz⟩:∃ z:Ino,z = { xg with size:=sz }:=⟨_,rfl⟩
   have hvg:vgrown L x sz = (Lg,z):=by rw [hvg,hz]
   have HVG:=hid hvg
   have HLr:Hid (VX S0 w0 v b d xb Lg xg B wr):=HLr
   have hc:=VV.cell1 HLr.out hB 2 (.int .i64 sz)
   have hrow:(inoL xg).set 2 (.int .i64 sz) = inoL z:=by rw [hz];rfl
   rw [hrow] at hc
   have HZ:Hid (VX S0 w0 v b d xb Lg z B (wr.setCell ⟨xb,2,none⟩ (.int .i64 sz))):=hid hc
   have HZF:Hid z.Fits:=by rw [hz];exact hid (resize_fits hg.2.2 _ (by omega))
   have HZK:Hid (VOk Lg):=hid hg.1
   have c2:=(VV.blk HLr.out).cell (j:=2) rfl
   have f2:=(VV.blk HLr.out).free 2
   have HQ2:Hid (s.size <= 512):=hid (by omega)
   have HQ4:=hid q4
   clear hg hvg hc hrow hz HLr HGF hj hlt HKSB hszb hxs q3 q6 q7 q4 hk0
   go_wp2_with fail
   refine (HKS.out _).mono ?_
   rintro e w8 ⟨rfl,rfl⟩
   go_wp2_with fail
   clear c2 f2 hge
   go_loopw [2,3,14,15] (fun s2 s3 _ _ wr=>∃ (Lc:LSt) (oc:Nat) (sc:ByteArray) (fc:Nat),s2 = .int .i64 oc /\ s3 = .string sc /\ Hid (vput z fc Lc oc sc = vput z s.size Lg o s) /\ sc.size <= fc /\ sc.size <= 512 /\ oc + sc.size <= 2368 /\ Hid (VOk Lc) /\ Hid (VX S0 w0 v b d xb Lc z B wr)) (fun s2 _ _ _ _=>2368 - (intOf s2).toNat)
   case atStart=>exact ⟨Lg,o,s,s.size,rfl,rfl,hid rfl,Nat.le_refl _,HQ2.out,HQ4.out,HZK,HZ⟩
   case round =>
    obtain ⟨Lc,oc,sc,fc,rfl,rfl,HFI,hfc,hsc,hoc,HKC,HLc⟩:=hrel
    clear HZ
    by_cases hs0:sc.size = 0
    ·have hs1:(sc.size:Int) = 0:=by omega
     have hfin:=HFI.out
     rw [vput_nil _ _ _ _ _ hs0] at hfin
     have HFIN:=hid hfin
     have HB9:=hid (VV.blk HLc.out)
     have HKP:=hid (vkeep_calls HLc.out (loc_star (loc_blk _ _ _) hB) HKC.out m hm32 z HZF.out)
     clear hfin hs0 hfc hsc hoc
     go_wp2_with (with_reducible show wpList _ _ _ _ _ _;refine wpList_load_blk (x:=.tmp 9) rfl rfl rfl HB9.out Tryz.underlying161 rfl (Tryz.sizeInoL _) ?_)
     refine HKP.out.mono ?_
     rintro e w20 ⟨rfl,L20⟩
     go_wp2_with fail
     go_ret
     refine ⟨rfl,?_⟩
     rw [<- HSZ.out,HVG.out]
     show VV S0 w0 v b d (vkeep (vput z s.size Lg o s) m z) B w20
     rw [<- HFIN.out]
     exact VV.less L20
    ·have hs1:(0:Int) < (sc.size:Int):=by omega
     obtain ⟨f,rfl⟩:∃ f,fc = f + 1:=⟨fc - 1,by omega⟩
     have hfi:=HFI.out
     rw [vput_succ _ _ _ _ _ hs0] at hfi
     obtain ⟨nn,hnn⟩:∃ nn,nn = min sc.size (64 - oc % 64):=⟨_,rfl⟩
     rw [<- hnn] at hfi
     have HFI2:=hid hfi
     have hoff:oc / 64 < 37:=by omega
     have hsx:(sc.extract 0 nn).size = nn:=by rw [ByteArray.size_extract];omega
     have hsy:(sc.extract nn sc.size).size = sc.size - nn:=by rw [ByteArray.size_extract];omega
     have HAT:Hid (∀ W,VX S0 w0 v b d xb Lc z B W -> Calls Tryz.prog 102 #[.pointer (some ⟨v,0,none⟩),.pointer (some ⟨xb,0,none⟩),.int .i64 (oc / 64:Nat)] W fun e w'=>e = .returned (.int .i64 (vat Lc z (oc / 64):Nat)) /\ VX S0 w0 v b d xb Lc z B w'):=hid fun W hW=>vat_calls hW hB HKC.out _ hoff
     have HPA:Hid (∀ W,VX S0 w0 v b d xb Lc z B W -> Calls Tryz.prog 101 #[.pointer (some ⟨v,0,none⟩),.int .i64 (vat Lc z (oc / 64):Nat),.int .i64 (oc % 64:Nat),.string (sc.extract 0 nn)] W fun e w'=>e = .returned (.tuple #[]) /\ VX S0 w0 v b d xb (vpatch Lc (vat Lc z (oc / 64):Nat) (oc % 64) (sc.extract 0 nn)) z B w') :=
      hid fun W hW=>vpatch_calls hW (loc_star (loc_blk _ _ _) hB) HKC.out _ _ _ (by rw [hsx];omega)
     have HKC2:=hid (vok_patch HKC.out (vat Lc z (oc / 64):Nat) (oc % 64) (sc.extract 0 nn))
     have HLD:=hid (Lv.drew HLc.out (VV.loc (loc_star (loc_blk _ _ _) hB)))
     have HSY:=hid hsy
     obtain ⟨rr,hrr⟩:∃ rr,rr = oc % 64:=⟨_,rfl⟩
     obtain ⟨qq,hqq⟩:∃ qq,qq = oc / 64:=⟨_,rfl⟩
     have n0:(oc:Int).tmod 64 = (rr:Int):=by rw [Int.tmod_eq_emod_of_nonneg (by omega)];omega
     have n1:IntKind.i64.wrap (64 - (rr:Int)) = ((64 - rr:Nat):Int):=by rw [IntKind.wrap_i64] <;> omega
     have n2:min (sc.size:Int) ((64 - rr:Nat):Int) = (nn:Int):=by omega
     have n3:(oc:Int).tdiv 64 = (qq:Int):=by rw [Int.tdiv_eq_ediv_of_nonneg (by omega)];omega
     have n4:IntKind.i64.wrap (qq:Int) = (qq:Int):=by rw [IntKind.wrap_i64];omega
     have n5:nn <= sc.size:=by omega
     have n6:IntKind.i64.wrap ((oc:Int) + (nn:Int)) = ((oc + nn:Nat):Int):=by rw [IntKind.wrap_i64] <;> omega
     have n7:(nn:Int) <= (sc.size:Int):=by omega
     have n8:0 < nn:=by omega
     rw [<- hrr,<- hqq] at HPA HKC2 HFI2
     rw [<- hqq] at HAT
     clear hfi hnn hsx hsy hoff hrr hqq hs0 HLc
     go_wp2_with fail
     go_region_held3 (fun _=>True)
      (first | go_keep | trivial)
      (first | (go_at_call 102;refine (HAT.out _ HLD.out).mono ?_;rintro e w21 ⟨rfl,L21⟩) | (go_at_call 101;refine (HPA.out _ L21).mono ?_;rintro e w22 ⟨rfl,L22⟩))
     have L23:=Lv.drew L22 (VV.loc (loc_star (loc_blk _ _ _) hB))
     have HL23:=hid L23
     clear L21 L22 L23 HLD HAT HPA
     go_wp2_with fail
     refine wp_region_reads (by kernel_rfl) (by kernel_rfl) ?_
     repeat still_step
     refine wpStill_nil ?_
     go_wp2_with fail
     go_roundw
     case rel=>exact ⟨_,oc + nn,sc.extract nn sc.size,f,by go_num,rfl,HFI2,by rw [HSY.out];omega,by rw [HSY.out];omega,by rw [HSY.out];omega,HKC2,HL23⟩
     case measure=>simp [intOf];omega
theorem vwrite_calls (hL:VV S0 w0 v b d L B w) (hB:Loc B) (hk:VOk L) (n off:Int) (s:ByteArray) :
 Calls Tryz.prog 48 #[.pointer (some ⟨v,0,none⟩),.int .i64 n,.int .i64 off,.string s] w fun e w'=>e = .returned (.int .i64 (vwriteE L n off s)) /\ VV S0 w0 v b d (vwrite L n off s) B w':=by
 by_cases h0:vfindE L n = 0
 ·by_cases q0:off < 0
  ·obtain ⟨e1,e2⟩:=vwrite_arg h0 (.inl q0)
   rw [e1,e2]
   exact vwrite_arg0_calls hL hB hk n off s h0 q0
  ·by_cases q1:((vfindX L n).size:Int) < off
   ·obtain ⟨e1,e2⟩:=vwrite_arg h0 (.inr (.inl q1))
    rw [e1,e2]
    exact vwrite_arg1_calls hL hB hk n off s h0 q0 q1
   ·by_cases q2:512 < s.size
    ·obtain ⟨e1,e2⟩:=vwrite_arg h0 (.inr (.inr q2))
     rw [e1,e2]
     exact vwrite_arg2_calls hL hB hk n off s h0 q0 q1 q2
    ·have hna:¬ (off < 0 \/ ((vfindX L n).size:Int) < off \/ 512 < s.size):=fun h=>h.elim q0 fun h=>h.elim q1 q2
     by_cases q4:2368 < off + s.size
     ·obtain ⟨e1,e2⟩:=vwrite_many h0 hna q4
      rw [e1,e2]
      exact vwrite_many_calls hL hB hk n off s h0 q0 q1 q2 q4
     ·cases hf:vfullB L with
      | true =>
       obtain ⟨e1,e2⟩:=vwrite_full h0 hna q4 hf
       rw [e1,e2]
       exact vwrite_full_calls hL hB hk n off s h0 q0 q1 q2 q4 hf
      | false =>
       obtain ⟨o,rfl⟩:∃ o:Nat,off = o:=⟨off.toNat,by omega⟩
       by_cases q5:(vroom L:Int) < (takesP (max (vfindX L n).size (o + s.size)):Int) - takesP (vfindX L n).size
       ·obtain ⟨e1,e2⟩:=vwrite_room h0 hna q4 hf (by rw [Int.toNat_natCast];exact q5)
        rw [e1,e2]
        exact vwrite_room_calls hL hB hk n o s h0 (by omega) q2 (by omega) hf q5
       ·obtain ⟨e1,e2⟩:=vwrite_ok h0 hna q4 hf (by rw [Int.toNat_natCast];exact q5)
        obtain ⟨_,m,rfl,hm32,_⟩:=vfind_at h0
        rw [e1,e2,Int.toNat_natCast,Int.toNat_natCast]
        by_cases q8:5 < sectorsP (max (vfindX L m).size (o + s.size))
        ·by_cases q10:(vfindX L m).a5 = 0
         ·exact vwrite_ok2_calls hL hB hk m hm32 o s h0 (by omega) q2 (by omega) hf q5 q8 q10
         ·exact vwrite_ok1_calls hL hB hk m hm32 o s h0 (by omega) q2 (by omega) hf q5 q8 q10
        ·exact vwrite_ok0_calls hL hB hk m hm32 o s h0 (by omega) q2 (by omega) hf q5 q8
 ·obtain ⟨e1,e2⟩:=vwrite_find (off:=off) (s:=s) h0
  rw [e1,e2]
  exact vwrite_find_calls hL hB hk n off s h0
end
end Go.Proofs.YtngalllaiphkhaaGreatDoor
