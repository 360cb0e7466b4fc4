import Derived.Test.YtngalllaiphkhaaGreatDoorYNC
namespace Go.Proofs.YtngalllaiphkhaaGreatDoor
open Go.RowKit
open Go.Lib (hid)
set_option maxRecDepth 100000
set_option maxHeartbeats 16000000
theorem turn_row {b e:Nat} {cs ds:List Value} {w w':World} (hb:Blk w' b e ds) (hf:Fr (· = b) w w'):Turn w w' (blkA b e cs) (blkA b e ds) :=
 fun _ h=>⟨⟨hb,.inl h.2⟩,hf.mono fun _ e=>by rw [e];exact h.2⟩
section
variable {S0:Nat -> Prop} {w0 w:World} {v b d:Nat} {L:LSt} {B R:Asr}
theorem VV.inn (h:Lv S0 w0 (Star R (Star (lgA b d L.stg L.dead) (Star (dskA kD d L.D) (Star (blkA v tVol [.pointer (some ⟨b,0,none⟩)]) B)))) w):VV S0 w0 v b d L (Star R B) w :=
 h.map fun _ h=>star_right (star_flip h) fun _ h=>star_right (star_flip h) fun _ h=>star_flip h
theorem VV.out (h:VV S0 w0 v b d L (Star R B) w):Lv S0 w0 (Star R (Star (lgA b d L.stg L.dead) (Star (dskA kD d L.D) (Star (blkA v tVol [.pointer (some ⟨b,0,none⟩)]) B)))) w :=
 h.map fun _ h=>star_flip (star_right h fun _ h=>star_flip (star_right h fun _ h=>star_flip h))
theorem VV.box (h:VV S0 w0 v b d L B w) (hB:Loc B) (e:Nat) (cs:List Value):VV S0 w0 v b d L (Star (blkA w.heap.size e cs) B) (w.alloc (.cells cs.toArray e)):=VV.inn (Lv.box h (VV.loc hB) e cs)
theorem VV.blk {c e:Nat} {cs:List Value} (h:VV S0 w0 v b d L (Star (blkA c e cs) B) w):Blk w c e cs:=by
 obtain ⟨_,⟨h1,_⟩⟩:=(VV.out h).first
 exact h1
theorem VV.rerow {c e:Nat} {cs ds:List Value} {w':World} (h:VV S0 w0 v b d L (Star (blkA c e cs) B) w) (hB:Loc B) (hb:Blk w' c e ds) (hf:Fr (· = c) w w'):VV S0 w0 v b d L (Star (blkA c e ds) B) w' :=
 VV.inn ((VV.out h).turn (VV.loc hB) (turn_row hb hf))
theorem VV.less (h:VV S0 w0 v b d L (Star R B) w):VV S0 w0 v b d L B w:=(VV.out h).drop
abbrev zeroI:List Value:=[.int .i64 0,.int .i64 0,.int .i64 0,.int .i64 0,.int .i64 0,.int .i64 0,.int .i64 0,.int .i64 0,.int .i64 0]
theorem zero_len (x:Ino):zeroI.length = (inoL x).length:=rfl
theorem ino_one (x:Ino):(inoL x).toArray.all (·.oneCell') = true:=by simp [inoL,Value.oneCell']
theorem Tryz.sizeIno:(Tryz.prog.info? tIno).map (·.size) = some 9:=by kernel_rfl
theorem Tryz.sizeInoL (x:Ino):(Tryz.prog.info? tIno).map (·.size) = some (inoL x).length:=by rw [Tryz.sizeIno];rfl
theorem vinode_calls (hL:VV S0 w0 v b d L B w) (hB:Loc B) (hk:VOk L) (n:Nat) (hn:n < 32) :
 Calls Tryz.prog 92 #[.pointer (some ⟨v,0,none⟩),.int .i64 n] w fun e w'=>e = .returned (inoV (vinode L n)) /\ VV S0 w0 v b d L B w':=by
 have hsz:=vget_size hk (1 + n / 4:Nat)
 have hszi:((vget L (1 + n / 4:Nat)).size:Int) = 64:=by omega
 have L1:=VV.box hL hB tIno zeroI
 have hB1:Loc (Star (blkA w.heap.size tIno zeroI) B):=loc_star (loc_blk _ _ _) hB
 have HG:=vget_calls L1 hB1 hk (1 + n / 4:Nat)
 have hcast:((1 + n / 4:Nat):Int) = 1 + (n:Int) / 4:=by omega
 rw [hcast] at HG hsz hszi
 have HG:=hid HG
 have HV:Hid (decodeP ((vget L (1 + (n:Int) / 4)).extract (n % 4 * 16) (n % 4 * 16 + 16)) = vinode L n):=hid (by unfold vinode;rw [hcast])
 have hd16:((vget L (1 + (n:Int) / 4)).extract (n % 4 * 16) (n % 4 * 16 + 16)).size = 16:=by rw [ByteArray.size_extract];omega
 have HD:Hid (∀ W:World,Calls Tryz.prog 154 #[.string ((vget L (1 + (n:Int) / 4)).extract (n % 4 * 16) (n % 4 * 16 + 16))] W fun e w'=>e = .returned (inoV (vinode L n)) /\ Fr Nob W w'):=hid fun W=>by
  have h:=vdecode_calls hd16 W
  rw [HV.out] at h
  exact h
 clear hcast hd16 hL hk L1
 have h1:IntKind.i64.wrap (1 + (n:Int) / 4) = ((1 + n / 4:Nat):Int):=by rw [IntKind.wrap_i64] <;> omega
 have h0:(n:Int).tmod 4 = ((n % 4:Nat):Int):=by rw [Int.tmod_eq_emod_of_nonneg (by omega)];omega
 have h2:IntKind.i64.wrap (((n % 4:Nat):Int) * 16) = ((n % 4 * 16:Nat):Int):=by rw [IntKind.wrap_i64] <;> omega
 have h3:IntKind.i64.wrap (((n % 4 * 16:Nat):Int) + 16) = ((n % 4 * 16 + 16:Nat):Int):=by rw [IntKind.wrap_i64] <;> omega
 go_enter Tryz.func92,Tryz.ntmps92
 go_wp2_with fail
 refine HG.out.mono ?_
 rintro e w1 ⟨rfl,L2⟩
 go_wp2_with fail
 refine (HD.out _).mono ?_
 rintro e w2 ⟨rfl,hf2⟩
 have L3:=Lv.keep L2 (VV.loc hB1) hf2
 have HB3:=hid (VV.blk L3)
 have HL3:=hid L3
 clear L2 hf2 L3
 go_wp2_with (with_reducible show wpList _ _ _ _ _ _;refine wpList_store_blk (x:=.tmp 4) (y:=.tmp 18) rfl rfl rfl HB3.out (inoL (vinode L n)) rfl (Tryz.sizeInoL _) (zero_len _) (ino_one _) ?_;intro w4 hb4 hf4 hs4)
 have L5:=VV.less (VV.rerow HL3.out hB hb4 hf4)
 refine bodyPost_ret (results_blk rfl rfl hb4 Tryz.underlying161 rfl (Tryz.sizeInoL _)) rfl ?_
 exact ⟨rfl,L5⟩
theorem encodeP_size (x:Ino):(encodeP x).size = 16:=by rw [<- encTo_all,size_of_list,encTo_length x 6 (by omega)]
theorem vkeep_calls (hL:VV S0 w0 v b d L B w) (hB:Loc B) (hk:VOk L) (n:Nat) (hn:n < 32) (x:Ino) (hx:x.Fits) :
 Calls Tryz.prog 93 #[.pointer (some ⟨v,0,none⟩),.int .i64 n,inoV x] w fun e w'=>e = .returned (.tuple #[]) /\ VV S0 w0 v b d (vkeep L n x) B w':=by
 have L1:=VV.box hL hB tIno (inoL x)
 have hB1:Loc (Star (blkA w.heap.size tIno (inoL x)) B):=loc_star (loc_blk _ _ _) hB
 have hcast:((1 + n / 4:Nat):Int) = 1 + (n:Int) / 4:=by omega
 have hc2:((n % 4 * 16:Nat):Int) = (n:Int) % 4 * 16:=by omega
 have HK:Hid (vkeep L n x = vpatch L (1 + (n:Int) / 4) (n % 4 * 16) (encodeP x)):=hid (by unfold vkeep;rw [hcast])
 have HE:=hid (fun W=>vencode_calls x hx W)
 have HP:Hid (∀ W,VV S0 w0 v b d L (Star (blkA w.heap.size tIno (inoL x)) B) W -> Calls Tryz.prog 101 #[.pointer (some ⟨v,0,none⟩),.int .i64 (1 + (n:Int) / 4),.int .i64 ((n:Int) % 4 * 16),.string (encodeP x)] W fun e w'=>e = .returned (.tuple #[]) /\ VV S0 w0 v b d (vpatch L (1 + (n:Int) / 4) (n % 4 * 16) (encodeP x)) (Star (blkA w.heap.size tIno (inoL x)) B) w'):=hid fun W hW=>by
  have h:=vpatch_calls hW hB1 hk (1 + (n:Int) / 4) (n % 4 * 16) (encodeP x) (by rw [encodeP_size];omega)
  rw [hc2] at h
  exact h
 have HL1:=hid L1
 clear hL hk L1 hcast hc2 hx
 have h1:IntKind.i64.wrap (1 + (n:Int) / 4) = ((1 + n / 4:Nat):Int):=by rw [IntKind.wrap_i64] <;> omega
 have h0:(n:Int).tmod 4 = ((n % 4:Nat):Int):=by rw [Int.tmod_eq_emod_of_nonneg (by omega)];omega
 have h2:IntKind.i64.wrap (((n % 4:Nat):Int) * 16) = ((n % 4 * 16:Nat):Int):=by rw [IntKind.wrap_i64] <;> omega
 show Calls Tryz.prog 93 #[.pointer (some ⟨v,0,none⟩),.int .i64 n,.agg #[.int .i64 x.kind,.int .i64 x.links,.int .i64 x.size,.int .i64 x.a0,.int .i64 x.a1,.int .i64 x.a2,.int .i64 x.a3,.int .i64 x.a4,.int .i64 x.a5]] w _
 go_enter Tryz.func93,Tryz.ntmps93
 go_wp2_with fail
 refine (HE.out _).mono ?_
 rintro e w2 ⟨rfl,hf2⟩
 have L2:VV S0 w0 v b d L (Star (blkA w.heap.size tIno (inoL x)) B) w2:=Lv.keep HL1.out (VV.loc hB1) hf2
 have HL2:=hid L2
 clear L2 hf2
 go_wp2_with fail
 refine (HP.out _ HL2.out).mono ?_
 rintro e w3 ⟨rfl,L3⟩
 go_wp2_with fail
 refine ⟨rfl,.tuple #[],results_none rfl _ _ _,rfl,?_⟩
 rw [HK.out]
 exact VV.less L3
theorem find_dead {L:LSt} (h:L.getE 0 ≠ 0) (n:Int):vfindE L n = L.getE 0 /\ vfindX L n = Ino.free:=by
 have e:vfindE L n = L.getE 0:=by unfold vfindE;rw [if_pos h]
 refine ⟨e,?_⟩
 unfold vfindX
 rw [if_neg (by rw [e];exact h)]
theorem find_arg {L:LSt} (h:L.getE 0 = 0) {n:Int} (hn:n < 0 \/ 32 <= n):vfindE L n = 1 /\ vfindX L n = Ino.free:=by
 have e:vfindE L n = 1:=by unfold vfindE;rw [if_neg (by simpa using h),if_pos hn]
 refine ⟨e,?_⟩
 unfold vfindX
 rw [if_neg (by rw [e];decide)]
theorem find_none {L:LSt} (h:L.getE 0 = 0) {n:Nat} (hn:n < 32) (hk:(vinode L n).kind = 0):vfindE L n = 5 /\ vfindX L n = Ino.free:=by
 have e:vfindE L n = 5:=by unfold vfindE;rw [if_neg (by simpa using h),if_neg (by omega),Int.toNat_natCast,if_pos hk]
 refine ⟨e,?_⟩
 unfold vfindX
 rw [if_neg (by rw [e];decide)]
theorem find_ok {L:LSt} (h:L.getE 0 = 0) {n:Nat} (hn:n < 32) (hk:(vinode L n).kind ≠ 0):vfindE L n = 0 /\ vfindX L n = vinode L n:=by
 have e:vfindE L n = 0:=by unfold vfindE;rw [if_neg (by simpa using h),if_neg (by omega),Int.toNat_natCast,if_neg hk]
 refine ⟨e,?_⟩
 unfold vfindX
 rw [if_pos e,Int.toNat_natCast]
theorem vfind_calls (hL:VV S0 w0 v b d L B w) (hB:Loc B) (hk:VOk L) (n:Int) :
 Calls Tryz.prog 89 #[.pointer (some ⟨v,0,none⟩),.int .i64 n] w fun e w'=>e = .returned (.tuple #[inoV (vfindX L n),.int .i64 (vfindE L n)]) /\ VV S0 w0 v b d L B w':=by
 have L1:=VV.box hL hB tIno zeroI
 have hB1:Loc (Star (blkA w.heap.size tIno zeroI) B):=loc_star (loc_blk _ _ _) hB
 have HA:=hid (valive_calls L1 hB1 hk)
 obtain ⟨gE,hgE⟩:∃ e,e = L.getE 0:=⟨_,rfl⟩
 rw [<- hgE] at HA
 have HK:=hid hk
 have hI:∀ (n:Nat) W,n < 32 -> VV S0 w0 v b d L (Star (blkA w.heap.size tIno zeroI) B) W -> Calls Tryz.prog 92 #[.pointer (some ⟨v,0,none⟩),.int .i64 n] W fun e w'=>e = .returned (inoV (vinode L n)) /\ VV S0 w0 v b d L (Star (blkA w.heap.size tIno zeroI) B) w' :=
  fun n W hn hW=>vinode_calls hW hB1 hk n hn
 have HI:=hid hI
 clear hL L1 hk hI
 by_cases hE:gE = 0
 ·have hg0:L.getE 0 = 0:=by rw [<- hgE];exact hE
  subst hE
  by_cases hn:n < 0 \/ 32 <= n
  ·obtain ⟨e1,e2⟩:=find_arg hg0 hn
   rw [e1,e2]
   clear e1 e2 hg0 hgE
   by_cases hn0:n < 0
   ·clear hn
    go_enter Tryz.func89,Tryz.ntmps89
    go_wp2_with fail
    refine HA.out.mono ?_
    rintro e w2 ⟨rfl,L2⟩
    have HB3:=hid (VV.blk L2)
    have HL2:=hid L2
    clear L2
    go_wp2_with (with_reducible show wpList _ _ _ _ _ _;refine wpList_store_blk (x:=.tmp 4) (y:=.tmp 20) rfl rfl rfl HB3.out (inoL Ino.free) rfl (Tryz.sizeInoL _) (zero_len _) (ino_one _) ?_;intro w4 hb4 hf4 hs4)
    refine bodyPost_ret (results_blk_tmp rfl rfl hb4 Tryz.underlying161 rfl (Tryz.sizeInoL _)) rfl ?_
    exact ⟨rfl,VV.less (VV.rerow HL2.out hB hb4 hf4)⟩
   ·have hn1:32 <= n:=by omega
    clear hn
    go_enter Tryz.func89,Tryz.ntmps89
    go_wp2_with fail
    refine HA.out.mono ?_
    rintro e w2 ⟨rfl,L2⟩
    have HB3:=hid (VV.blk L2)
    have HL2:=hid L2
    clear L2
    go_wp2_with (with_reducible show wpList _ _ _ _ _ _;refine wpList_store_blk (x:=.tmp 4) (y:=.tmp 20) rfl rfl rfl HB3.out (inoL Ino.free) rfl (Tryz.sizeInoL _) (zero_len _) (ino_one _) ?_;intro w4 hb4 hf4 hs4)
    refine bodyPost_ret (results_blk_tmp rfl rfl hb4 Tryz.underlying161 rfl (Tryz.sizeInoL _)) rfl ?_
    exact ⟨rfl,VV.less (VV.rerow HL2.out hB hb4 hf4)⟩
  ·obtain ⟨k,rfl⟩:∃ k:Nat,n = k:=⟨n.toNat,by omega⟩
   have hk32:k < 32:=by omega
   have n1:¬ (k:Int) < 0:=by omega
   have n2:¬ 32 <= (k:Int):=by omega
   clear hn
   obtain ⟨x,hx⟩:∃ x,x = vinode L k:=⟨_,rfl⟩
   have HIK:=hid (fun W hW=>HI.out k W hk32 hW)
   rw [<- hx] at HIK
   have hkx:(x.kind:Int) = 0 \/ ¬ (x.kind:Int) = 0:=by omega
   by_cases hkd:x.kind = 0
   ·obtain ⟨e1,e2⟩:=find_none hg0 hk32 (by rw [<- hx];exact hkd)
    rw [e1,e2]
    clear e1 e2 hg0 hgE hkx hx HI
    have hkz:(x.kind:Int) = 0:=by omega
    go_enter Tryz.func89,Tryz.ntmps89
    go_wp2_with fail
    refine HA.out.mono ?_
    rintro e w2 ⟨rfl,L2⟩
    have HIW:=hid (HIK.out _ L2)
    clear L2 HIK
    go_wp2_with fail
    refine HIW.out.mono ?_
    rintro e w3 ⟨rfl,L3⟩
    have HB3:=hid (Blk.new w3 tIno zeroI)
    have HL3:=hid (VV.box L3 hB1 tIno zeroI)
    clear L3 HIW
    go_wp2_with (first | (with_reducible show wpList _ _ _ _ _ _;refine wpList_store_blk (x:=.tmp 7) (y:=.tmp 23) rfl rfl rfl HB3.out (inoL x) rfl (Tryz.sizeInoL _) (zero_len _) (ino_one _) ?_;intro w4 hb4 hf4 hs4;have c0:=hb4.cell (j:=0) rfl;have LL:=VV.rerow HL3.out hB1 hb4 hf4;have HB4:=hid hb4;have L5:=VV.less LL;have HB5:=hid (VV.blk L5);have HL5:=hid L5;clear LL L5 hb4 hf4) | (with_reducible show wpList _ _ _ _ _ _;refine wpList_store_blk (x:=.tmp 4) (y:=.tmp 27) rfl rfl rfl HB5.out (inoL Ino.free) rfl (Tryz.sizeInoL _) (zero_len _) (ino_one _) ?_;intro w6 hb6 hf6 hs6))
    refine bodyPost_ret (results_blk_tmp rfl rfl hb6 Tryz.underlying161 rfl (Tryz.sizeInoL _)) rfl ?_
    exact ⟨rfl,VV.less (VV.rerow HL5.out hB hb6 hf6)⟩
   ·obtain ⟨e1,e2⟩:=find_ok hg0 hk32 (by rw [<- hx];exact hkd)
    rw [e1,e2,<- hx]
    clear e1 e2 hg0 hgE hkx hx HI
    have hkz:((x.kind:Int) == 0) = false:=by rw [beq_eq_false_iff_ne];omega
    go_enter Tryz.func89,Tryz.ntmps89
    go_wp2_with fail
    refine HA.out.mono ?_
    rintro e w2 ⟨rfl,L2⟩
    have HIW:=hid (HIK.out _ L2)
    clear L2 HIK
    go_wp2_with fail
    refine HIW.out.mono ?_
    rintro e w3 ⟨rfl,L3⟩
    have HB3:=hid (Blk.new w3 tIno zeroI)
    have HL3:=hid (VV.box L3 hB1 tIno zeroI)
    clear L3 HIW
    go_wp2_with (first | (with_reducible show wpList _ _ _ _ _ _;refine wpList_store_blk (x:=.tmp 7) (y:=.tmp 23) rfl rfl rfl HB3.out (inoL x) rfl (Tryz.sizeInoL _) (zero_len _) (ino_one _) ?_;intro w4 hb4 hf4 hs4;have c0:=hb4.cell (j:=0) rfl;have LL:=VV.rerow HL3.out hB1 hb4 hf4;have HB4:=hid hb4;have L5:=VV.less LL;have HB5:=hid (VV.blk L5);have HL5:=hid L5;clear LL L5 hb4 hf4) | (with_reducible show wpList _ _ _ _ _ _;refine wpList_load_blk (x:=.tmp 7) rfl rfl rfl HB4.out Tryz.underlying161 rfl (Tryz.sizeInoL _) ?_) | (with_reducible show wpList _ _ _ _ _ _;refine wpList_store_blk (x:=.tmp 4) (y:=.tmp 28) rfl rfl rfl HB5.out (inoL x) rfl (Tryz.sizeInoL _) (zero_len _) (ino_one _) ?_;intro w6 hb6 hf6 hs6))
    refine bodyPost_ret (results_blk_tmp rfl rfl hb6 Tryz.underlying161 rfl (Tryz.sizeInoL _)) rfl ?_
    exact ⟨rfl,VV.less (VV.rerow HL5.out hB hb6 hf6)⟩
 ·obtain ⟨e1,e2⟩:=find_dead (L:=L) (by rw [<- hgE];exact hE) n
  rw [e1,e2,<- hgE]
  have hE':(gE == 0) = false:=by rw [beq_eq_false_iff_ne];exact hE
  clear hE e1 e2 hgE
  go_enter Tryz.func89,Tryz.ntmps89
  go_wp2_with fail
  refine HA.out.mono ?_
  rintro e w2 ⟨rfl,L2⟩
  have HB3:=hid (VV.blk L2)
  have HL2:=hid L2
  clear L2
  go_wp2_with (with_reducible show wpList _ _ _ _ _ _;refine wpList_store_blk (x:=.tmp 4) (y:=.tmp 12) rfl rfl rfl HB3.out (inoL Ino.free) rfl (Tryz.sizeInoL _) (zero_len _) (ino_one _) ?_;intro w4 hb4 hf4 hs4)
  refine bodyPost_ret (results_blk_tmp rfl rfl hb4 Tryz.underlying161 rfl (Tryz.sizeInoL _)) rfl ?_
  exact ⟨rfl,VV.less (VV.rerow HL2.out hB hb4 hf4)⟩
end
section
variable {S0:Nat -> Prop} {w0 w:World} {v b d xb:Nat} {L:LSt} {B R:Asr} {x:Ino}
abbrev VX (S0:Nat -> Prop) (w0:World) (v b d xb:Nat) (L:LSt) (x:Ino) (B:Asr) (w:World):Prop:=VV S0 w0 v b d L (Star (blkA xb tIno (inoL x)) B) w
theorem vat_calls (hL:VX S0 w0 v b d xb L x B w) (hB:Loc B) (hk:VOk L) (k:Nat) (hk37:k < 37) :
 Calls Tryz.prog 102 #[.pointer (some ⟨v,0,none⟩),.pointer (some ⟨xb,0,none⟩),.int .i64 k] w fun e w'=>e = .returned (.int .i64 (vat L x k:Nat)) /\ VX S0 w0 v b d xb L x B w':=by
 have hB1:Loc (Star (blkA xb tIno (inoL x)) B):=loc_star (loc_blk _ _ _) hB
 have hb:=VV.blk hL
 by_cases h5:k < 5
 ·have HL:=hid hL
  obtain rfl | rfl | rfl | rfl | rfl:k = 0 \/ k = 1 \/ k = 2 \/ k = 3 \/ k = 4:=by omega
  ·have c0:=hb.cell (j:=3 + 0) rfl
   have hv:vat L x 0 = x.a0:=rfl
   rw [hv]
   clear hL hb hk hk37 h5 hv hB hB1
   go_enter Tryz.func102,Tryz.ntmps102
   go_wp2_with fail
   go_ret
   exact ⟨rfl,HL.out⟩
  ·have c0:=hb.cell (j:=3 + 1) rfl
   have hv:vat L x 1 = x.a1:=rfl
   rw [hv]
   clear hL hb hk hk37 h5 hv hB hB1
   go_enter Tryz.func102,Tryz.ntmps102
   go_wp2_with fail
   go_ret
   exact ⟨rfl,HL.out⟩
  ·have c0:=hb.cell (j:=3 + 2) rfl
   have hv:vat L x 2 = x.a2:=rfl
   rw [hv]
   clear hL hb hk hk37 h5 hv hB hB1
   go_enter Tryz.func102,Tryz.ntmps102
   go_wp2_with fail
   go_ret
   exact ⟨rfl,HL.out⟩
  ·have c0:=hb.cell (j:=3 + 3) rfl
   have hv:vat L x 3 = x.a3:=rfl
   rw [hv]
   clear hL hb hk hk37 h5 hv hB hB1
   go_enter Tryz.func102,Tryz.ntmps102
   go_wp2_with fail
   go_ret
   exact ⟨rfl,HL.out⟩
  ·have c0:=hb.cell (j:=3 + 4) rfl
   have hv:vat L x 4 = x.a4:=rfl
   rw [hv]
   clear hL hb hk hk37 h5 hv hB hB1
   go_enter Tryz.func102,Tryz.ntmps102
   go_wp2_with fail
   go_ret
   exact ⟨rfl,HL.out⟩
 ·have hv:vat L x k = twoAt (vget L x.a5) (2 * (k - 5)):=by unfold vat;rw [if_neg h5]
  rw [hv]
  have hsz:=vget_size hk x.a5
  have hszi:((vget L x.a5).size:Int) = 64:=by omega
  have HG:=hid (vget_calls hL hB1 hk x.a5)
  have c0:=hb.cell (j:=8) rfl
  obtain ⟨q,hq⟩:∃ q,q = 2 * (k - 5):=⟨_,rfl⟩
  rw [<- hq]
  have HO:=hid (fun W=>wof_calls ((vget L x.a5).extract q (q + 2)) W (by rw [ByteArray.size_extract];omega))
  have hle:=le_at (s:=vget L x.a5) (i:=q) (by omega)
  rw [hle] at HO
  have ht:=twoAt_lt (vget L x.a5) q
  have he:IntKind.i64.wrap ((twoAt (vget L x.a5) q:Nat):Int) = ((twoAt (vget L x.a5) q:Nat):Int):=by rw [IntKind.wrap_i64];omega
  have k5:¬ (k:Int) < 5:=by omega
  have s1:(2:Int) * ((k:Int) - 5) = (q:Int):=by omega
  have s2:IntKind.i64.wrap ((q:Int) + 2) = ((q + 2:Nat):Int):=by rw [IntKind.wrap_i64] <;> omega
  have q1:q + 2 <= 64:=by omega
  have hlt:(k:Int) < 37:=by omega
  clear hL hb hk h5 hv hB hle hq hk37
  go_enter Tryz.func102,Tryz.ntmps102
  go_wp2_with fail
  refine HG.out.mono ?_
  rintro e w1 ⟨rfl,L1⟩
  go_wp2_with fail
  refine (HO.out _).mono ?_
  rintro e w2 ⟨rfl,hf2⟩
  have L3:=Lv.keep L1 (VV.loc hB1) hf2
  have HL3:=hid L3
  clear hf2 L1 L3
  go_wp2_with fail
  go_ret
  exact ⟨rfl,HL3.out⟩
theorem Ino.put_L (x:Ino) (k v:Nat) (hk:k < 5):inoL (x.put k v) = (inoL x).set (3 + k) (.int .i64 v):=by
 obtain rfl | rfl | rfl | rfl | rfl:k = 0 \/ k = 1 \/ k = 2 \/ k = 3 \/ k = 4:=by omega
 all_goals rfl
theorem VV.cell1 {e:Nat} {cs:List Value} (h:VV S0 w0 v b d L (Star (blkA xb e cs) B) w) (hB:Loc B) (j:Nat) (u:Value):VV S0 w0 v b d L (Star (blkA xb e (cs.set j u)) B) (w.setCell ⟨xb,j,none⟩ u) :=
 VV.rerow h hB (h.blk.set j u) (Fr.setCell (S:=(· = xb)) rfl w j u)
theorem vset_calls (hL:VX S0 w0 v b d xb L x B w) (hB:Loc B) (hk:VOk L) (k:Nat) (hk37:k < 37) (y:Nat) (hto:y < 65536) :
 Calls Tryz.prog 100 #[.pointer (some ⟨v,0,none⟩),.pointer (some ⟨xb,0,none⟩),.int .i64 k,.int .i64 y] w fun e w'=>e = .returned (.tuple #[]) /\ VX S0 w0 v b d xb (vsetL L x k y) (vsetX x k y) B w':=by
 have hB1:Loc (Star (blkA xb tIno (inoL x)) B):=loc_star (loc_blk _ _ _) hB
 have hb:=VV.blk hL
 by_cases h5:k < 5
 ·have e1:vsetL L x k y = L:=by unfold vsetL;rw [if_pos h5]
  have e2:vsetX x k y = x.put k y:=by unfold vsetX;rw [if_pos h5]
  rw [e1,e2]
  clear e1 e2
  have HL:=hid hL
  obtain rfl | rfl | rfl | rfl | rfl:k = 0 \/ k = 1 \/ k = 2 \/ k = 3 \/ k = 4:=by omega
  ·have c0:=hb.cell (j:=3 + 0) rfl
   have f0:=hb.free (3 + 0)
   have HL2:=hid (VV.cell1 hL hB (3 + 0) (.int .i64 y))
   clear hL hb hk hk37 h5 hto HL
   go_enter Tryz.func100,Tryz.ntmps100
   go_wp2_with fail
   refine bodyPost_ret (results_none rfl _ _ _) rfl ?_
   refine ⟨rfl,?_⟩
   unfold VX
   rw [Ino.put_L _ _ _ (by omega)]
   exact HL2.out
  ·have c0:=hb.cell (j:=3 + 1) rfl
   have f0:=hb.free (3 + 1)
   have HL2:=hid (VV.cell1 hL hB (3 + 1) (.int .i64 y))
   clear hL hb hk hk37 h5 hto HL
   go_enter Tryz.func100,Tryz.ntmps100
   go_wp2_with fail
   refine bodyPost_ret (results_none rfl _ _ _) rfl ?_
   refine ⟨rfl,?_⟩
   unfold VX
   rw [Ino.put_L _ _ _ (by omega)]
   exact HL2.out
  ·have c0:=hb.cell (j:=3 + 2) rfl
   have f0:=hb.free (3 + 2)
   have HL2:=hid (VV.cell1 hL hB (3 + 2) (.int .i64 y))
   clear hL hb hk hk37 h5 hto HL
   go_enter Tryz.func100,Tryz.ntmps100
   go_wp2_with fail
   refine bodyPost_ret (results_none rfl _ _ _) rfl ?_
   refine ⟨rfl,?_⟩
   unfold VX
   rw [Ino.put_L _ _ _ (by omega)]
   exact HL2.out
  ·have c0:=hb.cell (j:=3 + 3) rfl
   have f0:=hb.free (3 + 3)
   have HL2:=hid (VV.cell1 hL hB (3 + 3) (.int .i64 y))
   clear hL hb hk hk37 h5 hto HL
   go_enter Tryz.func100,Tryz.ntmps100
   go_wp2_with fail
   refine bodyPost_ret (results_none rfl _ _ _) rfl ?_
   refine ⟨rfl,?_⟩
   unfold VX
   rw [Ino.put_L _ _ _ (by omega)]
   exact HL2.out
  ·have c0:=hb.cell (j:=3 + 4) rfl
   have f0:=hb.free (3 + 4)
   have HL2:=hid (VV.cell1 hL hB (3 + 4) (.int .i64 y))
   clear hL hb hk hk37 h5 hto HL
   go_enter Tryz.func100,Tryz.ntmps100
   go_wp2_with fail
   refine bodyPost_ret (results_none rfl _ _ _) rfl ?_
   refine ⟨rfl,?_⟩
   unfold VX
   rw [Ino.put_L _ _ _ (by omega)]
   exact HL2.out
 ·have e1:vsetL L x k y = vpatch L x.a5 (2 * (k - 5)) ⟨(leBytes y 2).toArray⟩:=by unfold vsetL;rw [if_neg h5]
  have e2:vsetX x k y = x:=by unfold vsetX;rw [if_neg h5]
  rw [e1,e2]
  clear e1 e2
  obtain ⟨q,hq⟩:∃ q,q = 2 * (k - 5):=⟨_,rfl⟩
  rw [<- hq]
  have q1:q + 2 <= 64:=by omega
  have hsb:(⟨(leBytes y 2).toArray⟩:ByteArray).size = 2:=by rw [size_of_list,leBytes_length]
  have HP:Hid (∀ W,VX S0 w0 v b d xb L x B W -> Calls Tryz.prog 101 #[.pointer (some ⟨v,0,none⟩),.int .i64 x.a5,.int .i64 q,.string ⟨(leBytes y 2).toArray⟩] W fun e w'=>e = .returned (.tuple #[]) /\ VX S0 w0 v b d xb (vpatch L x.a5 q ⟨(leBytes y 2).toArray⟩) x B w'):=hid fun W hW=>vpatch_calls hW hB1 hk x.a5 q _ (by rw [hsb];exact q1)
  have HY:=hid (fun W=>wbytes_calls y 2 W (by omega) (by omega) (by omega))
  have c0:=hb.cell (j:=8) rfl
  have k5:¬ (k:Int) < 5:=by omega
  have s1:IntKind.i64.wrap ((k:Int) - 5) = (k:Int) - 5:=by rw [IntKind.wrap_i64] <;> omega
  have s3:IntKind.i64.wrap (2 * ((k:Int) - 5)) = (q:Int):=by rw [IntKind.wrap_i64] <;> omega
  have hwt:IntKind.u64.wrap (y:Int) = (y:Int):=by rw [wraps_u64 _ (by omega) (by omega)]
  have hlt:(k:Int) < 37:=by omega
  have HL:=hid (Lv.drew hL (VV.loc hB1))
  clear hL hb hk h5 hq hk37 hsb hto
  go_enter Tryz.func100,Tryz.ntmps100
  go_wp2_with fail
  go_region_held3 (fun w'=>w'.cell? ⟨xb,8,none⟩ = some (.int .i64 x.a5))
   (first | go_keep | exact t0)
   (first | (go_at_call 103;refine (HY.out _).mono ?_;rintro e w3 ⟨rfl,hf3⟩;have L3:=Lv.keep HL.out (VV.loc hB1) hf3;have t0:=(VV.blk L3).cell (j:=8) rfl) | (go_at_call 101;refine (HP.out _ L3).mono ?_;rintro e w5 ⟨rfl,L5⟩;have t0:=(VV.blk L5).cell (j:=8) rfl))
  go_end0
  exact ⟨rfl,L5⟩
end
section
variable {S0:Nat -> Prop} {w0 w:World} {v b d:Nat} {L:LSt} {B R:Asr}
theorem decodeP_fits (s:ByteArray):(decodeP s).Fits:=by
 have h1:=byteAt_lt s 0
 have h2:=byteAt_lt s 1
 exact ⟨by show byteAt s 0 < _;omega,by show byteAt s 1 < _;omega,twoAt_lt _ _,twoAt_lt _ _,twoAt_lt _ _,twoAt_lt _ _,twoAt_lt _ _,twoAt_lt _ _,twoAt_lt _ _⟩
theorem vinode_fits (L:LSt) (n:Nat):(vinode L n).Fits:=decodeP_fits _
theorem free_fits:Ino.free.Fits:=by constructor <;> decide
theorem vfindX_fits (L:LSt) (n:Int):(vfindX L n).Fits:=by
 unfold vfindX
 split
 ·exact vinode_fits _ _
 ·exact free_fits
theorem vfind_at {L:LSt} {n:Int} (h:vfindE L n = 0):L.getE 0 = 0 /\ ∃ k:Nat,n = k /\ k < 32 /\ vfindX L n = vinode L k /\ (vinode L k).kind ≠ 0:=by
 have hX:vfindX L n = vinode L n.toNat:=by unfold vfindX;rw [if_pos h]
 unfold vfindE at h
 split at h
 ·exact absurd h (by assumption)
 ·rename_i h0
  split at h
  ·cases h
  ·rename_i h1
   split at h
   ·cases h
   ·rename_i h2
    exact ⟨by simpa using h0,n.toNat,by omega,by omega,hX,h2⟩
theorem vok_mark {L:LSt} (h:VOk L) (i:Nat) (is:Bool):VOk (vmark L i is):=vok_patch h _ _ _
abbrev tStat:Nat:=30
theorem Tryz.sizeStat:(Tryz.prog.info? tStat).map (·.size) = some 3:=by kernel_rfl
def statL (x:Ino):List Value:=[.int .i64 x.kind,.int .i64 x.links,.int .i64 x.size]
def statV (x:Ino):Value:=.agg (statL x).toArray
theorem Tryz.sizeStatL (x:Ino):(Tryz.prog.info? tStat).map (·.size) = some (statL x).length:=by rw [Tryz.sizeStat];rfl
abbrev zeroS:List Value:=[.int .i64 0,.int .i64 0,.int .i64 0]
theorem zeroS_len (x:Ino):zeroS.length = (statL x).length:=rfl
theorem stat_one (x:Ino):(statL x).toArray.all (·.oneCell') = true:=by simp [statL,Value.oneCell']
theorem vstat_calls (hL:VV S0 w0 v b d L B w) (hB:Loc B) (hk:VOk L) (n:Int) :
 Calls Tryz.prog 44 #[.pointer (some ⟨v,0,none⟩),.int .i64 n] w fun e w'=>e = .returned (.tuple #[statV (vfindX L n),.int .i64 (vfindE L n)]) /\ VV S0 w0 v b d L B w':=by
 have L1:=VV.box hL hB tStat zeroS
 have hB1:Loc (Star (blkA w.heap.size tStat zeroS) B):=loc_star (loc_blk _ _ _) hB
 have HF:=hid (vfind_calls L1 hB1 hk n)
 obtain ⟨x,hx⟩:∃ x,x = vfindX L n:=⟨_,rfl⟩
 obtain ⟨gE,hgE⟩:∃ e,e = vfindE L n:=⟨_,rfl⟩
 rw [<- hx,<- hgE] at HF ⊢
 clear hL L1 hk hx hgE
 go_enter Tryz.func44,Tryz.ntmps44
 go_wp2_with fail
 refine HF.out.mono ?_
 rintro e w2 ⟨rfl,L2⟩
 have HB3:=hid (Blk.new w2 tIno zeroI)
 have HL3:=hid (VV.box L2 hB1 tIno zeroI)
 clear L2
 go_wp2_with (first | (with_reducible show wpList _ _ _ _ _ _;refine wpList_store_blk (x:=.tmp 6) (y:=.tmp 12) rfl rfl rfl HB3.out (inoL x) rfl (Tryz.sizeInoL _) (zero_len _) (ino_one _) ?_;intro w4 hb4 hf4 hs4;have c0:=hb4.cell (j:=0) rfl;have c1:=hb4.cell (j:=1) rfl;have c2:=hb4.cell (j:=2) rfl;have L5:=VV.less (VV.rerow HL3.out hB1 hb4 hf4);have HB5:=hid (VV.blk L5);have HL5:=hid L5;clear L5 hb4 hf4) | (with_reducible show wpList _ _ _ _ _ _;refine wpList_store_blk (x:=.tmp 4) (y:=.tmp 20) rfl rfl rfl HB5.out (statL x) rfl (Tryz.sizeStatL _) (zeroS_len _) (stat_one _) ?_;intro w6 hb6 hf6 hs6))
 refine bodyPost_ret (results_blk_tmp rfl rfl hb6 Tryz.underlying30 rfl (Tryz.sizeStatL _)) rfl ?_
 exact ⟨rfl,VV.less (VV.rerow HL5.out hB hb6 hf6)⟩
theorem link_find {L:LSt} {n by_:Int} (h:vfindE L n ≠ 0):vlinkE L n by_ = vfindE L n /\ vlink L n by_ = L:=by
 have e:vlinkE L n by_ = vfindE L n:=by unfold vlinkE;rw [if_pos h]
 refine ⟨e,?_⟩
 unfold vlink
 rw [if_neg (by rw [e];exact h)]
theorem link_many {L:LSt} {n by_:Int} (h:vfindE L n = 0) (h2:by_ < -255 \/ 255 < by_ \/ (vfindX L n).links + by_ < 0 \/ 255 < (vfindX L n).links + by_):vlinkE L n by_ = 15 /\ vlink L n by_ = L:=by
 have e:vlinkE L n by_ = 15:=by unfold vlinkE;rw [if_neg (by simpa using h),if_pos h2]
 refine ⟨e,?_⟩
 unfold vlink
 rw [if_neg (by rw [e];decide)]
theorem link_full {L:LSt} {n by_:Int} (h:vfindE L n = 0) (h2:¬ (by_ < -255 \/ 255 < by_ \/ (vfindX L n).links + by_ < 0 \/ 255 < (vfindX L n).links + by_)) (h3:vfullB L = true):vlinkE L n by_ = 4 /\ vlink L n by_ = L:=by
 have e:vlinkE L n by_ = 4:=by unfold vlinkE;rw [if_neg (by simpa using h),if_neg h2,if_pos h3]
 refine ⟨e,?_⟩
 unfold vlink
 rw [if_neg (by rw [e];decide)]
theorem link_ok {L:LSt} {n by_:Int} (h:vfindE L n = 0) (h2:¬ (by_ < -255 \/ 255 < by_ \/ (vfindX L n).links + by_ < 0 \/ 255 < (vfindX L n).links + by_)) (h3:vfullB L = false):vlinkE L n by_ = 0 /\ vlink L n by_ = vkeep L n.toNat { vfindX L n with links:=((vfindX L n).links + by_).toNat }:=by
 have e:vlinkE L n by_ = 0:=by unfold vlinkE;rw [if_neg (by simpa using h),if_neg h2,if_neg (by rw [h3];decide)]
 refine ⟨e,?_⟩
 unfold vlink
 rw [if_pos e]
theorem vlink_calls (hL:VV S0 w0 v b d L B w) (hB:Loc B) (hk:VOk L) (n by_:Int) :
 Calls Tryz.prog 47 #[.pointer (some ⟨v,0,none⟩),.int .i64 n,.int .i64 by_] w fun e w'=>e = .returned (.int .i64 (vlinkE L n by_)) /\ VV S0 w0 v b d (vlink L n by_) B w':=by
 have HF:=hid (vfind_calls hL hB hk n)
 have hfit:=vfindX_fits L n
 obtain ⟨x,hx⟩:∃ x,x = vfindX L n:=⟨_,rfl⟩
 obtain ⟨gE,hgE⟩:∃ e,e = vfindE L n:=⟨_,rfl⟩
 rw [<- hx,<- hgE] at HF
 rw [<- hx] at hfit
 by_cases hE:gE = 0
 ·have h0:vfindE L n = 0:=by rw [<- hgE];exact hE
  subst hE
  by_cases hm:by_ < -255 \/ 255 < by_ \/ (x.links:Int) + by_ < 0 \/ 255 < (x.links:Int) + by_
  ·obtain ⟨e1,e2⟩:=link_many h0 (by rw [<- hx];exact hm)
   rw [e1,e2]
   clear e1 e2 h0 hgE hL hk hx
   have hx1:=hfit.links
   clear hfit
   by_cases q0:by_ < -255
   ·clear hm
    go_enter Tryz.func47,Tryz.ntmps47
    go_wp2_with fail
    refine HF.out.mono ?_
    rintro e w2 ⟨rfl,L2⟩
    have HB3:=hid (Blk.new w2 tIno zeroI)
    have HL3:=hid (VV.box L2 hB tIno zeroI)
    clear L2
    go_wp2_with (with_reducible show wpList _ _ _ _ _ _;refine wpList_store_blk (x:=.tmp 7) (y:=.tmp 13) rfl rfl rfl HB3.out (inoL x) rfl (Tryz.sizeInoL _) (zero_len _) (ino_one _) ?_;intro w4 hb4 hf4 hs4;have c1:=hb4.cell (j:=1) rfl;have f1:=hb4.free 1;have L5:=VV.rerow HL3.out hB hb4 hf4;have HL5:=hid L5;clear L5 hb4 hf4)
    go_ret
    exact ⟨rfl,VV.less HL5.out⟩
   ·skip
    by_cases q1:255 < by_
    ·have m1:¬ by_ < -255:=by omega
     clear hm
     go_enter Tryz.func47,Tryz.ntmps47
     go_wp2_with fail
     refine HF.out.mono ?_
     rintro e w2 ⟨rfl,L2⟩
     have HB3:=hid (Blk.new w2 tIno zeroI)
     have HL3:=hid (VV.box L2 hB tIno zeroI)
     clear L2
     go_wp2_with (with_reducible show wpList _ _ _ _ _ _;refine wpList_store_blk (x:=.tmp 7) (y:=.tmp 13) rfl rfl rfl HB3.out (inoL x) rfl (Tryz.sizeInoL _) (zero_len _) (ino_one _) ?_;intro w4 hb4 hf4 hs4;have c1:=hb4.cell (j:=1) rfl;have f1:=hb4.free 1;have L5:=VV.rerow HL3.out hB hb4 hf4;have HL5:=hid L5;clear L5 hb4 hf4)
     go_ret
     exact ⟨rfl,VV.less HL5.out⟩
    ·skip
     by_cases q2:(x.links:Int) + by_ < 0
     ·have m1:¬ by_ < -255:=by omega
      have m2:¬ 255 < by_:=by omega
      have wr:IntKind.i64.wrap ((x.links:Int) + by_) = (x.links:Int) + by_:=by rw [IntKind.wrap_i64] <;> omega
      clear hm
      go_enter Tryz.func47,Tryz.ntmps47
      go_wp2_with fail
      refine HF.out.mono ?_
      rintro e w2 ⟨rfl,L2⟩
      have HB3:=hid (Blk.new w2 tIno zeroI)
      have HL3:=hid (VV.box L2 hB tIno zeroI)
      clear L2
      go_wp2_with (with_reducible show wpList _ _ _ _ _ _;refine wpList_store_blk (x:=.tmp 7) (y:=.tmp 13) rfl rfl rfl HB3.out (inoL x) rfl (Tryz.sizeInoL _) (zero_len _) (ino_one _) ?_;intro w4 hb4 hf4 hs4;have c1:=hb4.cell (j:=1) rfl;have f1:=hb4.free 1;have L5:=VV.rerow HL3.out hB hb4 hf4;have HL5:=hid L5;clear L5 hb4 hf4)
      go_ret
      exact ⟨rfl,VV.less HL5.out⟩
     ·skip
      have m1:¬ by_ < -255:=by omega
      have m2:¬ 255 < by_:=by omega
      have m3:¬ (x.links:Int) + by_ < 0:=by omega
      have m4:255 < (x.links:Int) + by_:=by omega
      have wr:IntKind.i64.wrap ((x.links:Int) + by_) = (x.links:Int) + by_:=by rw [IntKind.wrap_i64] <;> omega
      clear hm
      go_enter Tryz.func47,Tryz.ntmps47
      go_wp2_with fail
      refine HF.out.mono ?_
      rintro e w2 ⟨rfl,L2⟩
      have HB3:=hid (Blk.new w2 tIno zeroI)
      have HL3:=hid (VV.box L2 hB tIno zeroI)
      clear L2
      go_wp2_with (with_reducible show wpList _ _ _ _ _ _;refine wpList_store_blk (x:=.tmp 7) (y:=.tmp 13) rfl rfl rfl HB3.out (inoL x) rfl (Tryz.sizeInoL _) (zero_len _) (ino_one _) ?_;intro w4 hb4 hf4 hs4;have c1:=hb4.cell (j:=1) rfl;have f1:=hb4.free 1;have L5:=VV.rerow HL3.out hB hb4 hf4;have HL5:=hid L5;clear L5 hb4 hf4)
      go_ret
      exact ⟨rfl,VV.less HL5.out⟩
  ·have hx1:=hfit.links
   have m1:¬ by_ < -255:=by omega
   have m2:¬ 255 < by_:=by omega
   have m3:¬ (x.links:Int) + by_ < 0:=by omega
   have m4:¬ 255 < (x.links:Int) + by_:=by omega
   have wr:IntKind.i64.wrap ((x.links:Int) + by_) = (x.links:Int) + by_:=by rw [IntKind.wrap_i64] <;> omega
   cases hf:vfullB L with
   | true =>
    obtain ⟨e1,e2⟩:=link_full h0 (by rw [<- hx];exact hm) hf
    rw [e1,e2]
    have HFU:=hid hf
    clear e1 e2 h0 hgE hL hk hx hm hfit hf
    go_enter Tryz.func47,Tryz.ntmps47
    go_wp2_with fail
    refine HF.out.mono ?_
    rintro e w2 ⟨rfl,L2⟩
    have HB3:=hid (Blk.new w2 tIno zeroI)
    have HL3:=hid (VV.box L2 hB tIno zeroI)
    clear L2
    go_wp2_with (with_reducible show wpList _ _ _ _ _ _;refine wpList_store_blk (x:=.tmp 7) (y:=.tmp 13) rfl rfl rfl HB3.out (inoL x) rfl (Tryz.sizeInoL _) (zero_len _) (ino_one _) ?_;intro w4 hb4 hf4 hs4;have c1:=hb4.cell (j:=1) rfl;have f1:=hb4.free 1;have L5:=VV.rerow HL3.out hB hb4 hf4;have HL5:=hid L5;clear L5 hb4 hf4)
    have HU:=vfull_calls HL5.out
    rw [HFU.out] at HU
    have HU:=hid HU
    refine HU.out.mono ?_
    rintro e w5 ⟨rfl,rfl⟩
    go_wp2_with fail
    go_ret
    exact ⟨rfl,VV.less HL5.out⟩
   | false =>
    obtain ⟨e1,e2⟩:=link_ok h0 (by rw [<- hx];exact hm) hf
    rw [e1,e2,<- hx]
    obtain ⟨_,m,rfl,hm32,_⟩:=vfind_at h0
    rw [Int.toNat_natCast]
    have HFU:=hid hf
    obtain ⟨y,hy⟩:∃ y,y = ((x.links:Int) + by_).toNat:=⟨_,rfl⟩
    rw [<- hy]
    have hy2:(x.links:Int) + by_ = (y:Int):=by omega
    have hfy:({ x with links:=y }:Ino).Fits:=⟨hfit.kind,by show y < 65536;omega,hfit.size,hfit.a0,hfit.a1,hfit.a2,hfit.a3,hfit.a4,hfit.a5⟩
    have HY2:=hid hy2
    have HFY:=hid hfy
    have HK:=hid hk
    clear e1 e2 h0 hgE hL hk hx hm hfit hf hy hy2 hfy
    go_enter Tryz.func47,Tryz.ntmps47
    go_wp2_with fail
    refine HF.out.mono ?_
    rintro e w2 ⟨rfl,L2⟩
    have HB3:=hid (Blk.new w2 tIno zeroI)
    have HL3:=hid (VV.box L2 hB tIno zeroI)
    clear L2
    go_wp2_with (with_reducible show wpList _ _ _ _ _ _;refine wpList_store_blk (x:=.tmp 7) (y:=.tmp 13) rfl rfl rfl HB3.out (inoL x) rfl (Tryz.sizeInoL _) (zero_len _) (ino_one _) ?_;intro w4 hb4 hf4 hs4;have c1:=hb4.cell (j:=1) rfl;have f1:=hb4.free 1;have L5:=VV.rerow HL3.out hB hb4 hf4;have HL5:=hid L5;clear L5 hb4 hf4)
    have HU:=vfull_calls HL5.out
    rw [HFU.out] at HU
    have HU:=hid HU
    have hL6:=VV.cell1 HL5.out hB 1 (.int .i64 ((x.links:Int) + by_))
    have hrow:(inoL x).set 1 (.int .i64 ((x.links:Int) + by_)) = inoL { x with links:=y }:=by rw [HY2.out];rfl
    rw [hrow] at hL6
    have HB6:=hid (VV.blk hL6)
    have HKE:=hid (vkeep_calls hL6 (loc_star (loc_blk _ _ _) hB) HK.out m hm32 _ HFY.out)
    clear hL6 hrow
    refine HU.out.mono ?_
    rintro e w5 ⟨rfl,rfl⟩
    go_wp2_with (with_reducible show wpList _ _ _ _ _ _;refine wpList_load_blk (x:=.tmp 7) rfl rfl rfl HB6.out Tryz.underlying161 rfl (Tryz.sizeInoL _) ?_)
    refine HKE.out.mono ?_
    rintro e w6 ⟨rfl,L6⟩
    go_wp2_with fail
    go_ret
    exact ⟨rfl,VV.less L6⟩
 ·obtain ⟨e1,e2⟩:=link_find (by_:=by_) (show vfindE L n ≠ 0 by rw [<- hgE];exact hE)
  rw [e1,e2,<- hgE]
  have hE':(gE == 0) = false:=by rw [beq_eq_false_iff_ne];exact hE
  clear hE e1 e2 hgE hL hk hx hfit
  go_enter Tryz.func47,Tryz.ntmps47
  go_wp2_with fail
  refine HF.out.mono ?_
  rintro e w2 ⟨rfl,L2⟩
  have HB3:=hid (Blk.new w2 tIno zeroI)
  have HL3:=hid (VV.box L2 hB tIno zeroI)
  clear L2
  go_wp2_with (with_reducible show wpList _ _ _ _ _ _;refine wpList_store_blk (x:=.tmp 7) (y:=.tmp 13) rfl rfl rfl HB3.out (inoL x) rfl (Tryz.sizeInoL _) (zero_len _) (ino_one _) ?_;intro w4 hb4 hf4 hs4;have L5:=VV.rerow HL3.out hB hb4 hf4;have HL5:=hid L5;clear L5 hb4 hf4)
  go_ret
  exact ⟨rfl,VV.less HL5.out⟩
end
theorem vnew_dead {L:LSt} {kind:Int} (h:L.getE 0 ≠ 0):vnewE L kind = L.getE 0 /\ vnew L kind = L:=by
 have e:vnewE L kind = L.getE 0:=by unfold vnewE;rw [if_pos h]
 refine ⟨e,?_⟩
 unfold vnew
 rw [if_neg (by rw [e];exact h)]
theorem vnew_arg {L:LSt} {kind:Int} (h:L.getE 0 = 0) (h1:kind ≠ 1 /\ kind ≠ 2):vnewE L kind = 1 /\ vnew L kind = L:=by
 have e:vnewE L kind = 1:=by unfold vnewE;rw [if_neg (by simpa using h),if_pos h1]
 refine ⟨e,?_⟩
 unfold vnew
 rw [if_neg (by rw [e];decide)]
theorem vnew_full {L:LSt} {kind:Int} (h:L.getE 0 = 0) (h1:¬ (kind ≠ 1 /\ kind ≠ 2)) (h2:vfullB L = true):vnewE L kind = 4 /\ vnew L kind = L:=by
 have e:vnewE L kind = 4:=by unfold vnewE;rw [if_neg (by simpa using h),if_neg h1,if_pos h2]
 refine ⟨e,?_⟩
 unfold vnew
 rw [if_neg (by rw [e];decide)]
theorem vnew_none {L:LSt} {kind:Int} (h:L.getE 0 = 0) (h1:¬ (kind ≠ 1 /\ kind ≠ 2)) (h2:vfullB L = false) (h3:∀ i,i < 32 -> (vinode L i).kind ≠ 0):vnewE L kind = 4 /\ vnew L kind = L:=by
 have h4:(List.range 32).find? (fun n=>(vinode L n).kind == 0) = none:=by
  rw [List.find?_range_eq_none]
  intro i hi
  simp [h3 i hi]
 have e:vnewE L kind = 4:=by unfold vnewE;rw [if_neg (by simpa using h),if_neg h1,if_neg (by rw [h2];decide),if_pos (by rw [h4];rfl)]
 refine ⟨e,?_⟩
 unfold vnew
 rw [if_neg (by rw [e];decide)]
theorem vnew_ok {L:LSt} {kind:Int} (h:L.getE 0 = 0) (h1:¬ (kind ≠ 1 /\ kind ≠ 2)) (h2:vfullB L = false) {k:Nat} (hk:k < 32) (h3:∀ i,i < k -> (vinode L i).kind ≠ 0) (h0:(vinode L k).kind = 0) :
 vnewE L kind = 0 /\ vnewN L = k /\ vnew L kind = vkeep L k { Ino.free with kind:=kind.toNat }:=by
 have h4:(List.range 32).find? (fun n=>(vinode L n).kind == 0) = some k:=by
  rw [List.find?_range_eq_some]
  exact ⟨by simp [h0],by simpa using hk,fun j hj=>by simp [h3 j hj]⟩
 have e:vnewE L kind = 0:=by unfold vnewE;rw [if_neg (by simpa using h),if_neg h1,if_neg (by rw [h2];decide),if_neg (by rw [h4];simp)]
 have e2:vnewN L = k:=by unfold vnewN;rw [h4];rfl
 refine ⟨e,e2,?_⟩
 unfold vnew
 rw [if_pos e,e2]
section
variable {S0:Nat -> Prop} {w0 w:World} {v b d:Nat} {L:LSt} {B R:Asr}
theorem Tryz.field_kind (x:Ino) (W:World):(Instr.field 161 (inoV x) 0).run Tryz.prog W = .ok (.int .i64 x.kind) W:=by kernel_rfl
def newR (L:LSt) (kind:Int):Int:=if vnewE L kind = 0 then (vnewN L:Int) else 0
theorem vnew_calls (hL:VV S0 w0 v b d L B w) (hB:Loc B) (hk:VOk L) (kind:Int) :
 Calls Tryz.prog 46 #[.pointer (some ⟨v,0,none⟩),.int .i64 kind] w fun e w'=>e = .returned (.tuple #[.int .i64 (newR L kind),.int .i64 (vnewE L kind)]) /\ VV S0 w0 v b d (vnew L kind) B w':=by
 have HA:=hid (valive_calls hL hB hk)
 have HK:=hid hk
 obtain ⟨gE,hgE⟩:∃ e,e = L.getE 0:=⟨_,rfl⟩
 rw [<- hgE] at HA
 clear hL hk
 by_cases hE:gE = 0
 ·have h0:L.getE 0 = 0:=by rw [<- hgE];exact hE
  subst hE
  by_cases hkd:kind ≠ 1 /\ kind ≠ 2
  ·obtain ⟨e1,e2⟩:=vnew_arg h0 hkd
   have e3:newR L kind = 0:=by unfold newR;rw [if_neg (by rw [e1];decide)]
   rw [e1,e2,e3]
   have k1:(kind != 1) = true:=by rw [bne_iff_ne];exact hkd.1
   have k2:(kind != 2) = true:=by rw [bne_iff_ne];exact hkd.2
   clear e1 e2 e3 h0 hgE hkd
   go_enter Tryz.func46,Tryz.ntmps46
   go_wp2_with fail
   refine HA.out.mono ?_
   rintro e w2 ⟨rfl,L2⟩
   go_wp2_with fail
   go_ret2
   exact ⟨rfl,L2⟩
  ·have hpost:∀ w2,VV S0 w0 v b d L B w2 -> Hid (Calls Tryz.prog 91 #[.pointer (some ⟨v,0,none⟩)] w2 fun e w'=>e = .returned (.bool (vfullB L)) /\ w2 = w'):=fun w2 h=>hid (vfull_calls h)
   have HPO:=hid hpost
   clear hpost
   cases hf:vfullB L with
   | true =>
    obtain ⟨e1,e2⟩:=vnew_full h0 hkd hf
    have e3:newR L kind = 0:=by unfold newR;rw [if_neg (by rw [e1];decide)]
    rw [e1,e2,e3]
    rw [hf] at HPO
    have hk12:kind = 1 \/ kind = 2:=by omega
    clear e1 e2 e3 h0 hgE hkd hf
    rcases hk12 with rfl | rfl
    ·go_enter Tryz.func46,Tryz.ntmps46
     go_wp2_with fail
     refine HA.out.mono ?_
     rintro e w2 ⟨rfl,L2⟩
     have HU:=HPO.out _ L2
     go_wp2_with fail
     refine HU.out.mono ?_
     rintro e w3 ⟨rfl,rfl⟩
     go_wp2_with fail
     go_ret2
     exact ⟨rfl,L2⟩
    ·go_enter Tryz.func46,Tryz.ntmps46
     go_wp2_with fail
     refine HA.out.mono ?_
     rintro e w2 ⟨rfl,L2⟩
     have HU:=HPO.out _ L2
     go_wp2_with fail
     refine HU.out.mono ?_
     rintro e w3 ⟨rfl,rfl⟩
     go_wp2_with fail
     go_ret2
     exact ⟨rfl,L2⟩
   | false =>
    have hk12:kind = 1 \/ kind = 2:=by omega
    rw [hf] at HPO
    have HF:=hid hf
    have H0:=hid h0
    have HKD:=hid hkd
    have hin:∀ k:Nat,k < 32 -> ∀ W,VV S0 w0 v b d L B W -> Calls Tryz.prog 92 #[.pointer (some ⟨v,0,none⟩),.int .i64 k] W fun e w'=>e = .returned (inoV (vinode L k)) /\ VV S0 w0 v b d L B w':=fun k hk W hW=>vinode_calls hW hB HK.out k hk
    have HIN:=hid hin
    clear h0 hgE hkd hf hin
    rcases hk12 with rfl | rfl
    ·go_enter Tryz.func46,Tryz.ntmps46
     go_wp2_with fail
     refine HA.out.mono ?_
     rintro e w2 ⟨rfl,L2⟩
     have HU:=HPO.out _ L2
     have HL2:=hid L2
     clear L2
     go_wp2_with fail
     refine HU.out.mono ?_
     rintro e w3 ⟨rfl,rfl⟩
     go_wp2_with fail
     go_loopw [4,5,7,21] (fun _ _ _ s21 wr=>∃ k:Nat,k <= 32 /\ s21 = .int .i64 k /\ Hid (∀ i,i < k -> (vinode L i).kind ≠ 0) /\ Hid (VV S0 w0 v b d L B wr)) (fun _ _ _ s21 _=>32 - (intOf s21).toNat)
     case atStart=>exact ⟨0,by omega,rfl,hid (fun i hi=>by omega),HL2⟩
     case round =>
      obtain ⟨k,hk,rfl,HALL,HLr⟩:=hrel
      clear HL2
      by_cases hlt:k < 32
      ·obtain ⟨x,hx⟩:∃ x,x = vinode L k:=⟨_,rfl⟩
       have hi:=HIN.out k hlt _ HLr.out
       rw [<- hx] at hi
       have hfk:=Tryz.field_kind x
       have HI:=hid hi
       have HX:=hid hx
       clear hi hx
       by_cases hxk:x.kind = 0
       ·have hxz:(x.kind:Int) = 0:=by omega
        obtain ⟨e1,e2,e3⟩:=vnew_ok (L:=L) (kind:=1) H0.out HKD.out HF.out hlt HALL.out (by rw [<- HX.out];exact hxk)
        have e4:newR L 1 = k:=by unfold newR;rw [if_pos e1,e2]
        have E:=hid (And.intro e1 (And.intro e3 e4))
        have hfy:({ Ino.free with kind:=(1:Int).toNat }:Ino).Fits:=by constructor <;> decide
        have HFY:=hid hfy
        clear e1 e2 e3 e4 hfy
        go_wp2_with fail
        refine HI.out.mono ?_
        rintro e w4 ⟨rfl,L4⟩
        have HKE:=hid (vkeep_calls L4 hB HK.out k hlt _ HFY.out)
        clear L4
        go_wp2_with fail
        refine HKE.out.mono ?_
        rintro e w5 ⟨rfl,L5⟩
        go_wp2_with fail
        go_ret2
        rw [E.out.1,E.out.2.1,E.out.2.2]
        exact ⟨rfl,L5⟩
       ·have hxz:((x.kind:Int) == 0) = false:=by rw [beq_eq_false_iff_ne];omega
        go_wp2_with fail
        refine HI.out.mono ?_
        rintro e w4 ⟨rfl,L4⟩
        have HL4:=hid L4
        have HN:Hid (∀ i,i < k + 1 -> (vinode L i).kind ≠ 0):=hid fun i hi=>by
         by_cases h:i = k
         ·rw [h,<- HX.out];exact hxk
         ·exact HALL.out i (by omega)
        clear L4
        go_wp2_with fail
        go_roundw
        case rel=>exact ⟨k + 1,by omega,by go_num,HN,HL4⟩
        case measure=>simp [intOf];omega
      ·obtain rfl:k = 32:=by omega
       obtain ⟨e1,e2⟩:=vnew_none (L:=L) (kind:=1) H0.out HKD.out HF.out HALL.out
       have e3:newR L 1 = 0:=by unfold newR;rw [if_neg (by rw [e1];decide)]
       have E:=hid (And.intro e1 (And.intro e2 e3))
       clear e1 e2 e3
       go_wp2_with fail
       go_ret2
       rw [E.out.1,E.out.2.1,E.out.2.2]
       exact ⟨rfl,HLr.out⟩
    ·go_enter Tryz.func46,Tryz.ntmps46
     go_wp2_with fail
     refine HA.out.mono ?_
     rintro e w2 ⟨rfl,L2⟩
     have HU:=HPO.out _ L2
     have HL2:=hid L2
     clear L2
     go_wp2_with fail
     refine HU.out.mono ?_
     rintro e w3 ⟨rfl,rfl⟩
     go_wp2_with fail
     go_loopw [4,5,7,21] (fun _ _ _ s21 wr=>∃ k:Nat,k <= 32 /\ s21 = .int .i64 k /\ Hid (∀ i,i < k -> (vinode L i).kind ≠ 0) /\ Hid (VV S0 w0 v b d L B wr)) (fun _ _ _ s21 _=>32 - (intOf s21).toNat)
     case atStart=>exact ⟨0,by omega,rfl,hid (fun i hi=>by omega),HL2⟩
     case round =>
      obtain ⟨k,hk,rfl,HALL,HLr⟩:=hrel
      clear HL2
      by_cases hlt:k < 32
      ·obtain ⟨x,hx⟩:∃ x,x = vinode L k:=⟨_,rfl⟩
       have hi:=HIN.out k hlt _ HLr.out
       rw [<- hx] at hi
       have hfk:=Tryz.field_kind x
       have HI:=hid hi
       have HX:=hid hx
       clear hi hx
       by_cases hxk:x.kind = 0
       ·have hxz:(x.kind:Int) = 0:=by omega
        obtain ⟨e1,e2,e3⟩:=vnew_ok (L:=L) (kind:=2) H0.out HKD.out HF.out hlt HALL.out (by rw [<- HX.out];exact hxk)
        have e4:newR L 2 = k:=by unfold newR;rw [if_pos e1,e2]
        have E:=hid (And.intro e1 (And.intro e3 e4))
        have hfy:({ Ino.free with kind:=(2:Int).toNat }:Ino).Fits:=by constructor <;> decide
        have HFY:=hid hfy
        clear e1 e2 e3 e4 hfy
        go_wp2_with fail
        refine HI.out.mono ?_
        rintro e w4 ⟨rfl,L4⟩
        have HKE:=hid (vkeep_calls L4 hB HK.out k hlt _ HFY.out)
        clear L4
        go_wp2_with fail
        refine HKE.out.mono ?_
        rintro e w5 ⟨rfl,L5⟩
        go_wp2_with fail
        go_ret2
        rw [E.out.1,E.out.2.1,E.out.2.2]
        exact ⟨rfl,L5⟩
       ·have hxz:((x.kind:Int) == 0) = false:=by rw [beq_eq_false_iff_ne];omega
        go_wp2_with fail
        refine HI.out.mono ?_
        rintro e w4 ⟨rfl,L4⟩
        have HL4:=hid L4
        have HN:Hid (∀ i,i < k + 1 -> (vinode L i).kind ≠ 0):=hid fun i hi=>by
         by_cases h:i = k
         ·rw [h,<- HX.out];exact hxk
         ·exact HALL.out i (by omega)
        clear L4
        go_wp2_with fail
        go_roundw
        case rel=>exact ⟨k + 1,by omega,by go_num,HN,HL4⟩
        case measure=>simp [intOf];omega
      ·obtain rfl:k = 32:=by omega
       obtain ⟨e1,e2⟩:=vnew_none (L:=L) (kind:=2) H0.out HKD.out HF.out HALL.out
       have e3:newR L 2 = 0:=by unfold newR;rw [if_neg (by rw [e1];decide)]
       have E:=hid (And.intro e1 (And.intro e2 e3))
       clear e1 e2 e3
       go_wp2_with fail
       go_ret2
       rw [E.out.1,E.out.2.1,E.out.2.2]
       exact ⟨rfl,HLr.out⟩
 ·have h0:L.getE 0 ≠ 0:=by rw [<- hgE];exact hE
  obtain ⟨e1,e2⟩:=vnew_dead (kind:=kind) h0
  have e3:newR L kind = 0:=by unfold newR;rw [if_neg (by rw [e1];exact h0)]
  rw [e1,e2,e3,<- hgE]
  have hE':(gE == 0) = false:=by rw [beq_eq_false_iff_ne];exact hE
  clear hE e1 e2 e3 hgE h0
  go_enter Tryz.func46,Tryz.ntmps46
  go_wp2_with fail
  refine HA.out.mono ?_
  rintro e w2 ⟨rfl,L2⟩
  go_wp2_with fail
  go_ret2
  exact ⟨rfl,L2⟩
theorem LV.vol (h:LV S0 w0 b d L B w) (hB:Loc B):VV S0 w0 w.heap.size b d L B (w.alloc (.cells #[.pointer (some ⟨b,0,none⟩)] tVol)) :=
 (Lv.box h (LV.loc hB) tVol [.pointer (some ⟨b,0,none⟩)]).map fun _ h=>star_right (star_flip h) fun _ h=>star_flip h
theorem VV.gone (h:VV S0 w0 v b d L B w):LV S0 w0 b d L B w:=h.map fun _ h=>star_right h fun _ h=>star_less h
def fmtA (L:LSt) (k:Nat):LSt:=(List.range k).foldl (fun L i=>L.set (i:Nat) nought) L
def fmtB (L:LSt) (k:Nat):LSt:=(List.range k).foldl (fun L i=>vmark L i true) L
theorem fmtA_succ (L:LSt) (k:Nat):fmtA L (k + 1) = (fmtA L k).set (k:Nat) nought:=by unfold fmtA;rw [List.range_succ,List.foldl_append];rfl
theorem fmtB_succ (L:LSt) (k:Nat):fmtB L (k + 1) = vmark (fmtB L k) k true:=by unfold fmtB;rw [List.range_succ,List.foldl_append];rfl
theorem vformat_eq (L:LSt):vformat L = fmtB (fmtA L 9) 9:=rfl
theorem vok_fmtA {L:LSt} (h:VOk L) (k:Nat):VOk (fmtA L k):=by
 induction k with
 | zero=>exact h
 | succ k ih=>rw [fmtA_succ];exact vok_set ih _ _
theorem vok_fmtB {L:LSt} (h:VOk L) (k:Nat):VOk (fmtB L k):=by
 induction k with
 | zero=>exact h
 | succ k ih=>rw [fmtB_succ];exact vok_mark ih _ _
theorem vformat_calls (hL:LV S0 w0 b d L B w) (hB:Loc B) (hk:VOk L) (hE:L.getE 0 = 0) (hc:L.count = 0) :
 Calls Tryz.prog 75 #[.pointer (some ⟨b,0,none⟩)] w fun e w'=>∃ v,e = .returned (.tuple #[.pointer (some ⟨v,0,none⟩),.int .i64 0]) /\ VV S0 w0 v b d (vformat L) B w':=by
 have hV:=LV.vol hL hB
 have HA:=valive_calls hV hB hk
 rw [hE] at HA
 have HA:=hid HA
 have HS:=hid hc
 have HK:=hid hk
 clear hL hV hE hc hk
 go_enter Tryz.func75,Tryz.ntmps75
 go_wp2_with fail
 refine HA.out.mono ?_
 rintro e w2 ⟨rfl,L2⟩
 have HST:=lv_staged L2
 rw [HS.out] at HST
 have HST:=hid HST
 have HL2:=hid L2
 clear L2 HA
 go_wp2_with fail
 refine HST.out.mono ?_
 rintro e w3 ⟨rfl,rfl⟩
 obtain ⟨v,hv⟩:∃ v,v = w.heap.size:=⟨_,rfl⟩
 rw [<- hv] at HL2 ⊢
 clear hv
 go_wp2_with fail
 go_loopw [6,21] (fun _ s21 wr=>∃ k:Nat,k <= 9 /\ s21 = .int .i64 k /\ Hid (VV S0 w0 v b d (fmtA L k) B wr)) (fun _ s21 _=>9 - (intOf s21).toNat)
 case atStart=>exact ⟨0,by omega,rfl,HL2⟩
 case round =>
  obtain ⟨k,hk,rfl,HLr⟩:=hrel
  clear HL2
  by_cases hlt:k < 9
  ·have HN:=hid (Lv.calls HLr.out (VV.loc hB) (vnought_calls wr))
   go_wp2_with fail
   refine HN.out.mono ?_
   rintro e w4 ⟨rfl,L4⟩
   have HT:=hid (lv_set L4 (VV.locB hB) (vok_fmtA HK.out k).ok k nought)
   clear L4 HN
   go_wp2_with fail
   refine HT.out.mono ?_
   rintro e w5 ⟨rfl,L5⟩
   have HL5:Hid (VV S0 w0 v b d (fmtA L (k + 1)) B w5):=by rw [fmtA_succ];exact L5
   clear L5 HT
   go_wp2_with fail
   go_roundw
   case rel=>exact ⟨k + 1,by omega,by go_num,HL5⟩
   case measure=>simp [intOf];omega
  ·obtain rfl:k = 9:=by omega
   clear hk hlt
   go_wp2_with fail
   go_loopw [7,29] (fun _ s29 wr=>∃ k:Nat,k <= 9 /\ s29 = .int .i64 k /\ Hid (VV S0 w0 v b d (fmtB (fmtA L 9) k) B wr)) (fun _ s29 _=>9 - (intOf s29).toNat)
   case atStart=>exact ⟨0,by omega,rfl,HLr⟩
   case round =>
    obtain ⟨k,hk,rfl,HLs⟩:=hrel
    clear HLr
    by_cases hlt:k < 9
    ·have HM:=hid (vmark_calls HLs.out hB (vok_fmtB (vok_fmtA HK.out 9) k) k (by omega) true)
     go_wp2_with fail
     refine HM.out.mono ?_
     rintro e w5 ⟨rfl,L5⟩
     have HL5:Hid (VV S0 w0 v b d (fmtB (fmtA L 9) (k + 1)) B w5):=by rw [fmtB_succ];exact L5
     clear L5 HM
     go_wp2_with fail
     go_roundw
     case rel=>first | exact ⟨k + 1,by omega,by go_num,HL5⟩ | ((repeat apply Exists.intro);exact ⟨⟨k + 1,by omega,by go_num,HL5⟩,rfl⟩)
     case measure=>simp [intOf];omega
    ·obtain rfl:k = 9:=by omega
     clear hk hlt
     go_wp2_with fail
     go_ret2
     exact ⟨v,rfl,HLs.out⟩
end
end Go.Proofs.YtngalllaiphkhaaGreatDoor
