import Derived.Test.YtngalllaiphkhaaGreatDoorZRA
namespace Go.Proofs.YtngalllaiphkhaaGreatDoor
open Go.RowKit
open Go.Lib (hid)
set_option maxRecDepth 100000
set_option maxHeartbeats 16000000
set_option linter.unusedVariables false
set_option linter.unusedSimpArgs false
section
variable {m:Nat} {X:Sec} {A:Nat -> Node} {x:Ino}
end
section
variable {m:Nat} {X:Sec} {x:Ino}
end
section
variable {P:Program} {w:World} {b e:Nat} {cs:List Value}
end
theorem made16:madeCells #[Value.int .u8 0] 16 = #[Value.int .u8 0,Value.int .u8 0,Value.int .u8 0,Value.int .u8 0,Value.int .u8 0,Value.int .u8 0,Value.int .u8 0,Value.int .u8 0,Value.int .u8 0,Value.int .u8 0,Value.int .u8 0,Value.int .u8 0,Value.int .u8 0,Value.int .u8 0,Value.int .u8 0,Value.int .u8 0]:=by kernel_rfl
theorem conv16 {W:World} {g:Nat} (hb:Blk W g 5 (List.replicate 16 (.int .u8 0))) :
 (convert 116 9 (.slice (some ⟨g,0,none⟩) 16 16)).run Tryz.prog W = .ok (.string ⟨(List.replicate 16 (0:UInt8)).toArray⟩) W:=by
 have hr:=run_loadCells_list (P:=Tryz.prog) (w:=W) ⟨g,0,none⟩ ((List.replicate 16 (0:Int)).map (Value.int .u8)) (fun j v hv=>by simp only [Addr.add_lit,Nat.zero_add];exact hb.cell hv)
 rw [List.length_map,List.length_replicate] at hr
 have h1:=run_bytesToString (P:=Tryz.prog) W ⟨g,0,none⟩ 16 16 (List.replicate 16 0) hr
 exact (run_convert_bytes_string (P:=Tryz.prog) W 116 9 5 (some ⟨g,0,none⟩) 16 16 Tryz.underlying116 Tryz.underlying5 Tryz.underlying9).trans h1
theorem row_take {w:World} {B e n k g cap:Nat} {xs:List Value} (h:w.ownsRow B e 1 (.slice (some ⟨g,0,none⟩) n cap) n xs) (hk:k <= n):w.ownsRow B e 1 (.slice (some ⟨g,0,none⟩) k cap) k (xs.take k):=by
 obtain ⟨h1,h2⟩:=h
 rcases h2 with ⟨h3,_⟩ | ⟨g',cap',cur,hv,hb,hg,h4,h5,h6,h7⟩
 ·cases h3
 ·simp only [Value.slice.injEq,Option.some.injEq,Addr.mk.injEq,and_true,true_and] at hv
  obtain ⟨rfl,rfl⟩:=hv
  refine ⟨by rw [List.length_take];omega,.inr ⟨g,cap,cur,rfl,hb,hg,by omega,h5,h6,?_⟩⟩
  rw [<- h7,List.take_take,Nat.mul_one,Nat.mul_one,Nat.min_eq_left hk]
theorem row_cap {w:World} {B e n g cap:Nat} {xs:List Value} (h:w.ownsRow B e 1 (.slice (some ⟨g,0,none⟩) n cap) n xs):n <= cap:=by
 rcases h.2 with ⟨h3,_⟩ | ⟨g',cap',cur,hv,hb,hg,h4,_⟩
 ·cases h3
 ·simp only [Value.slice.injEq,Option.some.injEq,Addr.mk.injEq,and_true,true_and] at hv
  obtain ⟨rfl,rfl⟩:=hv
  exact h4
section
variable {S0:Nat -> Prop} {w0 w:World} {r nb c m:Nat} {sp:List Value} {A:Nat -> Node} {B R:Asr}
theorem rr_find {n off many:Int} (h:afindE A n ≠ 0):areadE A n off many = afindE A n /\ areadB A n off many = ⟨#[]⟩:=by
 have e:areadE A n off many = afindE A n:=by unfold areadE;rw [if_pos h]
 exact ⟨e,by unfold areadB areadS;rw [if_pos (by rw [e];exact h)]⟩
theorem rr_arg {n off many:Int} (h:afindE A n = 0) (h2:off < 0 \/ many < 0):areadE A n off many = 1 /\ areadB A n off many = ⟨#[]⟩:=by
 have e:areadE A n off many = 1:=by unfold areadE;rw [if_neg (by simpa using h),if_pos h2]
 exact ⟨e,by unfold areadB areadS;rw [if_pos (by rw [e];decide)]⟩
theorem rr_ok {n:Int} {o q:Nat} (h:afindE A n = 0):areadE A n o q = 0 /\ areadB A n o q = ⟨(((A n.toNat).data.drop o).take q).toArray⟩:=by
 have e:areadE A n o q = 0:=by unfold areadE;rw [if_neg (by simpa using h),if_neg (by omega)]
 exact ⟨e,by unfold areadB areadS;rw [if_neg (by simpa using e),Int.toNat_natCast,Int.toNat_natCast]⟩
theorem rread_calls (hL:Lv S0 w0 (Star (rvA r nb c sp m A) B) w) (n off many:Int) :
 Calls Tryz.prog 180 #[.pointer (some ⟨r,0,none⟩),.int .i64 n,.int .i64 off,.int .i64 many] w fun e w'=>e = .returned (.tuple #[.string (areadB A n off many),.int .i64 (areadE A n off many)]) /\ w = w':=by
 have HF:=hid (rfind_calls hL n)
 rcases afind_cases A n with h0 | ⟨h0,k,rfl,hk,hz⟩
 ·obtain ⟨e1,e2⟩:=rr_find (off:=off) (many:=many) h0
  rw [e1,e2]
  have hne:(afindE A n != 0) = true:=by rw [bne_iff_ne];exact h0
  generalize afindE A n = gE at *
  clear hL h0 e1 e2
  go_enter Tryz.func180,Tryz.ntmps180
  go_wp2_with fail
  refine HF.out.mono ?_
  rintro e w2 ⟨rfl,rfl⟩
  go_wp2_with fail
  go_ret2
  exact ⟨rfl,rfl⟩
 ·obtain ⟨c0,c1,cn⟩:=rv_cells hL
  obtain ⟨_,_,d2⟩:=cn k hk
  have hk2:(k:Int) < 32:=by omega
  have hds:=dataB_size (A k)
  rw [h0] at HF
  clear c0 cn hz hL hk
  by_cases hm:off < 0 \/ many < 0
  ·obtain ⟨e1,e2⟩:=rr_arg h0 hm
   rw [e1,e2]
   clear e1 e2 h0 hds
   by_cases b1:off < 0
   ·clear hm
    go_enter Tryz.func180,Tryz.ntmps180
    go_wp2_with fail
    refine HF.out.mono ?_
    rintro e w2 ⟨rfl,rfl⟩
    go_wp2_with fail
    go_ret2
    exact ⟨rfl,rfl⟩
   ·have b2:many < 0:=by omega
    clear hm
    go_enter Tryz.func180,Tryz.ntmps180
    go_wp2_with fail
    refine HF.out.mono ?_
    rintro e w2 ⟨rfl,rfl⟩
    go_wp2_with fail
    go_ret2
    exact ⟨rfl,rfl⟩
  ·obtain ⟨o,rfl⟩:∃ o:Nat,off = o:=⟨off.toNat,by omega⟩
   obtain ⟨q,rfl⟩:∃ o:Nat,many = o:=⟨many.toNat,by omega⟩
   obtain ⟨e1,e2⟩:=rr_ok (A:=A) (n:=k) (o:=o) (q:=q) h0
   rw [Int.toNat_natCast] at e2
   have o1:¬ (o:Int) < 0:=by omega
   have q1:¬ (q:Int) < 0:=by omega
   have hdd:(dataB (A k)).data.toList = (A k).data:=rfl
   rw [e1]
   by_cases h1:(dataB (A k)).size <= o
   ·have e3:areadB A k o q = ⟨#[]⟩:=by
     rw [e2]
     rw [List.drop_eq_nil_of_le (by omega)]
     simp
    have h1':((dataB (A k)).size:Int) <= (o:Int):=by omega
    rw [e3]
    clear e1 e2 e3 h0 hds hm hdd h1
    generalize dataB (A k) = db at *
    go_enter Tryz.func180,Tryz.ntmps180
    go_wp2_with fail
    refine HF.out.mono ?_
    rintro e w2 ⟨rfl,rfl⟩
    go_wp2_with fail
    go_ret2
    exact ⟨rfl,rfl⟩
   ·have h1':¬ ((dataB (A k)).size:Int) <= (o:Int):=by omega
    have h1b:o <= (dataB (A k)).size:=by omega
    obtain ⟨t,ht⟩:∃ t,t = (dataB (A k)).extract o (dataB (A k)).size:=⟨_,rfl⟩
    have htl:t.data.toList = (A k).data.drop o:=by
     rw [ht,toList_extract,hdd,List.take_of_length_le (by omega)]
    have hts:t.size = (A k).data.length - o:=by rw [<- bytes_len,htl,List.length_drop]
    have ht':(dataB (A k)).extract o (dataB (A k)).size = t:=ht.symm
    by_cases h2:q < t.size
    ·have h2':(q:Int) < (t.size:Int):=by omega
     have h2b:q <= t.size:=by omega
     have e3:areadB A k o q = t.extract 0 q:=by
      rw [e2];refine bytes_of ?_
      rw [toList_extract,htl,List.drop_zero]
     rw [e3]
     clear e1 e2 e3 h0 hds hm hdd ht htl hts h1
     generalize dataB (A k) = db at *
     go_enter Tryz.func180,Tryz.ntmps180
     go_wp2_with fail
     refine HF.out.mono ?_
     rintro e w2 ⟨rfl,rfl⟩
     go_wp2_with fail
     go_ret2
     exact ⟨rfl,rfl⟩
    ·have h2':¬ (q:Int) < (t.size:Int):=by omega
     have e3:areadB A k o q = t:=by
      rw [e2];refine bytes_of ?_
      rw [htl]
      show List.take q _ = _
      rw [List.take_of_length_le (by rw [List.length_drop];omega)]
     rw [e3]
     clear e1 e2 e3 h0 hds hm hdd ht htl hts h1 h2
     generalize dataB (A k) = db at *
     go_enter Tryz.func180,Tryz.ntmps180
     go_wp2_with fail
     refine HF.out.mono ?_
     rintro e w2 ⟨rfl,rfl⟩
     go_wp2_with fail
     go_ret2
     exact ⟨rfl,rfl⟩
theorem rw_find {full:Bool} {n off:Int} {s:ByteArray} (h:afindE A n ≠ 0):awriteE m A full n off s = afindE A n /\ awrite m A full n off s = A:=by
 have e:awriteE m A full n off s = afindE A n:=by unfold awriteE;rw [if_pos h]
 exact ⟨e,by unfold awrite;rw [if_neg (by rw [e];exact h)]⟩
theorem rw_arg {full:Bool} {n off:Int} {s:ByteArray} (h:afindE A n = 0) (h2:off < 0 \/ ((A n.toNat).data.length:Int) < off \/ 512 < s.size):awriteE m A full n off s = 1 /\ awrite m A full n off s = A:=by
 have e:awriteE m A full n off s = 1:=by unfold awriteE;rw [if_neg (by simpa using h),if_pos h2]
 exact ⟨e,by unfold awrite;rw [if_neg (by rw [e];decide)]⟩
theorem rw_many {full:Bool} {n off:Int} {s:ByteArray} (h:afindE A n = 0) (h2:¬ (off < 0 \/ ((A n.toNat).data.length:Int) < off \/ 512 < s.size)) (h3:2368 < off + s.size):awriteE m A full n off s = 15 /\ awrite m A full n off s = A:=by
 have e:awriteE m A full n off s = 15:=by unfold awriteE;rw [if_neg (by simpa using h),if_neg h2,if_pos h3]
 exact ⟨e,by unfold awrite;rw [if_neg (by rw [e];decide)]⟩
theorem rw_full {n off:Int} {s:ByteArray} (h:afindE A n = 0) (h2:¬ (off < 0 \/ ((A n.toNat).data.length:Int) < off \/ 512 < s.size)) (h3:¬ 2368 < off + s.size):awriteE m A true n off s = 4 /\ awrite m A true n off s = A:=by
 have e:awriteE m A true n off s = 4:=by unfold awriteE;rw [if_neg (by simpa using h),if_neg h2,if_neg h3,if_pos rfl]
 exact ⟨e,by unfold awrite;rw [if_neg (by rw [e];decide)]⟩
theorem rw_room {n off:Int} {s:ByteArray} (h:afindE A n = 0) (h2:¬ (off < 0 \/ ((A n.toNat).data.length:Int) < off \/ 512 < s.size)) (h3:¬ 2368 < off + s.size) (h4:(aroom m A:Int) < (takesP (max (A n.toNat).data.length (off.toNat + s.size)):Int) - takesP (A n.toNat).data.length):awriteE m A false n off s = 4 /\ awrite m A false n off s = A:=by
 have e:awriteE m A false n off s = 4:=by unfold awriteE;rw [if_neg (by simpa using h),if_neg h2,if_neg h3,if_neg (by decide),if_pos h4]
 exact ⟨e,by unfold awrite;rw [if_neg (by rw [e];decide)]⟩
theorem rw_ok {n off:Int} {s:ByteArray} (h:afindE A n = 0) (h2:¬ (off < 0 \/ ((A n.toNat).data.length:Int) < off \/ 512 < s.size)) (h3:¬ 2368 < off + s.size) (h4:¬ (aroom m A:Int) < (takesP (max (A n.toNat).data.length (off.toNat + s.size)):Int) - takesP (A n.toNat).data.length):awriteE m A false n off s = 0 /\ awrite m A false n off s = setA A n.toNat { A n.toNat with data:=splice (A n.toNat).data off.toNat s.data.toList }:=by
 have e:awriteE m A false n off s = 0:=by unfold awriteE;rw [if_neg (by simpa using h),if_neg h2,if_neg h3,if_neg (by decide),if_neg h4]
 exact ⟨e,by unfold awrite;rw [if_pos e]⟩
theorem rwrite_calls (hL:Lv S0 w0 (Star (rvA r nb c sp m A) B) w) (hB:Loc B) (hA:AOk m A) (hm5:m <= 512) (hroom:sumT A 32 + 9 <= m) (n off:Int) (s:ByteArray) (full:Bool) :
 Calls Tryz.prog 182 #[.pointer (some ⟨r,0,none⟩),.int .i64 n,.int .i64 off,.string s,.bool full] w fun e w'=>e = .returned (.int .i64 (awriteE m A full n off s)) /\ Lv S0 w0 (Star (rvA r nb c sp m (awrite m A full n off s)) B) w':=by
 have HF:=hid (rfind_calls hL n)
 have HL:=hid hL
 have HBL:=hid hB
 have HR:=rroom_calls hL hm5 (fun n hn=>(hA n hn).2.2)
 rw [show (m:Int) - 9 - sumT A 32 = (aroom m A:Nat) by unfold aroom;omega] at HR
 have HR:=hid HR
 clear hroom hm5
 rcases afind_cases A n with h0 | ⟨h0,k,rfl,hk,hz⟩
 ·obtain ⟨e1,e2⟩:=rw_find (m:=m) (full:=full) (off:=off) (s:=s) h0
  rw [e1,e2]
  have hne:(afindE A n != 0) = true:=by rw [bne_iff_ne];exact h0
  generalize afindE A n = gE at *
  clear hL h0 e1 e2 hA hB HR
  go_enter Tryz.func182,Tryz.ntmps182
  go_wp2_with fail
  refine HF.out.mono ?_
  rintro e w2 ⟨rfl,rfl⟩
  go_wp2_with fail
  go_ret
  exact ⟨rfl,HL.out⟩
 ·obtain ⟨c0,c1,cn⟩:=rv_cells hL
  obtain ⟨_,_,d2⟩:=cn k hk
  have hk2:(k:Int) < 32:=by omega
  have hln:=(hA k hk).2.2
  have hfr:=rv_free hL (k * 3 + 2)
  have HK:=hid hk
  have hds:=dataB_size (A k)
  have hdd:(dataB (A k)).data.toList = (A k).data:=rfl
  rw [h0] at HF
  clear c0 cn hz hL hA hB hk
  by_cases ha:off < 0 \/ ((A k).data.length:Int) < off \/ 512 < s.size
  ·obtain ⟨e1,e2⟩:=rw_arg (m:=m) (full:=full) h0 ha
   rw [e1,e2]
   rw [<- hds] at ha
   clear e1 e2 h0 hfr HBL hds hln hdd HR
   generalize dataB (A k) = db at *
   by_cases b1:off < 0
   ·clear ha
    go_enter Tryz.func182,Tryz.ntmps182
    go_wp2_with fail
    refine HF.out.mono ?_
    rintro e w2 ⟨rfl,rfl⟩
    go_wp2_with fail
    go_ret
    exact ⟨rfl,HL.out⟩
   ·by_cases b2:(db.size:Int) < off
    ·clear ha
     go_enter Tryz.func182,Tryz.ntmps182
     go_wp2_with fail
     refine HF.out.mono ?_
     rintro e w2 ⟨rfl,rfl⟩
     go_wp2_with fail
     go_ret
     exact ⟨rfl,HL.out⟩
    ·have b3:(512:Int) < (s.size:Int):=by omega
     clear ha
     go_enter Tryz.func182,Tryz.ntmps182
     go_wp2_with fail
     refine HF.out.mono ?_
     rintro e w2 ⟨rfl,rfl⟩
     go_wp2_with fail
     go_ret
     exact ⟨rfl,HL.out⟩
  ·obtain ⟨o,rfl⟩:∃ o:Nat,off = o:=⟨off.toNat,by omega⟩
   have b1:¬ (o:Int) < 0:=by omega
   have b2:¬ ((dataB (A k)).size:Int) < (o:Int):=by omega
   have b3:¬ (512:Int) < (s.size:Int):=by omega
   have wr1:IntKind.i64.wrap ((o:Int) + (s.size:Int)) = (o:Int) + (s.size:Int):=by rw [IntKind.wrap_i64] <;> omega
   by_cases hmn:2368 < (o:Int) + s.size
   ·obtain ⟨e1,e2⟩:=rw_many (m:=m) (full:=full) h0 ha hmn
    rw [e1,e2]
    clear e1 e2 h0 hfr HBL hds hln hdd HR ha
    generalize dataB (A k) = db at *
    go_enter Tryz.func182,Tryz.ntmps182
    go_wp2_with fail
    refine HF.out.mono ?_
    rintro e w2 ⟨rfl,rfl⟩
    go_wp2_with fail
    go_ret
    exact ⟨rfl,HL.out⟩
   ·have b5:o <= (dataB (A k)).size:=by omega
    obtain ⟨D1,hD1⟩:∃ D,D = (dataB (A k)).extract 0 o ++ s:=⟨_,rfl⟩
    have hx1:(dataB (A k)).extract 0 o ++ s = D1:=hD1.symm
    have hl1:D1.data.toList = (A k).data.take o ++ s.data.toList:=by rw [hD1,toList_append,toList_extract,hdd,List.drop_zero]
    have hs1:D1.size = o + s.size:=by rw [<- bytes_len,hl1,List.length_append,List.length_take,bytes_len];omega
    have hz1:((dataB (A k)).extract 0 o).size + s.size <= 9223372036854775807:=by rw [ByteArray.size_extract];omega
    have hmx:max (A k).data.length (o + s.size) = max (dataB (A k)).size D1.size:=by rw [hds,hs1]
    by_cases hlt:D1.size < (dataB (A k)).size
    ·have hlt':(D1.size:Int) < ((dataB (A k)).size:Int):=by omega
     obtain ⟨D2,hD2⟩:∃ D,D = D1 ++ (dataB (A k)).extract D1.size (dataB (A k)).size:=⟨_,rfl⟩
     have hx2:D1 ++ (dataB (A k)).extract D1.size (dataB (A k)).size = D2:=hD2.symm
     have hl2:D2.data.toList = splice (A k).data o s.data.toList:=by
      rw [hD2,toList_append,hl1,toList_extract,hdd,hs1,show (A k).data.take (dataB (A k)).size = (A k).data from List.take_of_length_le (by omega)]
      unfold splice
      rw [bytes_len]
     have hs2:D2.size = (dataB (A k)).size:=by
      rw [hD2,ByteArray.size_append,ByteArray.size_extract];omega
     have hz2:D1.size + ((dataB (A k)).extract D1.size (dataB (A k)).size).size <= 9223372036854775807:=by rw [ByteArray.size_extract];omega
     have hb2:D1.size <= (dataB (A k)).size:=by omega
     have hmx2:max (A k).data.length (o + s.size) = D2.size:=by rw [hmx,hs2];omega
     cases full with
     | true =>
      obtain ⟨e1,e2⟩:=rw_full (m:=m) h0 ha hmn
      rw [e1,e2]
      clear e1 e2 h0 hfr HBL hln hdd HR ha hds hD1 hl1 hmx hmx2 hl2 hD2 hs2 hs1
      generalize dataB (A k) = db at *
      go_enter Tryz.func182,Tryz.ntmps182
      go_wp2_with fail
      refine HF.out.mono ?_
      rintro e w2 ⟨rfl,rfl⟩
      go_wp2_with fail
      go_ret
      exact ⟨rfl,HL.out⟩
     | false =>
      have ht1:takesP D2.size <= 38:=takes_le38' (by omega)
      have ht2:takesP (dataB (A k)).size <= 38:=takes_le38' (by omega)
      have HT1:=hid (rtakes_calls D2.size (by omega))
      have HT2:=hid (rtakes_calls (dataB (A k)).size (by omega))
      have wr2:IntKind.i64.wrap ((takesP D2.size:Int) - (takesP (dataB (A k)).size:Int)) = (takesP D2.size:Int) - (takesP (dataB (A k)).size:Int):=by rw [IntKind.wrap_i64] <;> omega
      by_cases hr:(aroom m A:Int) < (takesP D2.size:Int) - takesP (dataB (A k)).size
      ·obtain ⟨e1,e2⟩:=rw_room (m:=m) h0 ha hmn (by rw [Int.toNat_natCast,Int.toNat_natCast,hmx2,<- hds];exact hr)
       rw [e1,e2]
       clear e1 e2 h0 hfr HBL hln hdd ha hds hD1 hl1 hmx hmx2 hl2 hD2 hs2 hs1 ht1 ht2
       generalize aroom m A = rm at *
       generalize dataB (A k) = db at *
       generalize takesP db.size = k2 at *
       generalize takesP D2.size = k1 at *
       go_enter Tryz.func182,Tryz.ntmps182
       go_wp2_with fail
       refine HF.out.mono ?_
       rintro e w2 ⟨rfl,rfl⟩
       go_wp2_with fail
       refine (HT1.out _).mono ?_
       rintro e w3 ⟨rfl,rfl⟩
       go_wp2_with fail
       refine (HT2.out _).mono ?_
       rintro e w4 ⟨rfl,rfl⟩
       go_wp2_with fail
       refine HR.out.mono ?_
       rintro e w5 ⟨rfl,rfl⟩
       go_wp2_with fail
       go_ret
       exact ⟨rfl,HL.out⟩
      ·obtain ⟨e1,e2⟩:=rw_ok (m:=m) h0 ha hmn (by rw [Int.toNat_natCast,Int.toNat_natCast,hmx2,<- hds];exact hr)
       rw [e1,e2]
       have hE:=rv_data HL.out HBL.out HK.out (splice (A k).data o s.data.toList)
       rw [<- bytes_mk _ hl2] at hE
       rw [Int.toNat_natCast,Int.toNat_natCast]
       have hE:=hid hE
       clear e1 e2 h0 hln hdd ha hds hD1 hl1 hmx hmx2 hl2 hD2 hs2 hs1 ht1 ht2
       generalize aroom m A = rm at *
       generalize dataB (A k) = db at *
       generalize takesP db.size = k2 at *
       generalize takesP D2.size = k1 at *
       go_enter Tryz.func182,Tryz.ntmps182
       go_wp2_with fail
       refine HF.out.mono ?_
       rintro e w2 ⟨rfl,rfl⟩
       go_wp2_with fail
       refine (HT1.out _).mono ?_
       rintro e w3 ⟨rfl,rfl⟩
       go_wp2_with fail
       refine (HT2.out _).mono ?_
       rintro e w4 ⟨rfl,rfl⟩
       go_wp2_with fail
       refine HR.out.mono ?_
       rintro e w5 ⟨rfl,rfl⟩
       go_wp2_with fail
       go_ret
       exact ⟨rfl,hE.out⟩
    ·have hlt':¬ (D1.size:Int) < ((dataB (A k)).size:Int):=by omega
     have hl2:D1.data.toList = splice (A k).data o s.data.toList:=by
      rw [hl1]
      unfold splice
      rw [List.drop_eq_nil_of_le (by rw [bytes_len];omega),List.append_nil]
     have hmx2:max (A k).data.length (o + s.size) = D1.size:=by rw [hmx];omega
     cases full with
     | true =>
      obtain ⟨e1,e2⟩:=rw_full (m:=m) h0 ha hmn
      rw [e1,e2]
      clear e1 e2 h0 hfr HBL hln hdd HR ha hds hD1 hl1 hmx hmx2 hl2 hs1
      generalize dataB (A k) = db at *
      go_enter Tryz.func182,Tryz.ntmps182
      go_wp2_with fail
      refine HF.out.mono ?_
      rintro e w2 ⟨rfl,rfl⟩
      go_wp2_with fail
      go_ret
      exact ⟨rfl,HL.out⟩
     | false =>
      have ht1:takesP D1.size <= 38:=takes_le38' (by omega)
      have ht2:takesP (dataB (A k)).size <= 38:=takes_le38' (by omega)
      have HT1:=hid (rtakes_calls D1.size (by omega))
      have HT2:=hid (rtakes_calls (dataB (A k)).size (by omega))
      have wr2:IntKind.i64.wrap ((takesP D1.size:Int) - (takesP (dataB (A k)).size:Int)) = (takesP D1.size:Int) - (takesP (dataB (A k)).size:Int):=by rw [IntKind.wrap_i64] <;> omega
      by_cases hr:(aroom m A:Int) < (takesP D1.size:Int) - takesP (dataB (A k)).size
      ·obtain ⟨e1,e2⟩:=rw_room (m:=m) h0 ha hmn (by rw [Int.toNat_natCast,Int.toNat_natCast,hmx2,<- hds];exact hr)
       rw [e1,e2]
       clear e1 e2 h0 hfr HBL hln hdd ha hds hD1 hl1 hmx hmx2 hl2 hs1 ht1 ht2
       generalize aroom m A = rm at *
       generalize dataB (A k) = db at *
       generalize takesP db.size = k2 at *
       generalize takesP D1.size = k1 at *
       go_enter Tryz.func182,Tryz.ntmps182
       go_wp2_with fail
       refine HF.out.mono ?_
       rintro e w2 ⟨rfl,rfl⟩
       go_wp2_with fail
       refine (HT1.out _).mono ?_
       rintro e w3 ⟨rfl,rfl⟩
       go_wp2_with fail
       refine (HT2.out _).mono ?_
       rintro e w4 ⟨rfl,rfl⟩
       go_wp2_with fail
       refine HR.out.mono ?_
       rintro e w5 ⟨rfl,rfl⟩
       go_wp2_with fail
       go_ret
       exact ⟨rfl,HL.out⟩
      ·obtain ⟨e1,e2⟩:=rw_ok (m:=m) h0 ha hmn (by rw [Int.toNat_natCast,Int.toNat_natCast,hmx2,<- hds];exact hr)
       rw [e1,e2]
       have hE:=rv_data HL.out HBL.out HK.out (splice (A k).data o s.data.toList)
       rw [<- bytes_mk _ hl2] at hE
       rw [Int.toNat_natCast,Int.toNat_natCast]
       have hE:=hid hE
       clear e1 e2 h0 hln hdd ha hds hD1 hl1 hmx hmx2 hl2 hs1 ht1 ht2
       generalize aroom m A = rm at *
       generalize dataB (A k) = db at *
       generalize takesP db.size = k2 at *
       generalize takesP D1.size = k1 at *
       go_enter Tryz.func182,Tryz.ntmps182
       go_wp2_with fail
       refine HF.out.mono ?_
       rintro e w2 ⟨rfl,rfl⟩
       go_wp2_with fail
       refine (HT1.out _).mono ?_
       rintro e w3 ⟨rfl,rfl⟩
       go_wp2_with fail
       refine (HT2.out _).mono ?_
       rintro e w4 ⟨rfl,rfl⟩
       go_wp2_with fail
       refine HR.out.mono ?_
       rintro e w5 ⟨rfl,rfl⟩
       go_wp2_with fail
       go_ret
       exact ⟨rfl,hE.out⟩
end
end Go.Proofs.YtngalllaiphkhaaGreatDoor
