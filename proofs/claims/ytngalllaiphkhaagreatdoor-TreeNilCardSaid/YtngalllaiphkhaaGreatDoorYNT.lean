import Derived.Test.YtngalllaiphkhaaGreatDoorYMN
namespace Go.Proofs.YtngalllaiphkhaaGreatDoor
open Go.RowKit
open Go.Lib (hid)
set_option maxRecDepth 100000
set_option maxHeartbeats 16000000
section
open Go.RowKit Go.Shelf
attribute [local go_sem] Oper.semAt_some
def rdL (L:LSt) (x:Ino) (k:Nat):List UInt8:=(List.range k).flatMap fun j=>(vget L (vat L x j)).data.toList
theorem rdL_succ (L:LSt) (x:Ino) (k:Nat):rdL L x (k + 1) = rdL L x k ++ (vget L (vat L x k)).data.toList:=by unfold rdL;rw [List.range_succ,List.flatMap_append];simp
theorem rdL_length {L:LSt} (h:VOk L) (x:Ino) (k:Nat):(rdL L x k).length = 64 * k:=by
 induction k with
 | zero=>rfl
 | succ k ih=>rw [rdL_succ,List.length_append,ih,bytes_len,vget_size h];omega
theorem rdL_bytes (L:LSt) (x:Ino) (k:Nat):(List.range k).foldl (fun b k=>b ++ vget L (vat L x k)) ByteArray.empty = ⟨(rdL L x k).toArray⟩:=by
 induction k with
 | zero=>rfl
 | succ k ih =>
  rw [List.range_succ,List.foldl_append,ih,rdL_succ]
  show (⟨(rdL L x k).toArray⟩:ByteArray) ++ vget L (vat L x k) = _
  apply ByteArray.ext
  rw [ByteArray.data_append]
  apply Array.ext'
  simp
theorem vread_find {L:LSt} {n off many:Int} (h:vfindE L n ≠ 0):vreadE L n off many = vfindE L n /\ vreadS L n off many = ByteArray.empty:=by
 have e:vreadE L n off many = vfindE L n:=by unfold vreadE;rw [if_pos h]
 refine ⟨e,?_⟩
 unfold vreadS
 rw [if_pos (by rw [e];exact h)]
theorem vread_arg {L:LSt} {n off many:Int} (h:vfindE L n = 0) (h2:off < 0 \/ many < 0):vreadE L n off many = 1 /\ vreadS L n off many = ByteArray.empty:=by
 have e:vreadE L n off many = 1:=by unfold vreadE;rw [if_neg (by simpa using h),if_pos h2]
 refine ⟨e,?_⟩
 unfold vreadS
 rw [if_pos (by rw [e];decide)]
theorem vread_ok {L:LSt} {n:Int} {off many:Nat} (h:vfindE L n = 0):vreadE L n off many = 0 /\
 vreadS L n off many = (let s:=(vbytes L (vfindX L n)).extract 0 (vfindX L n).size;let o:=min off s.size;s.extract o (o + min many (s.size - o))):=by
 have e:vreadE L n off many = 0:=by unfold vreadE;rw [if_neg (by simpa using h),if_neg (by omega)]
 refine ⟨e,?_⟩
 unfold vreadS
 rw [if_neg (by rw [e];decide),Int.toNat_natCast,Int.toNat_natCast]
section
variable {S0:Nat -> Prop} {w0 w:World} {v b d xb bv bx:Nat} {L:LSt} {B R:Asr} {x:Ino}
theorem bld_front {C:Asr} (h:Lv S0 w0 (Star R (AA v b d xb bv bx L x (Star C B))) w):Lv S0 w0 (Star C (Star R (AA v b d xb bv bx L x B))) w :=
 h.map fun _ h=>star_flip (star_right h fun _ h=>star_flip (star_right h fun _ h=>star_flip (star_right h fun _ h=>star_flip (star_right h fun _ h=>star_flip (star_right h fun _ h=>star_flip (star_right h fun _ h=>star_flip h))))))
theorem bld_back {C:Asr} (h:Lv S0 w0 (Star C (Star R (AA v b d xb bv bx L x B))) w):Lv S0 w0 (Star R (AA v b d xb bv bx L x (Star C B))) w :=
 h.map fun _ h=>star_right (star_flip h) fun _ h=>star_right (star_flip h) fun _ h=>star_right (star_flip h) fun _ h=>star_right (star_flip h) fun _ h=>star_right (star_flip h) fun _ h=>star_right (star_flip h) fun _ h=>star_flip h
theorem rd_cell {C:Asr} {n0:Nat} (h:Lv S0 w0 (Star R (AA v b d xb bv bx L x (Star C (Star (blkA n0 tPVol [.pointer (some ⟨v,0,none⟩)]) B)))) w):Blk w n0 tPVol [.pointer (some ⟨v,0,none⟩)] /\ Blk w xb tIno (inoL x):=by
 obtain ⟨_,⟨_,_,_,⟨_,_,_,⟨_,_,_,⟨_,_,_,⟨_,_,h1,⟨_,_,_,⟨_,_,_,⟨_,_,_,⟨_,_,h2,_⟩,_⟩,_⟩,_⟩,_⟩,_⟩,_⟩,_⟩,_⟩,_⟩:=h
 exact ⟨h2.1,h1.1⟩
theorem vread_calls (hL:VV S0 w0 v b d L B w) (hB:Loc B) (hk:VOk L) (n off many:Int) (hS:vreadE L n off many = 0 -> (vfindX L n).size <= 2368) :
 Calls Tryz.prog 54 #[.pointer (some ⟨v,0,none⟩),.int .i64 n,.int .i64 off,.int .i64 many] w fun e w'=>e = .returned (.tuple #[.string (vreadS L n off many),.int .i64 (vreadE L n off many)]) /\ VV S0 w0 v b d L B w':=by
 refine (callsIn_wide (n:=3)).1 ?_
 have b1:=VV.box hL hB tPVol [.pointer (some ⟨v,0,none⟩)]
 have l1:Loc (Star (blkA w.heap.size tPVol [.pointer (some ⟨v,0,none⟩)]) B):=loc_star (loc_blk _ _ _) hB
 have HF:=hid (vfind_calls b1 l1 hk n)
 obtain ⟨n0,hn0⟩:∃ n0,n0 = w.heap.size:=⟨_,rfl⟩
 have hfit:=vfindX_fits L n
 obtain ⟨x,hx⟩:∃ x,x = vfindX L n:=⟨_,rfl⟩
 obtain ⟨gE,hgE⟩:∃ e,e = vfindE L n:=⟨_,rfl⟩
 rw [<- hx,<- hgE,<- hn0] at HF
 rw [<- hx] at hfit
 rw [<- hn0] at l1
 have HS:=hid hS
 have HK:=hid hk
 have HL1:=hid l1
 have HN:=hid hn0
 clear hS hk hL b1 l1 hn0
 refine callsIn_of_wp_marks Tryz.func54 rfl trivial ?_ rfl
 simp only [Tryz.ntmps54,List.size_toArray,List.length_cons,List.length_nil,Nat.reduceAdd,Nat.reduceSub,Array.replicate_succ,Array.replicate_zero,List.push_toArray,List.append_toArray,List.nil_append,List.cons_append]
 rw [wpIn_wide]
 by_cases hE:gE = 0
 ·have h0:vfindE L n = 0:=by rw [<- hgE];exact hE
  subst hE
  by_cases hm:off < 0 \/ many < 0
  ·obtain ⟨e1,e2⟩:=vread_arg h0 hm
   rw [e1,e2]
   clear e1 e2 h0 hgE hx hfit HS
   by_cases q1:off < 0
   ·clear hm
    go_wp2_with fail
    rw [<- HN.out]
    refine HF.out.mono ?_
    rintro e w2 ⟨rfl,L2⟩
    have q0:=(VV.blk L2).cell (j:=0) rfl
    have HB3:=hid (Blk.new w2 tIno zeroI)
    have HL3:=hid (VV.box L2 HL1.out tIno zeroI)
    clear L2
    go_wp2_with (with_reducible show wpList _ _ _ _ _ _;refine wpList_store_blk (x:=.tmp 10) (y:=.tmp 20) rfl rfl rfl HB3.out (inoL x) rfl (Tryz.sizeInoL _) (zero_len _) (ino_one _) ?_;intro w4 hb4 hf4 hs4;have c2:=hb4.cell (j:=2) rfl;have L5:=VV.rerow HL3.out HL1.out hb4 hf4;have q5:=(VV.blk (VV.less L5)).cell (j:=0) rfl;have ln:=(VV.blk (VV.less L5)).lt;have HL5:=hid L5;clear L5 hb4 hf4 hs4)
    refine ⟨_,results_tmp2 rfl _ _ _,rfl,VV.less (VV.less HL5.out)⟩
   ·have q2:many < 0:=by omega
    clear hm
    go_wp2_with fail
    rw [<- HN.out]
    refine HF.out.mono ?_
    rintro e w2 ⟨rfl,L2⟩
    have q0:=(VV.blk L2).cell (j:=0) rfl
    have HB3:=hid (Blk.new w2 tIno zeroI)
    have HL3:=hid (VV.box L2 HL1.out tIno zeroI)
    clear L2
    go_wp2_with (with_reducible show wpList _ _ _ _ _ _;refine wpList_store_blk (x:=.tmp 10) (y:=.tmp 20) rfl rfl rfl HB3.out (inoL x) rfl (Tryz.sizeInoL _) (zero_len _) (ino_one _) ?_;intro w4 hb4 hf4 hs4;have c2:=hb4.cell (j:=2) rfl;have L5:=VV.rerow HL3.out HL1.out hb4 hf4;have q5:=(VV.blk (VV.less L5)).cell (j:=0) rfl;have ln:=(VV.blk (VV.less L5)).lt;have HL5:=hid L5;clear L5 hb4 hf4 hs4)
    refine ⟨_,results_tmp2 rfl _ _ _,rfl,VV.less (VV.less HL5.out)⟩
  ·obtain ⟨o,rfl⟩:∃ o:Nat,off = o:=⟨off.toNat,by omega⟩
   obtain ⟨m,rfl⟩:∃ m:Nat,many = m:=⟨many.toNat,by omega⟩
   obtain ⟨e1,e2⟩:=vread_ok (off:=o) (many:=m) h0
   have hxs:=HS.out e1
   rw [<- hx] at hxs
   rw [e1,e2,<- hx]
   have o1:¬ (o:Int) < 0:=by omega
   have o2:¬ (m:Int) < 0:=by omega
   have hN37:sectorsP x.size <= 37:=by unfold sectorsP;omega
   clear e1 e2 h0 hgE hx hfit HS hm
   go_wp2_with fail
   rw [<- HN.out]
   refine HF.out.mono ?_
   rintro e w2 ⟨rfl,L2⟩
   have q0:=(VV.blk L2).cell (j:=0) rfl
   have HB3:=hid (Blk.new w2 tIno zeroI)
   have HL3:=hid (VV.box L2 HL1.out tIno zeroI)
   clear L2
   go_wp2_with (with_reducible show wpList _ _ _ _ _ _;refine wpList_store_blk (x:=.tmp 10) (y:=.tmp 20) rfl rfl rfl HB3.out (inoL x) rfl (Tryz.sizeInoL _) (zero_len _) (ino_one _) ?_;intro w4 hb4 hf4 hs4;have c2:=hb4.cell (j:=2) rfl;have L5:=VV.rerow HL3.out HL1.out hb4 hf4;have q5:=(VV.blk (VV.less L5)).cell (j:=0) rfl;have ln:=(VV.blk (VV.less L5)).lt;have HL5:=hid L5;clear L5 hb4 hf4 hs4)
   refine (vall_calls _ _ _).mono ?_
   rintro e w5 ⟨rfl,rfl⟩
   obtain ⟨xb,hxb⟩:∃ xb,xb = w2.heap.size:=⟨_,rfl⟩
   have V5:VX S0 w0 v b d xb L x (Star (blkA n0 tPVol [.pointer (some ⟨v,0,none⟩)]) B) w4:=by rw [hxb];exact HL5.out
   have V6:VX S0 w0 v b d xb L x (Star (bldA w4.heap.size []) (Star (blkA n0 tPVol [.pointer (some ⟨v,0,none⟩)]) B)) (w4.alloc (.cells #[.pointer none,.slice none 0 0] tBld)) :=
    VX.inn (Lv.new V5 (loc_AX HL1.out) ((Fr.refl _ _).alloc _) (bldA_new w4))
   have l6:Loc (Star (bldA w4.heap.size []) (Star (blkA n0 tPVol [.pointer (some ⟨v,0,none⟩)]) B)):=loc_star (loc_bld _ _) HL1.out
   have V7:=VX.box V6 l6 tPVol [.pointer (some ⟨v,0,none⟩)]
   simp only [World.size_alloc] at V7
   have V8:=VX.box V7 (loc_star (loc_blk _ _ _) l6) tPIno [.pointer (some ⟨xb,0,none⟩)]
   simp only [World.size_alloc] at V8
   have HV8:=hid V8
   clear V5 V6 V7 V8 l6
   generalize hWW:((w4.alloc (.cells #[.pointer none,.slice none 0 0] tBld)).alloc (.cells #[.pointer (some ⟨v,0,none⟩)] tPVol)).alloc (.cells #[.pointer (some ⟨w2.heap.size,0,none⟩)] tPIno) = W0
   have hd0:W0 = ((w4.alloc (.cells #[.pointer none,.slice none 0 0] tBld)).alloc (.cells #[.pointer (some ⟨v,0,none⟩)] tPVol)).alloc (.cells #[.pointer (some ⟨xb,0,none⟩)] tPIno):=by rw [<- hWW,hxb]
   obtain ⟨nb,hnb⟩:∃ nb,nb = w4.heap.size:=⟨_,rfl⟩
   have HW0:Hid (Lv S0 w0 (AA v b d xb (nb + 1) (nb + 1 + 1) L x (Star (bldA nb (rdL L x 0)) (Star (blkA n0 tPVol [.pointer (some ⟨v,0,none⟩)]) B))) W0):=by rw [hnb,hd0];exact HV8
   simp only [World.size_alloc]
   rw [<- hxb,<- hnb]
   clear HV8 hWW hd0 hnb hxb HB3 HL3 HL5 q0 q5 c2 ln
   go_wp2_with fail
   rw [<- wpIn_wide (n:=3)]
   refine wpIn_range_lv (S0:=S0) (w0:=w0) (F:=Fence.wide) (n:=3) rfl (by omega) (gf:=159) (lb:=#[.pointer (some ⟨nb + 1 + 1,0,none⟩),.pointer (some ⟨nb + 1,0,none⟩)]) rfl trivial (enters_of Tryz.func159 (by kernel_rfl) rfl)
    (fun k=>AA v b d xb (nb + 1) (nb + 1 + 1) L x (Star (bldA nb (rdL L x k)) (Star (blkA n0 tPVol [.pointer (some ⟨v,0,none⟩)]) B))) (fun _ _=>NoA) (fun _=>loc_AA (loc_star (loc_bld _ _) HL1.out)) (fun _ _=>loc_no) (sectorsP x.size)
    (fun k=>#[.int .i64 k,.int .i64 (vat L x k:Nat)]) (fun _=>rfl) ?a1 HW0.out ?seq ?assign ?body ?done ?stop
   case seq =>
    intro l R St W hR hY hW
    exact vall1_calls hN37 (fun _=>L) (fun _=>x) (fun k=>Star (bldA nb (rdL L x k)) (Star (blkA n0 tPVol [.pointer (some ⟨v,0,none⟩)]) B)) rfl (by omega) (fun _=>loc_star (loc_bld _ _) HL1.out) (fun _ _=>HK.out) l R St W hR hY hW
   case assign =>
    intro l k W K hK
    gi_wp2
    exact hK
   case stop =>
    intro D c k W hk hl
    obtain ⟨_,h⟩:=hl.second
    exact h.elim
   case body =>
    intro l R k W hR hk hl
    have p1:=(rd_cell hl).1
    have q1:=p1.cell (j:=0) rfl
    have hloc:=loc_star hR (loc_star (loc_blk (nb + 1 + 1) tPIno [.pointer (some ⟨xb,0,none⟩)]) (loc_star (loc_blk (nb + 1) tPVol [.pointer (some ⟨v,0,none⟩)]) (loc_star (loc_bld nb (rdL L x k)) HL1.out)))
    have HG:=hid (vget_calls (VX.inn hl) (loc_star (loc_blk _ _ _) hloc) HK.out (vat L x k:Nat))
    have hsz:=vget_size HK.out (vat L x k:Nat)
    have hrl:=rdL_length HK.out x k
    have HLEN:Hid ((rdL L x k).length + (vget L (vat L x k:Nat)).size <= 140737488355328):=hid (by rw [hsz,hrl];omega)
    clear hl p1 hloc hsz hrl
    gi_wp2
    refine ⟨trivial,(callsIn_wide.2 HG.out).mono ?_⟩
    rintro e w2 ⟨rfl,L2⟩
    have L3:VX S0 w0 v b d xb L x _ w2:=L2
    have hT:=(bld_front (VX.out L3)).op ((bldF_text (l:=rdL L x k) (vget L (vat L x k:Nat)) w2 HLEN.out).left (loc_star hR (loc_AA HL1.out)))
    have HT:=hid hT
    clear L2 L3 hT HG
    gi_wp2
    refine ⟨trivial,(callsIn_wide.2 HT.out).mono ?_⟩
    rintro e w3 ⟨rfl,L4⟩
    have hs:=rdL_succ L x k
    have HS2:=hid hs
    have HL4:=hid L4
    clear hs L4
    gi_wp2
    exact .inl (by rw [HS2.out];exact bld_back HL4.out)
   case done =>
    intro D W hl
    obtain ⟨N,hN⟩:∃ N,N = sectorsP x.size:=⟨_,rfl⟩
    rw [<- hN] at hl hN37
    have hxN:x.size <= 64 * N:=by rw [hN];unfold sectorsP;omega
    obtain ⟨T,hT⟩:∃ T:ByteArray,T = ⟨(rdL L x N).toArray⟩:=⟨_,rfl⟩
    have hTs:T.size = 64 * N:=by rw [hT,size_of_list,rdL_length HK.out]
    have hvb:vbytes L x = T:=by unfold vbytes;rw [<- hN,rdL_bytes,hT]
    have HVB:=hid hvb
    have hF:=Lv.drew (bld_front hl) (loc_star (loc_bld _ _) (loc_star (loc_def D) (loc_AA HL1.out)))
    have hS:=Lv.op hF ((bldF_string (b:=nb) (l:=rdL L x N) W.drew).left (loc_star (loc_def D) (loc_AA HL1.out)))
    rw [<- hT] at hS
    have HST:=hid hS
    have c2:=(rd_cell hl).2.cell (j:=2) rfl
    have hes:(T.extract 0 x.size).size = x.size:=by rw [ByteArray.size_extract];omega
    have hxT:(x.size:Int) <= (T.size:Int):=by omega
    have HTS:=hid hTs
    clear hl hF hS hT hvb hN hTs
    go_wp2_with fail
    go_region_held3 (fun w'=>w'.cell? ⟨xb,2,none⟩ = some (.int .i64 x.size))
     (first | go_keep | exact t0)
     (first | (go_at_call 109;refine HST.out.mono ?_;rintro e w3 ⟨rfl,L3⟩;have t0:=(AA.cells L3.drop).1.cell (j:=2) rfl))
    have hTs:=HTS.out
    obtain ⟨s,hs⟩:∃ s,s = T.extract 0 x.size:=⟨_,rfl⟩
    rw [<- hs] at hes ⊢
    have hs2:s.size <= 2368:=by omega
    have HSS:=hid hs
    have HL3:=hid L3.drop
    obtain ⟨q,hq⟩:∃ q,q = min o s.size:=⟨_,rfl⟩
    obtain ⟨r,hr⟩:∃ r,r = min m (s.size - q):=⟨_,rfl⟩
    have m1:min (o:Int) (s.size:Int) = (q:Int):=by omega
    have m2:IntKind.i64.wrap ((s.size:Int) - (q:Int)) = ((s.size - q:Nat):Int):=by rw [IntKind.wrap_i64] <;> omega
    have m3:min (m:Int) ((s.size - q:Nat):Int) = (r:Int):=by omega
    have m4:IntKind.i64.wrap ((q:Int) + (r:Int)) = ((q + r:Nat):Int):=by rw [IntKind.wrap_i64] <;> omega
    have m5:q + r <= s.size:=by omega
    have m6:q <= s.size:=by omega
    have HQ:=hid hq
    have HR:=hid hr
    clear hes hs L3 t0 HST c2 hTs hxs hxN hxT HTS hN37 o1 o2 hq hr
    go_wp2_with fail
    have hZ:Lv S0 w0 (Star (defA D) (AA v b d xb (nb + 1) (nb + 1 + 1) L x (Star (blkA n0 tPVol [.pointer (some ⟨v,0,none⟩)]) B))) _:=HL3.out
    have e1:s.size = min x.size T.size:=by rw [HSS.out,ByteArray.size_extract];omega
    refine ⟨by simp,.inl ⟨_,_,rfl,run_takeDeferred hZ.def_at,?_⟩⟩
    refine ⟨_,results_tmp2 rfl _ _ _,?_,?_⟩
    ·rw [HVB.out,<- HSS.out,<- e1,<- HQ.out,<- HR.out]
     rfl
    ·have hW:VX S0 w0 v b d xb L x _ _:=hZ.shut (loc_AA HL1.out)
     exact VV.less (VV.less (VV.less (VV.less hW)))
 ·obtain ⟨e1,e2⟩:=vread_find (off:=off) (many:=many) (show vfindE L n ≠ 0 by rw [<- hgE];exact hE)
  rw [e1,e2,<- hgE]
  have hE':(gE == 0) = false:=by rw [beq_eq_false_iff_ne];exact hE
  clear hE e1 e2 hgE hx hfit HS
  go_wp2_with fail
  rw [<- HN.out]
  refine HF.out.mono ?_
  rintro e w2 ⟨rfl,L2⟩
  have q0:=(VV.blk L2).cell (j:=0) rfl
  have HB3:=hid (Blk.new w2 tIno zeroI)
  have HL3:=hid (VV.box L2 HL1.out tIno zeroI)
  clear L2
  go_wp2_with (with_reducible show wpList _ _ _ _ _ _;refine wpList_store_blk (x:=.tmp 10) (y:=.tmp 20) rfl rfl rfl HB3.out (inoL x) rfl (Tryz.sizeInoL _) (zero_len _) (ino_one _) ?_;intro w4 hb4 hf4 hs4;have c2:=hb4.cell (j:=2) rfl;have L5:=VV.rerow HL3.out HL1.out hb4 hf4;have q5:=(VV.blk (VV.less L5)).cell (j:=0) rfl;have ln:=(VV.blk (VV.less L5)).lt;have HL5:=hid L5;clear L5 hb4 hf4 hs4)
  refine ⟨_,results_tmp2 rfl _ _ _,rfl,VV.less (VV.less HL5.out)⟩
end
end
end Go.Proofs.YtngalllaiphkhaaGreatDoor
