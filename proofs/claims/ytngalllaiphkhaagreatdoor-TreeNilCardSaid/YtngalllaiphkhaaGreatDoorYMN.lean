import Derived.Test.YtngalllaiphkhaaGreatDoorYMK
namespace Go.Proofs.YtngalllaiphkhaaGreatDoor
open Go.RowKit
open Go.Lib (hid)
set_option maxRecDepth 100000
set_option maxHeartbeats 16000000
section
open Go.RowKit Go.Shelf
attribute [local go_sem] Oper.semAt_some
abbrev tPVol:Nat:=93
abbrev tPIno:Nat:=170
abbrev AX (v b d xb:Nat) (L:LSt) (x:Ino) (B:Asr):Asr:=Star (lgA b d L.stg L.dead) (Star (dskA kD d L.D) (Star (blkA v tVol [.pointer (some ⟨b,0,none⟩)]) (Star (blkA xb tIno (inoL x)) B)))
abbrev AA (v b d xb bv bx:Nat) (L:LSt) (x:Ino) (B:Asr):Asr:=AX v b d xb L x (Star (blkA bx tPIno [.pointer (some ⟨xb,0,none⟩)]) (Star (blkA bv tPVol [.pointer (some ⟨v,0,none⟩)]) B))
theorem vall_calls (v xb:Nat) (w:World) :
 Calls Tryz.prog 106 #[.pointer (some ⟨v,0,none⟩),.pointer (some ⟨xb,0,none⟩)] w fun e w'=>e = .returned (.func (.func 159) #[] #[.pointer (some ⟨w.heap.size + 1,0,none⟩),.pointer (some ⟨w.heap.size,0,none⟩)]) /\
  w' = (w.alloc (.cells #[.pointer (some ⟨v,0,none⟩)] tPVol)).alloc (.cells #[.pointer (some ⟨xb,0,none⟩)] tPIno):=by
 go_enter Tryz.func106,Tryz.ntmps106
 go_wp2_with fail
 go_ret
 exact ⟨rfl,rfl⟩
section
variable {S0:Nat -> Prop} {w0 w:World} {v b d xb bv bx:Nat} {L:LSt} {B R:Asr} {x:Ino}
theorem VX.inn (h:Lv S0 w0 (Star R (AX v b d xb L x B)) w):VX S0 w0 v b d xb L x (Star R B) w :=
 (VV.inn h).map fun _ h=>star_right h fun _ h=>star_right h fun _ h=>star_right h fun _ h=>star_flip h
theorem VX.out (h:VX S0 w0 v b d xb L x (Star R B) w):Lv S0 w0 (Star R (AX v b d xb L x B)) w :=
 VV.out (h.map fun _ h=>star_right h fun _ h=>star_right h fun _ h=>star_right h fun _ h=>star_flip h)
theorem VX.box (h:VX S0 w0 v b d xb L x B w) (hB:Loc B) (e:Nat) (cs:List Value):VX S0 w0 v b d xb L x (Star (blkA w.heap.size e cs) B) (w.alloc (.cells cs.toArray e)) :=
 VX.inn (Lv.box h (loc_star (loc_lg _ _ _ _) (loc_star (loc_dsk _ _ _) (loc_star (loc_blk _ _ _) (loc_star (loc_blk _ _ _) hB)))) e cs)
theorem AA.cells (h:Lv S0 w0 (Star R (AA v b d xb bv bx L x B)) w):Blk w xb tIno (inoL x) /\ Blk w bv tPVol [.pointer (some ⟨v,0,none⟩)] /\ Blk w bx tPIno [.pointer (some ⟨xb,0,none⟩)]:=by
 obtain ⟨_,⟨_,_,_,⟨_,_,_,⟨_,_,_,⟨_,_,_,⟨_,_,h1,⟨_,_,h3,⟨_,_,h2,_⟩,_⟩,_⟩,_⟩,_⟩,_⟩,_⟩,_⟩:=h
 exact ⟨h1.1,h2.1,h3.1⟩
theorem loc_AX (hB:Loc B):Loc (AX v b d xb L x B):=loc_star (loc_lg _ _ _ _) (loc_star (loc_dsk _ _ _) (loc_star (loc_blk _ _ _) (loc_star (loc_blk _ _ _) hB)))
theorem loc_AA (hB:Loc B):Loc (AA v b d xb bv bx L x B):=loc_AX (loc_star (loc_blk _ _ _) (loc_star (loc_blk _ _ _) hB))
theorem vall1_calls {N:Nat} (hN:N <= 37) (Ls:Nat -> LSt) (xs:Nat -> Ino) (Bs:Nat -> Asr) (h0:sectorsP (xs 0).size = N) (hsz:(xs 0).size <= 65535) (hB:∀ k,Loc (Bs k)) (hk:∀ k,k <= N -> VOk (Ls k))
 (l:Nat) (R:Asr) (St:Nat -> World -> Prop) (W:World) (hR:Loc R)
 (hY:∀ k W1,k < N -> Lv S0 w0 (Star R (AA v b d xb bv bx (Ls k) (xs k) (Bs k))) W1 -> YieldAt Fence.wide 1 Tryz.prog l #[.int .i64 k,.int .i64 (vat (Ls k) (xs k) k:Nat)] W1 fun e W' =>
  (e = .returned (.bool true) /\ Lv S0 w0 (Star R (AA v b d xb bv bx (Ls (k + 1)) (xs (k + 1)) (Bs (k + 1)))) W') \/ (e = .returned (.bool false) /\ St k W'))
 (hW:Lv S0 w0 (Star R (AA v b d xb bv bx (Ls 0) (xs 0) (Bs 0))) W) :
 CallsIn Fence.wide 2 Tryz.prog 159 (#[.func (.yield l) #[] #[]] ++ #[.pointer (some ⟨bx,0,none⟩),.pointer (some ⟨bv,0,none⟩)]) W fun e W'=>(∃ v,e = .returned v) /\
  (Lv S0 w0 (Star R (AA v b d xb bv bx (Ls N) (xs N) (Bs N))) W' \/ ∃ k,k < N /\ St k W'):=by
 refine callsIn_of_wp Tryz.func159 rfl trivial ?_ rfl
 simp only [Tryz.ntmps159,List.size_toArray,List.length_cons,List.length_nil,Nat.reduceAdd,Nat.reduceSub,Array.replicate_succ,Array.replicate_zero,List.push_toArray,List.append_toArray,List.nil_append,List.cons_append]
 obtain ⟨c1,c2,c3⟩:=AA.cells hW
 have k1:=c1.cell (j:=2) rfl
 have k3:=c3.cell (j:=0) rfl
 have HS:=vsectors_calls (xs 0).size (by omega) W
 rw [h0] at HS
 have HS:=hid HS
 have HY:=hid hY
 have HW:=hid hW
 have HB:=hid hB
 have HK:=hid hk
 clear hY hW hB hk c1 c2 c3 h0 hsz
 gi_wp2
 refine ⟨trivial,(callsIn_wide.2 HS.out).mono ?_⟩
 rintro e w1 ⟨rfl,rfl⟩
 gi_wp2
 gi_loopw [4,10] (fun _ s10 wr=>∃ k:Nat,k <= N /\ s10 = .int .i64 k /\ Hid (Lv S0 w0 (Star R (AA v b d xb bv bx (Ls k) (xs k) (Bs k))) wr)) (fun _ s10 _=>N - (intOf s10).toNat)
 case atStart=>exact ⟨0,by omega,rfl,HW⟩
 case round =>
  obtain ⟨k,hk,rfl,HLr⟩:=hrel
  clear HW k1 k3
  by_cases hlt:k < N
  ·obtain ⟨c1,c2,c3⟩:=AA.cells HLr.out
   have k2:=c2.cell (j:=0) rfl
   have k3:=c3.cell (j:=0) rfl
   have HAT:=hid (vat_calls (VX.inn HLr.out) (loc_star hR (loc_star (loc_blk _ _ _) (loc_star (loc_blk _ _ _) (HB.out k)))) (HK.out k hk) k (by omega))
   clear c1 c2 c3
   gi_wp2
   refine ⟨trivial,(callsIn_wide.2 HAT.out).mono ?_⟩
   rintro e w2 ⟨rfl,L2⟩
   have L3:=VX.out L2
   obtain ⟨fn,tmps,assign,body,hy,hr⟩:=HY.out k w2 hlt L3
   have HRD:=hid hr
   clear L2 L3 hr HAT k2 k3
   gi_wp2
   refine HRD.out.mono ?_
   rintro e W3 (⟨rfl,hJ3⟩ | ⟨rfl,hJx3⟩)
   ·have HJ:=hid hJ3
    clear hJ3
    gi_wp2
    go_roundw
    case rel=>exact ⟨k + 1,by omega,by go_num,HJ⟩
    case measure=>simp [intOf];omega
   ·have HJ:=hid hJx3
    clear hJx3
    gi_wp2
    refine bodyPost_ret (results_none rfl _ _ _) rfl ?_
    exact ⟨⟨_,rfl⟩,.inr ⟨k,hlt,HJ.out⟩⟩
  ·obtain rfl:k = N:=by omega
   gi_wp2
   go_end0
   exact ⟨⟨_,rfl⟩,.inl HLr.out⟩
end
end
section
open Go.RowKit Go.Shelf
attribute [local go_sem] Oper.semAt_some
def cutF (left:Nat) (L:LSt) (x:Ino) (k:Nat):LSt × Ino:=(List.range k).foldl (vcutStep left) (L,x)
theorem cutF_succ (left:Nat) (L:LSt) (x:Ino) (k:Nat):cutF left L x (k + 1) = vcutStep left (cutF left L x k) k:=by unfold cutF;rw [List.range_succ,List.foldl_append];rfl
theorem put_size (x:Ino) (k y:Nat):(x.put k y).size = x.size /\ (x.put k y).kind = x.kind /\ (x.put k y).links = x.links:=by
 unfold Ino.put
 split <;> exact ⟨rfl,rfl,rfl⟩
theorem vsetX_size (x:Ino) (k y:Nat):(vsetX x k y).size = x.size:=by
 unfold vsetX
 split
 ·exact (put_size x k y).1
 ·rfl
theorem vok_setL {L:LSt} (h:VOk L) (x:Ino) (k y:Nat):VOk (vsetL L x k y):=by
 unfold vsetL
 split
 ·exact h
 ·exact vok_patch h _ _ _
theorem cutF_keeps {left:Nat} {L:LSt} {x:Ino} (h:VOk L) (k:Nat):VOk (cutF left L x k).1 /\ (cutF left L x k).2.size = x.size:=by
 induction k with
 | zero=>exact ⟨h,rfl⟩
 | succ k ih =>
  rw [cutF_succ]
  unfold vcutStep
  split
  ·exact ⟨vok_setL (vok_mark ih.1 _ _) _ _ _,by show (vsetX _ _ _).size = _;rw [vsetX_size];exact ih.2⟩
  ·exact ih
structure CutOk (L:LSt) (x:Ino) (left:Nat):Prop where
 size:sectorsP x.size <= 37
 at_:∀ k,left <= k -> k < sectorsP x.size -> vat (cutF left L x k).1 (cutF left L x k).2 k < 512
 ind:5 < sectorsP x.size -> left <= 5 -> (cutF left L x (sectorsP x.size)).2.a5 < 512
section
variable {S0:Nat -> Prop} {w0 w:World} {v b d xb bv bx:Nat} {L:LSt} {B R:Asr} {x:Ino}
theorem Lv.def_at {A:Asr} {D:Nat} (h:Lv S0 w0 (Star (defA D) A) w):w.heap[D]? = some (.deferred (some [])):=by
 obtain ⟨S,h1⟩:=h.first
 exact h1.1
theorem Lv.shut {A:Asr} {D:Nat} (h:Lv S0 w0 (Star (defA D) A) w) (hA:Loc A):Lv S0 w0 A (w.putObj D (.deferred none)) :=
 (h.turn (A':=Emp) hA fun _ h=>⟨trivial,(Fr.refl _ _).grown (grownBy_putObj' w D _) (fun k e=>by cases e;exact .inl h.2)⟩).drop
def NoA:Asr:=fun _ _=>False
theorem loc_no:Loc NoA:=fun _ _ _ _ h _ _=>h
abbrev cutB (v xb n left:Nat) (B:Asr):Asr:=Star (blkA (n + 1 + 1) tInt [.int .i64 left]) (Star (blkA (n + 1) tPIno [.pointer (some ⟨xb,0,none⟩)]) (Star (blkA n tPVol [.pointer (some ⟨v,0,none⟩)]) B))
theorem loc_cutB {n left:Nat} (hB:Loc B):Loc (cutB v xb n left B):=loc_star (loc_blk _ _ _) (loc_star (loc_blk _ _ _) (loc_star (loc_blk _ _ _) hB))
theorem cut_cells {n left:Nat} (h:Lv S0 w0 (Star R (AA v b d xb bv bx L x (cutB v xb n left B))) w) :
 Blk w (n + 1 + 1) tInt [.int .i64 left] /\ Blk w (n + 1) tPIno [.pointer (some ⟨xb,0,none⟩)] /\ Blk w n tPVol [.pointer (some ⟨v,0,none⟩)] /\ Blk w xb tIno (inoL x):=by
 obtain ⟨_,⟨_,_,_,⟨_,_,_,⟨_,_,_,⟨_,_,_,⟨_,_,h1,⟨_,_,_,⟨_,_,_,⟨_,_,h2,⟨_,_,h3,⟨_,_,h4,_⟩,_⟩,_⟩,_⟩,_⟩,_⟩,_⟩,_⟩,_⟩,_⟩,_⟩:=h
 exact ⟨h2.1,h3.1,h4.1,h1.1⟩
theorem cut_fin {n left:Nat} (h:Lv S0 w0 (AA v b d xb bv bx L x (cutB v xb n left B)) w):VX S0 w0 v b d xb L x B w :=
 h.map fun _ h=>star_right h fun _ h=>star_right h fun _ h=>star_right h fun _ h=>star_less (star_less (star_less (star_less (star_less h))))
theorem vcut_calls (hL:VX S0 w0 v b d xb L x B w) (hB:Loc B) (hk:VOk L) (size:Nat) (hsz:size <= 65535) (hxs:x.size <= 65535) (hC:CutOk L x (sectorsP size)) :
 Calls Tryz.prog 114 #[.pointer (some ⟨v,0,none⟩),.pointer (some ⟨xb,0,none⟩),.int .i64 size] w fun e w'=>e = .returned (.tuple #[]) /\ VX S0 w0 v b d xb (vcut L x size).1 (vcut L x size).2 B w':=by
 refine (callsIn_wide (n:=3)).1 ?_
 obtain ⟨left,hleft⟩:∃ l,l = sectorsP size:=⟨_,rfl⟩
 have HSZ:=hid (fun W=>vsectors_calls size (by omega) W)
 rw [<- hleft] at HSZ
 have HLF:=hid hleft
 have HC:=hid hC
 have HK:=hid hk
 clear hC hk hleft
 refine callsIn_of_wp_marks Tryz.func114 rfl trivial ?_ rfl
 simp only [Tryz.ntmps114,List.size_toArray,List.length_cons,List.length_nil,Nat.reduceAdd,Nat.reduceSub,Array.replicate_succ,Array.replicate_zero,List.push_toArray,List.append_toArray,List.nil_append,List.cons_append]
 have l1:Loc (Star (blkA w.heap.size tPVol [.pointer (some ⟨v,0,none⟩)]) B):=loc_star (loc_blk _ _ _) hB
 have b1:=VX.box hL hB tPVol [.pointer (some ⟨v,0,none⟩)]
 have l2:=loc_star (loc_blk (w.heap.size + 1) tPIno [.pointer (some ⟨xb,0,none⟩)]) l1
 have b2:=VX.box b1 l1 tPIno [.pointer (some ⟨xb,0,none⟩)]
 simp only [World.size_alloc] at b2
 have l3:=loc_star (loc_blk (w.heap.size + 1 + 1) tInt [.int .i64 left]) l2
 have b3:=VX.box b2 l2 tInt [.int .i64 left]
 simp only [World.size_alloc] at b3
 have l4:=loc_star (loc_blk (w.heap.size + 1 + 1 + 1) tPVol [.pointer (some ⟨v,0,none⟩)]) l3
 have b4:=VX.box b3 l3 tPVol [.pointer (some ⟨v,0,none⟩)]
 simp only [World.size_alloc] at b4
 have b5:=VX.box b4 l4 tPIno [.pointer (some ⟨xb,0,none⟩)]
 simp only [World.size_alloc] at b5
 have HB5:=hid b5
 have HL3:=hid l3
 clear hL b1 b2 b3 b4 b5 l1 l2 l3 l4
 rw [wpIn_wide]
 go_wp2_with fail
 refine (HSZ.out _).mono ?_
 rintro e w1 ⟨rfl,rfl⟩
 go_wp2_with fail
 refine (vall_calls _ _ _).mono ?_
 rintro e w2 ⟨rfl,rfl⟩
 go_wp2_with fail
 generalize hWW:((((w.alloc (.cells #[.pointer (some ⟨v,0,none⟩)] tPVol)).alloc (.cells #[.pointer (some ⟨xb,0,none⟩)] tPIno)).alloc (.cells #[.int .i64 left] tInt)).alloc (.cells #[.pointer (some ⟨v,0,none⟩)] tPVol)).alloc (.cells #[.pointer (some ⟨xb,0,none⟩)] tPIno) = W0
 obtain ⟨n,hn⟩:∃ n,n = w.heap.size:=⟨_,rfl⟩
 have HW0:Hid (Lv S0 w0 (AA v b d xb (n + 1 + 1 + 1) (n + 1 + 1 + 1 + 1) (cutF left L x 0).1 (cutF left L x 0).2 (cutB v xb n left B)) W0):=by rw [hn,<- hWW];exact HB5
 rw [<- hn]
 clear HB5 hWW HL3 hn
 rw [<- wpIn_wide (n:=3)]
 have HLB:=hid (fun n=>loc_cutB (v:=v) (xb:=xb) (n:=n) (left:=left) hB)
 refine wpIn_range_lv (S0:=S0) (w0:=w0) (F:=Fence.wide) (n:=3) rfl (by omega) (gf:=159) (lb:=#[.pointer (some ⟨n + 1 + 1 + 1 + 1,0,none⟩),.pointer (some ⟨n + 1 + 1 + 1,0,none⟩)]) rfl trivial (enters_of Tryz.func159 (by kernel_rfl) rfl)
  (fun k=>AA v b d xb (n + 1 + 1 + 1) (n + 1 + 1 + 1 + 1) (cutF left L x k).1 (cutF left L x k).2 (cutB v xb n left B)) (fun _ _=>NoA) (fun _=>loc_AA (HLB.out n)) (fun _ _=>loc_no) (sectorsP x.size)
  (fun k=>#[.int .i64 k,.int .i64 (vat (cutF left L x k).1 (cutF left L x k).2 k:Nat)]) (fun _=>rfl) ?a1 HW0.out ?seq ?assign ?body ?done ?stop
 case seq =>
  intro l R St W hR hY hW
  exact vall1_calls HC.out.size (fun k=>(cutF left L x k).1) (fun k=>(cutF left L x k).2) (fun _=>cutB v xb n left B) rfl hxs (fun _=>HLB.out n) (fun k _=>(cutF_keeps HK.out k).1) l R St W hR hY hW
 case assign =>
  intro l k W K hK
  gi_wp2
  exact hK
 case stop =>
  intro D c k W hk hl
  obtain ⟨_,h⟩:=hl.second
  exact h.elim
 case body =>
  intro l R k W hR hk hl
  obtain ⟨p3,p2,p1,_⟩:=cut_cells hl
  have q3:=p3.cell (j:=0) rfl
  have q2:=p2.cell (j:=0) rfl
  have q1:=p1.cell (j:=0) rfl
  have hkL:=cutF_keeps HK.out k (left:=left) (x:=x)
  have hloc:=loc_star hR (loc_star (loc_blk (n + 1 + 1 + 1 + 1) tPIno [.pointer (some ⟨xb,0,none⟩)]) (loc_star (loc_blk (n + 1 + 1 + 1) tPVol [.pointer (some ⟨v,0,none⟩)]) (HLB.out n)))
  by_cases hle:left <= k
  ·have hat:=HC.out.at_ k (by rw [<- HLF.out];exact hle) hk
   rw [<- HLF.out] at hat
   have hM:=vmark_calls (VX.inn hl) (loc_star (loc_blk _ _ _) hloc) hkL.1 _ hat false
   have HS:=hid (fun W hW=>vset_calls (w:=W) (S0:=S0) (w0:=w0) (v:=v) (b:=b) (d:=d) (xb:=xb) (L:=vmark (cutF left L x k).1 (vat (cutF left L x k).1 (cutF left L x k).2 k) false) (x:=(cutF left L x k).2) hW hloc (vok_mark hkL.1 _ _) k (by have:=HC.out.size;omega) 0 (by omega))
   have HM:=hid hM
   have HE:Hid (cutF left L x (k + 1) = (vsetL (vmark (cutF left L x k).1 (vat (cutF left L x k).1 (cutF left L x k).2 k) false) (cutF left L x k).2 k 0,vsetX (cutF left L x k).2 k 0)):=hid (by rw [cutF_succ];unfold vcutStep;rw [if_pos hle])
   have hle':(left:Int) <= (k:Int):=by omega
   clear hM hat hl p1 p2 p3 hkL hle
   gi_wp2
   refine ⟨trivial,(callsIn_wide.2 HM.out).mono ?_⟩
   rintro e w2 ⟨rfl,L2⟩
   have L3:VX S0 w0 v b d xb _ (cutF left L x k).2 _ w2:=L2
   obtain ⟨p3,p2,p1,_⟩:=cut_cells (VX.out L3)
   have q3:=p3.cell (j:=0) rfl
   have q2:=p2.cell (j:=0) rfl
   have q1:=p1.cell (j:=0) rfl
   have HS2:=hid (HS.out _ L3)
   clear L2 L3 p1 p2 p3 HM HS
   gi_wp2
   refine ⟨trivial,(callsIn_wide.2 HS2.out).mono ?_⟩
   rintro e w3 ⟨rfl,L4⟩
   gi_wp2
   exact .inl (by rw [HE.out];exact VX.out L4)
  ·have hle':¬ (left:Int) <= (k:Int):=by omega
   have HE:Hid (cutF left L x (k + 1) = cutF left L x k):=hid (by rw [cutF_succ];unfold vcutStep;rw [if_neg hle])
   have HL:=hid hl
   clear hl p1 p2 p3 hkL hle
   gi_wp2
   exact .inl (by rw [HE.out];exact HL.out)
 case done =>
  intro D W hl
  obtain ⟨N,hN⟩:∃ N,N = sectorsP x.size:=⟨_,rfl⟩
  obtain ⟨hkN,hxN⟩:=cutF_keeps HK.out N (left:=left) (x:=x)
  have hS:=fun W=>vsectors_calls x.size (by omega) W
  have hcut:vcut L x size = ((if 5 < N /\ left <= 5 then (vmark (cutF left L x N).1 (cutF left L x N).2.a5 false,(cutF left L x N).2.put 5 0) else cutF left L x N).1,{ (if 5 < N /\ left <= 5 then (vmark (cutF left L x N).1 (cutF left L x N).2.a5 false,(cutF left L x N).2.put 5 0) else cutF left L x N).2 with size:=size }):=by rw [hN,HLF.out];rfl
  have hind:5 < N -> left <= 5 -> (cutF left L x N).2.a5 < 512:=by rw [hN,HLF.out];exact HC.out.ind
  rw [<- hN] at hl
  simp only [<- hN] at hS
  generalize cutF left L x N = q at *
  obtain ⟨M,y⟩:=q
  have hxN:y.size = x.size:=hxN
  have hl:Lv S0 w0 (Star (defA D) (AA v b d xb (n + 1 + 1 + 1) (n + 1 + 1 + 1 + 1) M y (cutB v xb n left B))) W:=hl
  obtain ⟨p3,p2,p1,p0⟩:=cut_cells hl
  have q3:=p3.cell (j:=0) rfl
  have q2:=p2.cell (j:=0) rfl
  have q1:=p1.cell (j:=0) rfl
  have y2:=p0.cell (j:=2) rfl
  have f2:=p0.free 2
  have y8:=p0.cell (j:=8) rfl
  have f8:=p0.free 8
  have hlocD:Loc (Star (defA D) (Star (blkA (n + 1 + 1 + 1 + 1) tPIno [.pointer (some ⟨xb,0,none⟩)]) (Star (blkA (n + 1 + 1 + 1) tPVol [.pointer (some ⟨v,0,none⟩)]) (cutB v xb n left B)))):=loc_star (loc_def _) (loc_star (loc_blk _ _ _) (loc_star (loc_blk _ _ _) (HLB.out n)))
  have HLD:=hid hlocD
  clear hlocD
  have hSW:=hS W
  have HSW:=hid hSW
  have HCU:=hid hcut
  have HL:=hid hl
  have HKN:=hid hkN
  have HIND:=hid hind
  clear hl p1 p2 p3 p0 hkN hcut hS hSW hind
  by_cases h5:5 < N
  ·have h5':(5:Int) < (N:Int):=by omega
   by_cases hl5:left <= 5
   ·have hl5':(left:Int) <= 5:=by omega
    have hM:=vmark_calls (Lv.drew (VX.inn HL.out) (VV.loc (loc_star (loc_blk _ _ _) HLD.out))) (loc_star (loc_blk _ _ _) HLD.out) HKN.out y.a5 (HIND.out h5 hl5) false
    have HM:=hid hM
    have HCC:Hid (5 < N /\ left <= 5):=hid ⟨h5,hl5⟩
    clear hM h5 hl5
    go_wp2_with fail
    refine HSW.out.mono ?_
    rintro e w2 ⟨rfl,rfl⟩
    go_wp2_with fail
    refine wp_region_tail 6 (by kernel_rfl) (by kernel_rfl) ?_
    simp only [List.take_succ_cons,List.take_zero,List.drop_succ_cons,List.drop_zero]
    repeat still_step
    refine wpStill_nil ?_
    go_wp2_with fail
    refine HM.out.mono ?_
    rintro e w3 ⟨rfl,L3⟩
    have L3:VX S0 w0 v b d xb (vmark M y.a5 false) y _ w3:=L3
    obtain ⟨p3,p2,p1,p0⟩:=cut_cells (VX.out L3)
    have q2:=p2.cell (j:=0) rfl
    have y2:=p0.cell (j:=2) rfl
    have f2:=p0.free 2
    have y8:=p0.cell (j:=8) rfl
    have f8:=p0.free 8
    have L4:=VV.cell1 (VV.cell1 L3 HLD.out 8 (.int .i64 0)) HLD.out 2 (.int .i64 size)
    have HL4:=hid L4
    clear L3 L4 p3 p2 p1 p0
    go_wp2_with fail
    have hZ:Lv S0 w0 (Star (defA D) (AA v b d xb (n + 1 + 1 + 1) (n + 1 + 1 + 1 + 1) (vmark M y.a5 false) { y.put 5 0 with size:=size } (cutB v xb n left B))) _:=VX.out HL4.out
    refine ⟨by simp,.inl ⟨_,_,rfl,run_takeDeferred hZ.def_at,?_⟩⟩
    refine ⟨.tuple #[],results_none rfl _ _ _,rfl,?_⟩
    rw [HCU.out,if_pos HCC.out]
    exact cut_fin (hZ.shut (loc_AA (HLB.out n)))
   ·have hl5':¬ (left:Int) <= 5:=by omega
    have HCC:Hid (¬ (5 < N /\ left <= 5)):=hid fun h=>hl5 h.2
    have HL4:=hid (VV.cell1 (VX.inn HL.out) HLD.out 2 (.int .i64 size))
    clear h5 hl5
    go_wp2_with fail
    refine HSW.out.mono ?_
    rintro e w2 ⟨rfl,rfl⟩
    go_wp2_with fail
    have hZ:Lv S0 w0 (Star (defA D) (AA v b d xb (n + 1 + 1 + 1) (n + 1 + 1 + 1 + 1) M { y with size:=size } (cutB v xb n left B))) _:=VX.out HL4.out
    refine ⟨by simp,.inl ⟨_,_,rfl,run_takeDeferred hZ.def_at,?_⟩⟩
    refine ⟨.tuple #[],results_none rfl _ _ _,rfl,?_⟩
    rw [HCU.out,if_neg HCC.out]
    exact cut_fin (hZ.shut (loc_AA (HLB.out n)))
  ·have h5':¬ (5:Int) < (N:Int):=by omega
   have HCC:Hid (¬ (5 < N /\ left <= 5)):=hid fun h=>h5 h.1
   have HL4:=hid (VV.cell1 (VX.inn HL.out) HLD.out 2 (.int .i64 size))
   clear h5
   go_wp2_with fail
   refine HSW.out.mono ?_
   rintro e w2 ⟨rfl,rfl⟩
   go_wp2_with fail
   have hZ:Lv S0 w0 (Star (defA D) (AA v b d xb (n + 1 + 1 + 1) (n + 1 + 1 + 1 + 1) M { y with size:=size } (cutB v xb n left B))) _:=VX.out HL4.out
   refine ⟨by simp,.inl ⟨_,_,rfl,run_takeDeferred hZ.def_at,?_⟩⟩
   refine ⟨.tuple #[],results_none rfl _ _ _,rfl,?_⟩
   rw [HCU.out,if_neg HCC.out]
   exact cut_fin (hZ.shut (loc_AA (HLB.out n)))
end
end
theorem put_fits {x:Ino} (h:x.Fits) (k y:Nat) (hy:y < 65536):(x.put k y).Fits:=by
 obtain ⟨h1,h2,h3,h4,h5,h6,h7,h8,h9⟩:=h
 unfold Ino.put
 split <;> exact ⟨by assumption,by assumption,by assumption,by assumption,by assumption,by assumption,by assumption,by assumption,by assumption⟩
theorem vsetX_fits {x:Ino} (h:x.Fits) (k y:Nat) (hy:y < 65536):(vsetX x k y).Fits:=by
 unfold vsetX
 split
 ·exact put_fits h k y hy
 ·exact h
theorem resize_fits {x:Ino} (h:x.Fits) (n:Nat) (hn:n < 65536):({ x with size:=n }:Ino).Fits:=⟨h.kind,h.links,hn,h.a0,h.a1,h.a2,h.a3,h.a4,h.a5⟩
theorem vcut_eq (L:LSt) (x:Ino) (size:Nat):vcut L x size =
 (let q:=if 5 < sectorsP x.size /\ sectorsP size <= 5 then (vmark (cutF (sectorsP size) L x (sectorsP x.size)).1 (cutF (sectorsP size) L x (sectorsP x.size)).2.a5 false,(cutF (sectorsP size) L x (sectorsP x.size)).2.put 5 0) else cutF (sectorsP size) L x (sectorsP x.size);(q.1,{ q.2 with size:=size })):=rfl
theorem vok_cut {L:LSt} (h:VOk L) (x:Ino) (size:Nat):VOk (vcut L x size).1:=by
 rw [vcut_eq]
 have h1:=(cutF_keeps h (sectorsP x.size) (left:=sectorsP size) (x:=x)).1
 show VOk (ite _ _ _:LSt × Ino).1
 split
 ·exact vok_mark h1 _ _
 ·exact h1
section
variable {S0:Nat -> Prop} {w0 w:World} {v b d:Nat} {L:LSt} {B R:Asr}
end
end Go.Proofs.YtngalllaiphkhaaGreatDoor
