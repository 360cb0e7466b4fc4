import Derived.Test.YtngalllaiphkhaaGreatDoorZUA
namespace Go.Proofs.YtngalllaiphkhaaGreatDoor
open Go.RowKit
open Go.Lib (hid)
set_option maxRecDepth 100000
set_option maxHeartbeats 16000000
set_option linter.unusedVariables false
set_option linter.unusedSimpArgs false
structure DocOk (T:Tr):Prop where
 free:∀ n,n < 32 -> (T n).kind = 0 -> T n = TN.free
 ok:∀ n,n < 32 -> ∀ o ∈ (T n).slots,SlotOk o
 up:∀ n,n < 32 -> (T n).up < 255
 len:∀ n,n < 32 -> (T n).slots.length <= 148
 data:∀ n,n < 32 -> (T n).data.length <= 2368
 kind:∀ n,n < 32 -> (T n).kind <= 2
 links:∀ n,n < 32 -> (T n).links <= 256
theorem TInv.docok {T:Tr} (h:TInv T):DocOk T where
 free:=h.free
 ok:=fun n hn o ho=>by
  have hk:=h.kind n hn
  obtain h0 | h1 | h2:(T n).kind = 0 \/ (T n).kind = 1 \/ (T n).kind = 2:=by omega
  ·rw [h.free n hn h0] at ho;simp [TN.free] at ho
  ·rw [(h.file n hn h1).1] at ho;simp at ho
  ·cases o with
   | none=>trivial
   | some y =>
    obtain ⟨i,s⟩:=y
    obtain ⟨k,hk⟩:=List.mem_iff_getElem?.1 ho
    obtain ⟨a,_,b,_⟩:=h.slot n hn h2 k i s hk
    exact ⟨a,b⟩
 up:=fun n hn=>by
  have hk:=h.kind n hn
  obtain h0 | h1 | h2:(T n).kind = 0 \/ (T n).kind = 1 \/ (T n).kind = 2:=by omega
  ·rw [h.free n hn h0];decide
  ·rw [(h.file n hn h1).2.1];decide
  ·have:=(h.up n hn h2).1;omega
 len:=fun n hn=>by
  have hk:=h.kind n hn
  obtain h0 | h1 | h2:(T n).kind = 0 \/ (T n).kind = 1 \/ (T n).kind = 2:=by omega
  ·rw [h.free n hn h0];decide
  ·rw [(h.file n hn h1).1];decide
  ·have:=h.size n hn h2;omega
 data:=fun n hn=>by
  have hk:=h.kind n hn
  obtain h0 | h1 | h2:(T n).kind = 0 \/ (T n).kind = 1 \/ (T n).kind = 2:=by omega
  ·rw [h.free n hn h0];decide
  ·exact (h.file n hn h1).2.2
  ·rw [h.dirD n hn h2];decide
 kind:=h.kind
 links:=fun n hn=>by have:=h.small n hn;omega
def volTo (T:Tr) (k:Nat):Nat -> Node:=fun n=>if n < k then volT T n else Node.free
theorem volTo_all (T:Tr):∀ n,n < 32 -> volTo T 32 n = volT T n:=fun n h=>if_pos h
theorem volTo_succ (T:Tr) (k:Nat):setA (volTo T k) k (volT T k) = volTo T (k + 1):=by
 funext n
 unfold setA volTo
 by_cases h:n = k
 ·subst h;rw [if_pos rfl,if_pos (by omega)]
 ·rw [if_neg h]
  by_cases h2:n < k
  ·rw [if_pos h2,if_pos (by omega)]
  ·rw [if_neg h2,if_neg (by omega)]
theorem nodesL_congr {A A':Nat -> Node}:∀ k,(∀ n,n < k -> A n = A' n) -> nodesL A k = nodesL A' k
 | 0,_=>rfl
 | k + 1,h=>by rw [nodesL_succ,nodesL_succ,nodesL_congr k fun n hn=>h n (by omega),h k (by omega)]
theorem rvA_congr {r nb c m:Nat} {sp:List Value} {A A':Nat -> Node} (h:∀ n,n < 32 -> A n = A' n):rvA r nb c sp m A = rvA r nb c sp m A':=by
 unfold rvA
 rw [nodesL_congr 32 h]
theorem set3_at (w:World) (b j0 j1 j2:Nat) (v0 v1 v2:Value):Fr (· = b) w (((w.setCell ⟨b,j0,none⟩ v0).setCell ⟨b,j1,none⟩ v1).setCell ⟨b,j2,none⟩ v2) :=
 ((Fr.setCell (S:=(· = b)) rfl w j0 v0).trans (Fr.setCell (S:=(· = b)) rfl _ j1 v1)).trans (Fr.setCell (S:=(· = b)) rfl _ j2 v2)
section
variable {S0:Nat -> Prop} {w0 w:World} {r g c m:Nat} {sp:List Value} {T:Tr} {us:Nat -> Value} {B R:Asr}
theorem dvol_calls (hX:Lv S0 w0 (Star (docX r m T) B) w) (hB:Loc B) (hT:DocOk T) :
 Calls Tryz.prog 71 #[.pointer (some ⟨r,0,none⟩)] w fun e w'=>∃ q,e = .returned (.pointer (some ⟨q,0,none⟩)) /\ Lv S0 w0 (Star (rvX q m (volT T)) (Star (docX r m T) B)) w':=by
 obtain ⟨g,c,sp,us,hL⟩:=docX_open hX
 have hR:Loc (Star (docA r g c sp m T us) B):=loc_star (loc_doc _ _ _ _ _ _ _) hB
 have HR:=hid hR
 have c0:=(doc_cells hL).1
 have HNW:Hid (Calls Tryz.prog 66 #[.int .i64 m] w fun e w'=>∃ q nb,e = .returned (.pointer (some ⟨q,0,none⟩)) /\ Lv S0 w0 (Star (rvA q nb 32 [] m (volTo T 0)) (Star (docA r g c sp m T us) B)) w'):=hid ((rnew_calls m w).mono fun e w' ⟨q,he,h⟩=>⟨q,w.heap.size,he,by
  have h0:volTo T 0 = fun _=>Node.free:=by funext n;exact if_neg (Nat.not_lt_zero n)
  rw [h0]
  obtain ⟨U,h1,h2,h3⟩:=h
  exact hL.new (B:=rvA q w.heap.size 32 [] m (fun _=>Node.free)) hR h3 (mon_star _ _ _ _ _ h1 fun k hk=>.inr ⟨(h2 k hk).1.elim False.elim id,(h2 k hk).2⟩)⟩)
 have HT:=hid hT
 clear hL hX hB hT hR
 go_enter Tryz.func71,Tryz.ntmps71
 go_wp2_with fail
 refine HNW.out.mono ?_
 rintro e w1 ⟨q,nb,rfl,L1⟩
 have HL1:=hid L1
 clear L1 HNW c0
 go_wp2_with fail
 go_loopw [4] (fun s4 wr=>∃ i:Nat,i <= 32 /\ s4 = .int .i64 i /\ Hid (Lv S0 w0 (Star (rvA q nb 32 [] m (volTo T i)) (Star (docA r g c sp m T us) B)) wr)) (fun s4 _=>32 - (intOf s4).toNat)
 case atStart=>exact ⟨0,Nat.zero_le _,rfl,HL1⟩
 case round =>
  obtain ⟨i,hi,rfl,HL⟩:=hrel
  clear HL1
  by_cases hlt:i < 32
  ·have hlt2:(i:Int) < 32:=by omega
   have hLd:=HL.out.map fun _ h=>star_flip h
   obtain ⟨_,v1,vn⟩:=rv_cells HL.out
   have c1:=(doc_cells hLd).2.1
   obtain ⟨d0,d1,d2,d3,d4,d5⟩:=(doc_cells hLd).2.2 i hlt
   have hbr:=(doc_blk hLd).1
   have hbg:=(doc_blk hLd).2
   have hbq:=(Lv.assoc HL.out).blk
   have hbn:=(Lv.drop (Lv.assoc HL.out)).blk
   have nr:r ≠ nb:=hbr.ne hbn (by decide)
   have ng:g ≠ nb:=hbg.ne hbn (by decide)
   have nq:q ≠ nb:=hbq.ne hbn (by decide)
   have hlR:Loc (Star (rvA q nb 32 [] m (volTo T i)) (Star (docA r g c sp m T us) B)):=loc_star (loc_rv _ _ _ _ _ _) HR.out
   have HLR:=hid hlR
   have hdr:=HL.out.drew hlR
   have hrow:=doc_row (hdr.map fun _ h=>star_flip h) hlt
   have HBY:=hid (dbytes_calls (T i) hrow (HT.out.ok i hlt) (HT.out.up i hlt) (by have:=HT.out.len i hlt;omega))
   have HDR:=hid hdr
   obtain ⟨kd,hkd⟩:∃ k:Int,k = (T i).kind:=⟨_,rfl⟩
   obtain ⟨lk,hlk⟩:∃ k:Int,k = (T i).links:=⟨_,rfl⟩
   obtain ⟨hd,hhd⟩:∃ k:Int,k = (T i).held:=⟨_,rfl⟩
   obtain ⟨up,hupp⟩:∃ k:Int,k = (T i).up:=⟨_,rfl⟩
   obtain ⟨db,hdb⟩:∃ k:ByteArray,k = ⟨(T i).data.toArray⟩:=⟨_,rfl⟩
   obtain ⟨DB,hDB⟩:∃ k:ByteArray,k = ⟨(dataT (T i)).toArray⟩:=⟨_,rfl⟩
   obtain ⟨u,hu⟩:∃ u,u = us i:=⟨_,rfl⟩
   rw [<- hkd,<- hlk,<- hhd,<- hupp,<- hdb,<- hDB,<- hu] at HBY
   rw [<- hkd] at d0
   rw [<- hlk] at d1
   rw [<- hdb] at d2
   rw [<- hu] at d3
   rw [<- hupp] at d4
   rw [<- hhd] at d5
   obtain ⟨ao,cap,hu2⟩:=row_any hrow
   rw [<- hu] at hu2
   subst hu2
   generalize (T i).slots.length = sn at *
   have HKD:=hid hkd
   have HLK:=hid hlk
   have HDB:=hid hDB
   have e1:=c1
   have e2:=v1
   clear hbr hbg hbq hbn hlR hdr hrow hkd hlk hhd hupp hdb hDB hu vn hLd
   go_wp2_with fail
   go_region_held3 (fun w'=>w'.cell? ⟨r,1,none⟩ = some (.slice (some ⟨g,0,none⟩) 32 c) /\ w'.cell? ⟨q,1,none⟩ = some (.slice (some ⟨nb,0,none⟩) 32 32) /\ w'.cell? ⟨g,i * 6,none⟩ = some (.int .i64 kd) /\ w'.cell? ⟨g,i * 6 + 1,none⟩ = some (.int .i64 lk) /\ w'.cell? ⟨g,i * 6 + 2,none⟩ = some (.string db) /\ w'.cell? ⟨g,i * 6 + 3,none⟩ = some (.slice ao sn cap) /\ w'.cell? ⟨g,i * 6 + 4,none⟩ = some (.int .i64 up) /\ w'.cell? ⟨g,i * 6 + 5,none⟩ = some (.int .i64 hd))
    (first | go_keep | exact ⟨r1,r2,r3,r4,r5,r6,r7,r8⟩ | exact ⟨(set3_at _ _ _ _ _ _ _ _).cell r1 nr,(set3_at _ _ _ _ _ _ _ _).cell r2 nq,(set3_at _ _ _ _ _ _ _ _).cell r3 ng,(set3_at _ _ _ _ _ _ _ _).cell r4 ng,(set3_at _ _ _ _ _ _ _ _).cell r5 ng,(set3_at _ _ _ _ _ _ _ _).cell r6 ng,(set3_at _ _ _ _ _ _ _ _).cell r7 ng,(set3_at _ _ _ _ _ _ _ _).cell r8 ng⟩)
    (first | (go_at_call 135;refine HBY.out.mono ?_;rintro e w8 ⟨rfl,hf8⟩;have r1:=hf8.cell (show wr.drew.cell? _ = _ from c1) (fun h=>h);have r2:=hf8.cell (show wr.drew.cell? _ = _ from v1) (fun h=>h);have r3:=hf8.cell (show wr.drew.cell? _ = _ from d0) (fun h=>h);have r4:=hf8.cell (show wr.drew.cell? _ = _ from d1) (fun h=>h);have r5:=hf8.cell (show wr.drew.cell? _ = _ from d2) (fun h=>h);have r6:=hf8.cell (show wr.drew.cell? _ = _ from d3) (fun h=>h);have r7:=hf8.cell (show wr.drew.cell? _ = _ from d4) (fun h=>h);have r8:=hf8.cell (show wr.drew.cell? _ = _ from d5) (fun h=>h);have L8:=Lv.keep HDR.out HLR.out hf8;have HL8:=hid L8;have hb8:=(Lv.drop (Lv.assoc L8)).blk;obtain ⟨y0,y1,y2⟩:=(rv_cells L8).2.2 i hlt;have z0:=hb8.free (i * 3);have z1:=hb8.free (i * 3 + 1);have z2:=hb8.free (i * 3 + 2);clear L8 hb8))
   all_goals
    have L9:Lv S0 w0 (Star (rvA q nb 32 [] m (setA (volTo T i) i ⟨(T i).kind,(T i).links,dataT (T i)⟩)) (Star (docA r g c sp m T us) B)) (((w8.setCell ⟨nb,i * 3,none⟩ (.int .i64 kd)).setCell ⟨nb,i * 3 + 1,none⟩ (.int .i64 lk)).setCell ⟨nb,i * 3 + 2,none⟩ (.string DB)):=by
     rw [HKD.out,HLK.out,HDB.out]
     exact rv_node HL8.out HR.out hlt ⟨(T i).kind,(T i).links,dataT (T i)⟩
    obtain ⟨w9,hw9⟩:∃ w9,w9 = ((w8.setCell ⟨nb,i * 3,none⟩ (.int .i64 kd)).setCell ⟨nb,i * 3 + 1,none⟩ (.int .i64 lk)).setCell ⟨nb,i * 3 + 2,none⟩ (.string DB):=⟨_,rfl⟩
    rw [<- hw9] at L9 ⊢
    have hLd9:=L9.map fun _ h=>star_flip h
    have a1:=(doc_cells hLd9).2.1
    have a0:=((doc_cells hLd9).2.2 i hlt).1
    rw [<- HKD.out] at a0
    have u1:=(rv_cells L9).2.1
    have u4:=((rv_cells L9).2.2 i hlt).2.2
    have u5:=((Lv.drop (Lv.assoc L9)).blk).free (i * 3 + 2)
    have HL9:=hid L9
    clear L9 hLd9 hw9 r1 r2 r3 r4 r5 r6 r7 r8 y0 y1 y2 z0 z1 z2 hf8 c1 v1 d0 d1 d2 d3 d4 d5 e1 e2
    generalize dataB (setA (volTo T i) i ⟨(T i).kind,(T i).links,dataT (T i)⟩ i) = ob at *
    by_cases hk0:kd = 0
    ·have t0:(kd == 0) = true:=by simpa using hk0
     have hfr:=HT.out.free i hlt (by have:=HKD.out;omega)
     have L10:=rv_data HL9.out HR.out hlt []
     rw [setA_at,setA_setA] at L10
     have hv:({ (⟨(T i).kind,(T i).links,dataT (T i)⟩:Node) with data:=[] }) = volT T i:=by
      show (⟨(T i).kind,(T i).links,[]⟩:Node) = nodeT (T i)
      rw [hfr]
      rfl
     rw [hv,volTo_succ] at L10
     have HL10:=hid L10
     clear L10 hv hfr hk0
     go_wp2_with fail
     go_roundw
     case rel=>exact ⟨i + 1,hlt,by go_num,HL10⟩
     case measure=>simp [intOf] <;> omega
    ·have t0:(kd == 0) = false:=by simpa using hk0
     have hv:(⟨(T i).kind,(T i).links,dataT (T i)⟩:Node) = volT T i:=(nodeT_some (by have:=HKD.out;omega)).symm
     have L10:=HL9.out
     rw [hv,volTo_succ] at L10
     have HL10:=hid L10
     clear L10 hv hk0
     go_wp2_with fail
     go_roundw
     case rel=>exact ⟨i + 1,hlt,by go_num,HL10⟩
     case measure=>simp [intOf] <;> omega
  ·obtain rfl:i = 32:=by omega
   have hlt2:¬ (32:Int) < 32:=by omega
   have h:=HL.out
   rw [rvA_congr (volTo_all T)] at h
   have HF:=hid h
   clear h
   go_wp2_with fail
   go_ret
   exact ⟨q,rfl,rvX_shut (HF.out.map fun _ h=>star_right h fun _ h=>star_left h fun _ h=>⟨g,c,sp,us,h⟩)⟩
end
theorem slotsV_one (l:List SlotT):∀ u ∈ slotsV l,u.oneCell' = true:=fun u hu=>by
 obtain ⟨o,_,ho⟩:=List.mem_flatMap.1 hu
 cases o with
 | none=>simp [slotV] at ho;rcases ho with rfl | rfl <;> rfl
 | some y=>simp [slotV] at ho;rcases ho with rfl | rfl <;> rfl
theorem srcs_new (w:World) (cs:List Value) (t:TypeId) (c:Nat) (h1:∀ u ∈ cs,u.oneCell' = true):Srcs (w.alloc (.cells cs.toArray t)) (.slice (some ⟨w.heap.size,0,none⟩) 1 c) 1 cs.length cs :=
 (Blk.new w t cs).srcs (by omega) h1 c
section
variable {S0:Nat -> Prop} {w0 w:World} {r g c m:Nat} {sp:List Value} {T:Tr} {us:Nat -> Value} {B R:Asr}
def cpyA (q m:Nat) (v:Value) (T:Tr) (us:Nat -> Value) (k:Nat) (B:Asr):Asr:=Star (blkA q tDTree [.int .i64 m,v]) (Star (rowA tDNode 6 v k (tnsL T us k)) (Star (rowsD T us k) B))
theorem loc_cpy {q m:Nat} {v:Value} {k:Nat} (hB:Loc B):Loc (cpyA q m v T us k B):=loc_star (loc_blk _ _ _) (loc_star (loc_row _ _ _ _ _) (loc_star (loc_rows _ _ _) hB))
theorem cpy_next {q:Nat} {v v' v'':Value} {k:Nat} {w4 W3:World} (hB:Loc B) (h:Lv S0 w0 (Star (rowD (T k) v') (cpyA q m v T us k B)) W3)
 (hown:w4.ownsRow 0 tDNode 6 v'' (k + 1) (tnsL T us k ++ tnL (T k) v')) (hf:Fr (fun j=>v.ownBlock = some j) W3 w4) (hv:∀ j,v''.ownBlock = some j -> v.ownBlock = some j \/ W3.heap.size <= j) :
 Lv S0 w0 (cpyA q m v'' T (setU us k v') (k + 1) B) (w4.setCell ⟨q,1,none⟩ v''):=by
 have hl:Loc (Star (rowD (T k) v') (Star (blkA q tDTree [.int .i64 m,v]) (Star (rowsD T us k) B))):=loc_star (loc_row _ _ _ _ _) (loc_star (loc_blk _ _ _) (loc_star (loc_rows _ _ _) hB))
 have h1:Lv S0 w0 (Star (rowA tDNode 6 v k (tnsL T us k)) (Star (rowD (T k) v') (Star (blkA q tDTree [.int .i64 m,v]) (Star (rowsD T us k) B)))) W3 :=
  h.map fun _ h=>star_flip (star_right h fun _ h=>star_flip h)
 have h2:=h1.turn hl (turn_append hown hf hv)
 have hl2:Loc (Star (rowA tDNode 6 v'' (k + 1) (tnsL T us k ++ tnL (T k) v')) (Star (rowD (T k) v') (Star (rowsD T us k) B))):=loc_star (loc_row _ _ _ _ _) (loc_star (loc_row _ _ _ _ _) (loc_star (loc_rows _ _ _) hB))
 have h3:Lv S0 w0 (Star (blkA q tDTree [.int .i64 m,v]) (Star (rowA tDNode 6 v'' (k + 1) (tnsL T us k ++ tnL (T k) v')) (Star (rowD (T k) v') (Star (rowsD T us k) B)))) w4 :=
  h2.map fun _ h=>star_flip (star_right h fun _ h=>star_flip h)
 have h4:=h3.turn hl2 (turn_blk 1 v'')
 have e1:tnsL T (setU us k v') (k + 1) = tnsL T us k ++ tnL (T k) v':=by
  rw [tnsL_succ,setU_same,tnsL_congr (T:=T) (U:=T) (us:=setU us k v') (vs:=us) k fun i hi=>⟨rfl,setU_ne _ _ (by omega)⟩]
 have e2:rowsD T (setU us k v') (k + 1) = Star (rowD (T k) v') (rowsD T us k):=by
  show Star (rowD (T k) (setU us k v' k)) (rowsD T (setU us k v') k) = _
  rw [setU_same,rowsD_congr (T:=T) (U:=T) (us:=setU us k v') (vs:=us) k fun i hi=>⟨rfl,setU_ne _ _ (by omega)⟩]
 unfold cpyA
 rw [e1,e2]
 exact h4.map fun _ h=>star_right h fun _ h=>star_right h fun _ h=>star_assoc' h
theorem cpy_all {q:Nat} {v:Value} (h:Lv S0 w0 (cpyA q m v T us 32 B) w):Lv S0 w0 (Star (docX q m T) B) w:=by
 obtain ⟨U,⟨S1,S2,h1,⟨S3,S4,h2,⟨S5,S6,h3,h4,e1,e2,e3⟩,e4,e5,e6⟩,e7,e8,e9⟩,h5⟩:=h
 obtain ⟨g,cap,sp,rfl,hb⟩:=row_blk h2.1 (by omega)
 refine ⟨U,?_,h5⟩
 have hg:blkA g tDNode (tnsL T us 32 ++ sp) w S3:=⟨hb,h2.2 g rfl⟩
 have:Star (blkA q tDTree [.int .i64 m,.slice (some ⟨g,0,none⟩) 32 cap]) (Star (blkA g tDNode (tnsL T us 32 ++ sp)) (Star (rowsD T us 32) B)) w U :=
  ⟨S1,S2,h1,⟨S3,S4,hg,⟨S5,S6,h3,h4,e1,e2,e3⟩,e4,e5,e6⟩,e7,e8,e9⟩
 exact star_left (star_assoc' (star_right this fun _ h=>star_assoc' h)) fun _ h=>⟨g,cap,sp,us,h⟩
theorem dcopy_calls (hX:Lv S0 w0 (Star (docX r m T) B) w) (hB:Loc B) (hT:DocOk T) :
 Calls Tryz.prog 41 #[.pointer (some ⟨r,0,none⟩)] w fun e w'=>∃ q,e = .returned (.pointer (some ⟨q,0,none⟩)) /\ Lv S0 w0 (Star (docX q m T) (Star (docX r m T) B)) w':=by
 obtain ⟨g,c,sp,us,hL⟩:=docX_open hX
 have hR:Loc (Star (docA r g c sp m T us) B):=loc_star (loc_doc _ _ _ _ _ _ _) hB
 have HR:=hid hR
 have c0:=(doc_cells hL).1
 have HT:=hid hT
 have L1:Lv S0 w0 (cpyA w.heap.size m (.slice none 0 0) T us 0 (Star (docA r g c sp m T us) B)) (w.alloc (.cells ([.int .i64 m,.slice none 0 0]:List Value).toArray tDTree)) :=
  (hL.box hR tDTree [.int .i64 m,.slice none 0 0]).map fun _ h=>star_right h fun S h =>
   ⟨Nob,S,⟨World.ownsRow_nil _ _ _ _,fun k hk=>by cases hk⟩,⟨Nob,S,trivial,h,fun _ h=>h.elim,fun _ h=>h.elim,fun _ h=>h⟩,fun _ h=>h.elim,fun _ h=>h.elim,fun _ h=>h⟩
 have HL1:=hid L1
 obtain ⟨q,hq⟩:∃ q,q = w.heap.size:=⟨_,rfl⟩
 rw [<- hq] at HL1
 have HQ:=hid hq
 clear hX hB hT hL hR L1 hq
 go_enter Tryz.func41,Tryz.ntmps41
 go_wp2_with fail
 rw [<- HQ.out]
 go_loopw [4] (fun s4 wr=>∃ (i:Nat) (ao:Option Addr) (cap:Nat) (us':Nat -> Value),i <= 32 /\ s4 = .int .i64 i /\ Hid (Lv S0 w0 (cpyA q m (.slice ao i cap) T us' i (Star (docA r g c sp m T us) B)) wr)) (fun s4 _=>32 - (intOf s4).toNat)
 case atStart=>exact ⟨0,none,0,us,Nat.zero_le _,rfl,HL1⟩
 case round =>
  obtain ⟨i,ao,cap,us',hi,rfl,HL⟩:=hrel
  clear HL1
  by_cases hlt:i < 32
  ·have hlt2:(i:Int) < 32:=by omega
   have hLd:Lv S0 w0 (Star (docA r g c sp m T us) B) wr:=HL.out.drop.drop.drop
   have c1:=(doc_cells hLd).2.1
   obtain ⟨d0,d1,d2,d3,d4,d5⟩:=(doc_cells hLd).2.2 i hlt
   have hrow:=doc_row hLd hlt
   obtain ⟨ao2,cap2,hu⟩:=row_any hrow
   rw [hu] at d3 hrow
   obtain ⟨sn,hsn⟩:∃ sn,sn = (T i).slots.length:=⟨_,rfl⟩
   have hsz:=HT.out.len i hlt
   rw [<- hsn] at d3 hrow hsz
   obtain ⟨kd,hkd⟩:∃ k:Int,k = (T i).kind:=⟨_,rfl⟩
   obtain ⟨lk,hlk⟩:∃ k:Int,k = (T i).links:=⟨_,rfl⟩
   obtain ⟨hd,hhd⟩:∃ k:Int,k = (T i).held:=⟨_,rfl⟩
   obtain ⟨up,hupp⟩:∃ k:Int,k = (T i).up:=⟨_,rfl⟩
   obtain ⟨db,hdb⟩:∃ k:ByteArray,k = ⟨(T i).data.toArray⟩:=⟨_,rfl⟩
   rw [<- hkd] at d0
   rw [<- hlk] at d1
   rw [<- hdb] at d2
   rw [<- hupp] at d4
   rw [<- hhd] at d5
   have hlC:Loc (cpyA q m (.slice ao i cap) T us' i (Star (docA r g c sp m T us) B)):=loc_cpy HR.out
   have HLC:=hid hlC
   have L1:=HL.out.box hlC tDNode [.int .i64 kd,.int .i64 lk,.string db,.slice none 0 0,.int .i64 up,.int .i64 hd]
   have hL1d:Lv S0 w0 (Star (docA r g c sp m T us) B) _:=L1.drop.drop.drop.drop
   obtain ⟨bx,hbx⟩:∃ bx,bx = wr.heap.size:=⟨_,rfl⟩
   obtain ⟨W1,hW1⟩:∃ W1,W1 = wr.alloc (.cells ([.int .i64 kd,.int .i64 lk,.string db,.slice none 0 0,.int .i64 up,.int .i64 hd]:List Value).toArray tDNode):=⟨_,rfl⟩
   rw [<- hW1,<- hbx] at L1
   rw [<- hW1] at hL1d
   have HW1:Hid (wr.alloc (.cells #[.int .i64 kd,.int .i64 lk,.string db,.slice none 0 0,.int .i64 up,.int .i64 hd] 141) = W1):=hid hW1.symm
   have HBX:=hid hbx
   have HKD:=hid hkd
   have HLK:=hid hlk
   have HHD:=hid hhd
   have HUP:=hid hupp
   have HDB:=hid hdb
   have HSN:=hid hsn
   have HSZ:=hid hsz
   have HU:=hid hu
   clear hkd hlk hhd hupp hdb hsn hu hbx hW1 hrow hlC hLd hsz
   go_wp2_with fail
   rw [HW1.out,<- HBX.out]
   clear c1 d0 d1 d2 d3 d4 d5
   have c1:=(doc_cells hL1d).2.1
   have d3:=((doc_cells hL1d).2.2 i hlt).2.2.2.1
   have hro:=doc_row (hL1d.drew HR.out) hlt
   rw [HU.out,<- HSN.out] at hro
   rw [HU.out,<- HSN.out] at d3
   have HS:=hid (row_srcs hro (slotsV_one _))
   have hbb:=L1.blk
   have x3:=hbb.cell (j:=3) rfl
   have HBB:=hid hbb
   have HL1:=hid L1
   have hsz:=HSZ.out
   clear hro hbb L1 hL1d
   go_region_law (refine step_append_mine rfl (ho:=rfl) (s:=.tmp 25) (x:=.tmp 33) Tryz.rowDSlot (v:=.slice none 0 0) (by simp [Act.eval]) (World.ownsRow_nil _ _ _ _) (src:=.slice ao2 sn cap2) (by simp [Act.eval]) HS.out (by omega) ?_;intro v' w3 hown3 hf3 hv3 _;rw [Nat.zero_add,List.nil_append] at hown3;obtain ⟨ao3,cap3,rfl⟩:=row_any hown3;have hb3:=(HBB.out.drew).fr hf3 (fun e=>by cases e);have y3:=hb3.cell (j:=3) rfl;have f3:=hb3.free 3)
   all_goals
    have hl1:Loc (Star (blkA bx tDNode [.int .i64 kd,.int .i64 lk,.string db,.slice none 0 0,.int .i64 up,.int .i64 hd]) (cpyA q m (.slice ao i cap) T us' i (Star (docA r g c sp m T us) B))):=loc_star (loc_blk _ _ _) HLC.out
    have L3:=(HL1.out.drew hl1).new (B:=rowA tDSlot 2 (.slice ao3 sn cap3) sn (slotsV (T i).slots)) hl1 (hf3.mono fun k e=>by cases e) ⟨hown3,fun k hk=>.inr ⟨(hv3 k hk).elim (fun e=>by cases e) id,(hown3.lt k hk).2⟩⟩
    have L4:=(L3.map fun _ h=>star_flip h).turn (loc_star (loc_row _ _ _ _ _) HLC.out) (turn_blk 3 (.slice ao3 sn cap3))
    obtain ⟨W2,hW2⟩:∃ W2,W2 = w3.setCell ⟨bx,3,none⟩ (.slice ao3 sn cap3):=⟨_,rfl⟩
    rw [<- hW2] at L4 ⊢
    have L4:Lv S0 w0 (Star (blkA bx tDNode [.int .i64 kd,.int .i64 lk,.string db,.slice ao3 sn cap3,.int .i64 up,.int .i64 hd]) (Star (rowA tDSlot 2 (.slice ao3 sn cap3) sn (slotsV (T i).slots)) (cpyA q m (.slice ao i cap) T us' i (Star (docA r g c sp m T us) B)))) W2:=L4
    have hb4:=L4.blk
    have L5:=L4.drop
    have hq5:=(L5.drop).blk
    obtain ⟨S5,h5,_⟩:=(L5.drop.drop).first
    have ho5:=h5
    have z0:=hb4.cell (j:=0) rfl
    have z1:=hb4.cell (j:=1) rfl
    have z2:=hb4.cell (j:=2) rfl
    have z3:=hb4.cell (j:=3) rfl
    have z4:=hb4.cell (j:=4) rfl
    have z5:=hb4.cell (j:=5) rfl
    have q1:=hq5.cell (j:=1) rfl
    have ca:=(hq5.alloc (.cells #[.int .i64 kd,.int .i64 lk,.string db,.slice ao3 sn cap3,.int .i64 up,.int .i64 hd] 141)).cell (j:=1) rfl
    have HO:=hid ho5
    have HQB:=hid hq5
    have HNE:=hid (row_ne ho5 hq5 (by decide))
    have HL5:=hid L5
    clear L3 L4 L5 hb4 hq5 h5 ho5 hW2 hl1 c1 d3 x3 hown3 hf3 hv3 hb3 y3 f3 HL1 HBB HS
    go_wp2_with fail
    go_region_law (refine step_append_mine rfl (ho:=rfl) (s:=.tmp 40) (x:=.tmp 42) Tryz.rowDNode (v:=.slice ao i cap) (by simp [Act.eval]) ((HO.out.drew).alloc _) (src:=.slice (some ⟨W2.heap.size,0,none⟩) 1 1) (by simp [Act.eval]) (srcs_new W2.drew [.int .i64 kd,.int .i64 lk,.string db,.slice ao3 sn cap3,.int .i64 up,.int .i64 hd] _ 1 (by simp [Value.oneCell'])) (by omega) ?_;intro v'' w4 hown4 hf4 hv4 _;obtain ⟨ao4,cap4,rfl⟩:=row_any hown4;have hq4:=((HQB.out.drew).alloc _).fr hf4 HNE.out;have q1':=hq4.cell (j:=1) rfl;have fq:=hq4.free 1)
    all_goals
     have e:([.int .i64 kd,.int .i64 lk,.string db,.slice ao3 sn cap3,.int .i64 up,.int .i64 hd]:List Value) = tnL (T i) (.slice ao3 sn cap3):=by rw [HKD.out,HLK.out,HDB.out,HUP.out,HHD.out];rfl
     rw [e] at hown4
     have L6:=HL5.out
     rw [show rowA tDSlot 2 (.slice ao3 sn cap3) sn (slotsV (T i).slots) = rowD (T i) (.slice ao3 sn cap3) by unfold rowD;rw [HSN.out]] at L6
     have hl6:Loc (Star (rowD (T i) (.slice ao3 sn cap3)) (cpyA q m (.slice ao i cap) T us' i (Star (docA r g c sp m T us) B))):=loc_star (loc_row _ _ _ _ _) HLC.out
     have L7:=cpy_next HR.out ((L6.drew hl6).alloc hl6 _) hown4 hf4 hv4
     have HL7:=hid L7
     clear L6 L7 hl6 e hown4 hf4 hv4 hq4 q1' fq z0 z1 z2 z3 z4 z5 q1 ca
     go_wp2_with fail
     go_roundw
     case rel=>exact ⟨i + 1,ao4,cap4,_,hlt,by go_num,HL7⟩
     case measure=>simp [intOf] <;> omega
  ·obtain rfl:i = 32:=by omega
   have hlt2:¬ (32:Int) < 32:=by omega
   have HF:=hid (cpy_all HL.out)
   go_wp2_with fail
   go_ret
   exact ⟨q,rfl,HF.out.map fun _ h=>star_right h fun _ h=>star_left h fun _ h=>⟨g,c,sp,us,h⟩⟩
end
theorem takes_le40 {n:Nat} (h:n <= 2400):takesP n <= 40:=by unfold takesP sectorsP;split <;> omega
theorem sumT_le40 {A:Nat -> Node} (h:∀ n,n < 32 -> (A n).data.length <= 2400):∀ j,j <= 32 -> sumT A j <= 40 * j
 | 0,_=>Nat.zero_le _
 | j + 1,hj=>by
  have:=sumT_le40 h j (by omega)
  have:=takes_le40 (h j (by omega))
  unfold sumT
  omega
section
variable {S0:Nat -> Prop} {w0 w:World} {r nb c m:Nat} {sp:List Value} {A:Nat -> Node} {B R:Asr}
theorem droom_calls (hL:Lv S0 w0 (Star (rvA r nb c sp m A) B) w) (hm:m <= 512) (hA:∀ n,n < 32 -> (A n).data.length <= 2400) :
 Calls Tryz.prog 201 #[.pointer (some ⟨r,0,none⟩)] w fun e w'=>e = .returned (.int .i64 ((m:Int) - 9 - sumT A 32)) /\ w = w':=by
 obtain ⟨z,hz⟩:∃ z,z = sumT A 32:=⟨_,rfl⟩
 rw [<- hz]
 have HZ:Hid (∀ j,j = 32 -> sumT A j = z):=hid (fun j hj=>by rw [hj,hz])
 clear hz
 have HC:=hid (rv_cells hL)
 have c0:=HC.out.1
 have c1:=HC.out.2.1
 have HA:=hid hA
 have HM:=hid hm
 have wr0:IntKind.i64.wrap ((m:Int) - 9) = (m:Int) - 9:=by rw [IntKind.wrap_i64] <;> omega
 clear hL hA hm
 go_enter Tryz.func201,Tryz.ntmps201
 go_wp2_with fail
 go_loopw [3,4] (fun s3 s4 wr=>∃ (j:Nat) (y:Int),j <= 32 /\ Hid (y = (m:Int) - 9 - sumT A j) /\ s3 = .int .i64 y /\ s4 = .int .i64 j /\ wr = w) (fun _ s4 _=>32 - (intOf s4).toNat)
 case atStart=>exact ⟨0,(m:Int) - 9,Nat.zero_le _,hid (by simp [sumT]),rfl,rfl,rfl⟩
 case round =>
  obtain ⟨j,y,hj,HY,rfl,rfl,hwr⟩:=hrel
  rw [hwr]
  clear hwr
  by_cases hlt:j < 32
  ·obtain ⟨_,_,d2⟩:=HC.out.2.2 j hlt
   have hle:=sumT_le40 HA.out (j + 1) hlt
   have hl2:=HA.out j hlt
   have hlt2:(j:Int) < 32:=by omega
   have hm:=HM.out
   have hss:sumT A (j + 1) = sumT A j + takesP (A j).data.length:=rfl
   have hds:=dataB_size (A j)
   have hy:=HY.out
   obtain ⟨y2,hy2⟩:∃ y2:Int,y2 = (m:Int) - 9 - sumT A (j + 1):=⟨_,rfl⟩
   have wr1:IntKind.i64.wrap (y - (takesP (A j).data.length:Int)) = y2:=by rw [IntKind.wrap_i64] <;> omega
   have HY2:=hid hy2
   have HT:=hid (rtakes_calls (A j).data.length (by omega))
   rw [<- hds] at HT wr1
   generalize dataB (A j) = db at *
   generalize takesP db.size = tk at *
   clear hle hl2 hm hss hds hy hy2 HY
   go_wp2_with fail
   refine (HT.out _).mono ?_
   rintro e w2 ⟨rfl,rfl⟩
   go_wp2_with fail
   go_roundw
   case rel=>exact ⟨j + 1,y2,hlt,HY2,rfl,by go_num,by first | trivial | rfl⟩
   case measure=>simp [intOf];omega
  ·have hzz:y = (m:Int) - 9 - z:=by rw [HY.out,HZ.out j (by omega)]
   have HZZ:=hid hzz
   clear hzz HZ HA HC HY
   go_wp2_with fail
   go_ret
   first | exact ⟨rfl,rfl⟩ | exact ⟨by rw [HZZ.out];rfl,rfl⟩
end
theorem DocOk.vol {T:Tr} (h:DocOk T):∀ n,n < 32 -> (volT T n).data.length <= 2400:=fun n hn=>by
 show (nodeT (T n)).data.length <= 2400
 by_cases h0:(T n).kind = 0
 ·unfold nodeT;rw [if_pos h0];decide
 ·rw [nodeT_some h0]
  show (dataT (T n)).length <= 2400
  unfold dataT
  split
  ·rw [drc_len (h.ok n hn)]
   have:=h.len n hn
   omega
  ·have:=h.data n hn
   omega
theorem fits_no {m:Nat} {T:Tr} {i:Nat} (hi:i < 32) (hk:(T i).kind = 2) (hz:2368 < 16 * (1 + (T i).slots.length)):fitsT m T = false:=by
 rw [Bool.eq_false_iff]
 intro h
 have:=(fits_iff.1 h).2 i hi hk
 omega
theorem fits_is {m:Nat} {T:Tr} (h:∀ j,j < 32 -> (T j).kind = 2 -> 16 * (1 + (T j).slots.length) <= 2368) {z:Int} (hz:z = (m:Int) - 9 - sumT (volT T) 32):decide (0 <= z) = fitsT m T:=by
 by_cases hs:sumT (volT T) 32 + 9 <= m
 ·rw [fits_iff.2 ⟨hs,h⟩]
  exact decide_eq_true (by omega)
 ·have:fitsT m T = false:=by
   rw [Bool.eq_false_iff]
   intro hf
   exact hs (fits_iff.1 hf).1
  rw [this]
  exact decide_eq_false (by omega)
section
variable {S0:Nat -> Prop} {w0 w:World} {r g c m:Nat} {sp:List Value} {T:Tr} {us:Nat -> Value} {B R:Asr}
theorem dfits_calls (hX:Lv S0 w0 (Star (docX r m T) B) w) (hB:Loc B) (hT:DocOk T) (hm:m <= 512) :
 Calls Tryz.prog 178 #[.pointer (some ⟨r,0,none⟩)] w fun e w'=>e = .returned (.bool (fitsT m T)) /\ Lv S0 w0 (Star (docX r m T) B) w':=by
 have HV:=hid (dvol_calls hX hB hT)
 have HVL:=hid hT.vol
 have HM:=hid hm
 have HLEN:=hid hT.len
 have HNO:=hid (fun i=>fits_no (m:=m) (T:=T) (i:=i))
 have HIS:=hid (fun h z=>fits_is (m:=m) (T:=T) h (z:=z))
 clear hX hB hT hm
 obtain ⟨FT,hFT⟩:∃ x,x = fitsT m T:=⟨_,rfl⟩
 rw [<- hFT] at HNO HIS ⊢
 obtain ⟨z,hz⟩:∃ z:Int,z = (m:Int) - 9 - sumT (volT T) 32:=⟨_,rfl⟩
 have HZ:=hid hz
 clear hFT
 go_enter Tryz.func178,Tryz.ntmps178
 go_wp2_with fail
 refine HV.out.mono ?_
 rintro e w2 ⟨q,rfl,L2⟩
 obtain ⟨nb,c2,sp2,L3⟩:=rvX_open L2
 have hrm:=droom_calls L3 HM.out HVL.out
 rw [<- hz] at hrm
 have HRM:=hid hrm
 have hXd:Lv S0 w0 (Star (docX r m T) B) w2:=L2.drop
 obtain ⟨g,c,sp,us,hL⟩:=docX_open hXd
 have HX:=hid hXd
 have HC:=hid (doc_cells hL)
 have HRW:=hid (fun i (hi:i < 32)=>doc_row hL hi)
 clear L2 L3 hrm hXd hL HV hz
 go_wp2_with fail
 refine HRM.out.mono ?_
 rintro e w3 ⟨rfl,rfl⟩
 go_wp2_with fail
 have c1:=HC.out.2.1
 go_loopw [4] (fun s4 wr=>∃ i:Nat,i <= 32 /\ s4 = .int .i64 i /\ wr = w2 /\ Hid (∀ j,j < i -> (T j).kind = 2 -> 16 * (1 + (T j).slots.length) <= 2368)) (fun s4 _=>32 - (intOf s4).toNat)
 case atStart=>exact ⟨0,Nat.zero_le _,rfl,rfl,hid fun j h=>absurd h (Nat.not_lt_zero j)⟩
 case round =>
  obtain ⟨i,hi,rfl,hwr,HB⟩:=hrel
  rw [hwr]
  clear hwr
  by_cases hlt:i < 32
  ·have hlt2:(i:Int) < 32:=by omega
   have d0:=(HC.out.2.2 i hlt).1
   have d3:=(HC.out.2.2 i hlt).2.2.2.1
   obtain ⟨ao,cap,hu⟩:=row_any (HRW.out i hlt)
   rw [hu] at d3
   have hlen:=HLEN.out i hlt
   obtain ⟨n,hn⟩:∃ n,n = (T i).slots.length:=⟨_,rfl⟩
   rw [<- hn] at d3 hlen
   obtain ⟨kd,hkd⟩:∃ k:Int,k = (T i).kind:=⟨_,rfl⟩
   rw [<- hkd] at d0
   have w1:IntKind.i64.wrap (1 + (n:Int)) = 1 + (n:Int):=by rw [IntKind.wrap_i64];omega
   have w2':IntKind.i64.wrap (16 * (1 + (n:Int))) = 16 * (1 + (n:Int)):=by rw [IntKind.wrap_i64];omega
   by_cases hk:kd = 2
   ·have t0:(kd == 2) = true:=by simpa using hk
    by_cases hz:2368 < 16 * (1 + n)
    ·have t1:2368 < 16 * (1 + (n:Int)):=by omega
     have hf:=HNO.out i hlt (by omega) (by rw [<- hn];exact hz)
     have HF:=hid hf
     clear hf hz hk hkd hn hlen hu
     go_wp2_with fail
     go_ret
     exact ⟨by rw [HF.out];rfl,HX.out⟩
    ·have t1:¬ 2368 < 16 * (1 + (n:Int)):=by omega
     have HB2:Hid (∀ j,j < i + 1 -> (T j).kind = 2 -> 16 * (1 + (T j).slots.length) <= 2368):=hid fun j hj hkj=>by
      by_cases e:j < i
      ·exact HB.out j e hkj
      ·obtain rfl:j = i:=by omega
       rw [<- hn];omega
     clear hz hk hkd hn hlen hu
     go_wp2_with fail
     go_roundw
     case rel=>exact ⟨i + 1,hlt,by go_num,by first | trivial | rfl,HB2⟩
     case measure=>simp [intOf] <;> omega
   ·have t0:(kd == 2) = false:=by simpa using hk
    have HB2:Hid (∀ j,j < i + 1 -> (T j).kind = 2 -> 16 * (1 + (T j).slots.length) <= 2368):=hid fun j hj hkj=>by
     by_cases e:j < i
     ·exact HB.out j e hkj
     ·obtain rfl:j = i:=by omega
      omega
    clear hk hkd hn hlen hu
    go_wp2_with fail
    go_roundw
    case rel=>exact ⟨i + 1,hlt,by go_num,by first | trivial | rfl,HB2⟩
    case measure=>simp [intOf] <;> omega
  ·obtain rfl:i = 32:=by omega
   have hf:=HIS.out HB.out z HZ.out
   have HF:=hid hf
   clear hf
   go_wp2_with fail
   go_ret
   exact ⟨by rw [<- HF.out];rfl,HX.out⟩
end
end Go.Proofs.YtngalllaiphkhaaGreatDoor
