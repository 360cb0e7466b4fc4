import Derived.Test.YtngalllaiphkhaaGreatDoorYMG
import Derived.Deep.RegionHeld3
namespace Go.Proofs.YtngalllaiphkhaaGreatDoor
open Go.RowKit
open Go.Lib (hid)
set_option maxRecDepth 100000
set_option maxHeartbeats 16000000
def stageTo (l:Stg) (k:Nat):List DAct:=(l.take k).zipIdx.map fun p=>.write (2 + p.2) p.1.2
theorem stageTo_all (l:Stg):stageTo l l.length = stageA l:=by unfold stageTo stageA;rw [List.take_length]
theorem stageTo_succ {l:Stg} {k:Nat} {x:Nat × ByteArray} (h:l[k]? = some x):stageTo l (k + 1) = stageTo l k ++ [.write (2 + k) x.2]:=by
 have hk:k < l.length:=(List.getElem?_eq_some_iff.1 h).1
 unfold stageTo
 rw [List.take_add_one,h]
 simp [List.zipIdx_append,Nat.min_eq_left (Nat.le_of_lt hk)]
def lgM (b d mb:Nat) (stg:Stg) (dead:Bool):Asr:=fun w S=>Blk w b tLog [.pointer (some ⟨d,0,none⟩),.map (some mb),.bool dead] /\ IsMp w mb stg /\ S b /\ S mb
theorem loc_lgm (b d mb:Nat) (stg:Stg) (dead:Bool):Loc (lgM b d mb stg dead):=by
 rintro w w' S T ⟨h1,h2,h3,h4⟩ hf hT
 exact ⟨h1.fr hf (hT _ h3),h2.fr hf (hT _ h4),h3,h4⟩
theorem lv_open {S0:Nat -> Prop} {w0 w:World} {b d:Nat} {stg:Stg} {dead:Bool} {X:Asr} (h:Lv S0 w0 (Star (lgA b d stg dead) X) w):∃ mb,Lv S0 w0 (Star (lgM b d mb stg dead) X) w:=by
 obtain ⟨U,⟨S,T,⟨mb,h1⟩,h2⟩,h3⟩:=h
 exact ⟨mb,U,⟨S,T,h1,h2⟩,h3⟩
theorem lv_shut {S0:Nat -> Prop} {w0 w:World} {b d mb:Nat} {stg:Stg} {dead:Bool} {X:Asr} (h:Lv S0 w0 (Star (lgM b d mb stg dead) X) w):Lv S0 w0 (Star (lgA b d stg dead) X) w :=
 h.map fun _ h=>star_left h fun _ h=>⟨mb,h⟩
section
variable {S0:Nat -> Prop} {w0 w:World} {b d:Nat} {D:DSt} {B:Asr}
theorem stage_split (l:Stg) (j:Nat):∃ t,stageA l = stageTo l j ++ t:=by
 refine ⟨((l.drop j).zipIdx (l.take j).length).map fun p=>.write (2 + p.2) p.1.2,?_⟩
 unfold stageA stageTo
 rw [<- List.map_append,<- Nat.zero_add (l.take j).length,<- List.zipIdx_append,List.take_append_drop]
theorem acts_wait (xs:List DAct) (D:DSt):(D.acts xs).wait.length <= D.wait.length + xs.length:=by
 induction xs generalizing D with
 | nil=>exact Nat.le_refl _
 | cons a xs ih =>
  have h1:(D.act1 a).wait.length <= D.wait.length + 1:=by
   cases a with
   | write i s=>exact (write_keeps D _ _).2
   | flush=>have:=(flush_keeps D).2;show D.flush.wait.length <= _;omega
  show (if D.actE a = 0 then (D.act1 a).acts xs else D.act1 a).wait.length <= _
  rw [List.length_cons]
  split
  ·have:=ih (D.act1 a);omega
  ·omega
theorem stage_wait (D:DSt) (l:Stg) (k:Nat):(D.acts (stageTo l k)).wait.length <= D.wait.length + k:=by
 have h:=acts_wait (stageTo l k) D
 have hl:(stageTo l k).length <= k:=by unfold stageTo;simp;omega
 omega
theorem commits_facts {stg:Stg} {m n c mb:Nat} {E:DSt} {ao:Option Addr} {B1 B2 t1 t2:Nat} {wr:World} {u:Value} (hL:Lv S0 w0 (Star (blkA B2 t2 [u]) (Star (blkA B1 t1 [.pointer (some ⟨b,0,none⟩)]) (Star (lgM b d mb stg false) (Star (dskA kD d E) (Star (rowA tIntE 1 (.slice ao n c) n (nums (keys stg))) B))))) wr)
 {k:Nat} {x:Nat × ByteArray} (hx:stg[k]? = some x) (hg:stg.Good m) (hm:m <= 9223372036854775807) :
 wr.cell? ⟨B1,0,none⟩ = some (.pointer (some ⟨b,0,none⟩)) /\ wr.cell? ⟨b,0,none⟩ = some (.pointer (some ⟨d,0,none⟩)) /\ wr.cell? ⟨b,1,none⟩ = some (.map (some mb)) /\
  (Instr.lookup tMap (.map (some mb)) (.int .i64 (x.1:Int)) false).run Tryz.prog wr = .ok (.string x.2) wr /\ (∃ S,IsDisk wr d S E) /\ ∃ g off,ao = some ⟨g,off,none⟩ /\ wr.cell? ⟨g,off + k,none⟩ = some (.int .i64 (x.1:Int)):=by
 obtain ⟨U1,⟨T1,U2,h2,⟨T2,U3,h3,⟨T3,U4,⟨h4,h5,_⟩,⟨T4,U5,h6,⟨T5,U6,h7,_⟩,_⟩,_⟩,_⟩,_⟩,_⟩:=hL
 have hmem:=List.mem_of_getElem? hx
 have hl:=mp_look h5 x.1 (by have:=hg.lt x hmem;omega)
 rw [at_of_mem hg.ok hmem] at hl
 refine ⟨h3.1.cell rfl,h4.cell (j:=0) rfl,h4.cell (j:=1) rfl,hl,⟨_,h6⟩,?_⟩
 obtain ⟨g,off,e,hc⟩:=(row_srcs h7.1 (nums_one _)).at (j:=k) (u:=.int .i64 (x.1:Int)) (by simp [nums,keys,hx])
 exact ⟨g,off,e,hc⟩
theorem com1_calls {mb B1 B2 g off n c k h:Nat} {s:ByteArray} {wr:World} (q1:wr.cell? ⟨B1,0,none⟩ = some (.pointer (some ⟨b,0,none⟩))) (q2:wr.cell? ⟨B2,0,none⟩ = some (.slice (some ⟨g,off,none⟩) n c)) (q4:wr.cell? ⟨b,1,none⟩ = some (.map (some mb)))
 (cx:wr.cell? ⟨g,off + k,none⟩ = some (.int .i64 (h:Int))) (hk:k < n)
 (q5':∀ m,(Instr.lookup tMap (.map (some mb)) (.int .i64 (h:Int)) false).run Tryz.prog (wr.drewN m) = .ok (.string s) (wr.drewN m)) :
 Calls Tryz.prog 185 #[.int .i64 (k:Int),.pointer (some ⟨B1,0,none⟩),.pointer (some ⟨B2,0,none⟩)] wr fun e w'=>e = .returned (.tuple #[.string s,.int .i64 0]) /\ Fr Nob wr w':=by
 go_enter Tryz.func185,Tryz.ntmps185
 go_wp2_with fail
 go_quiet (fail)
 go_wp2
 go_ret2
 exact ⟨rfl,(Fr.refl _ _).drewN _⟩
theorem seal_facts {stg:Stg} {n c mb:Nat} {E:DSt} {ao:Option Addr} {B1 B2 t1 t2:Nat} {wr:World} (hL:Lv S0 w0 (Star (dskA kD d E) (Star (rowA tIntE 1 (.slice ao n c) n (nums (keys stg))) (Star (blkA B2 t2 [.slice ao n c]) (Star (blkA B1 t1 [.pointer (some ⟨b,0,none⟩)]) (Star (lgM b d mb stg false) B))))) wr) :
 wr.cell? ⟨B1,0,none⟩ = some (.pointer (some ⟨b,0,none⟩)) /\ wr.cell? ⟨B2,0,none⟩ = some (.slice ao n c) /\ wr.cell? ⟨b,0,none⟩ = some (.pointer (some ⟨d,0,none⟩)) /\ wr.cell? ⟨b,1,none⟩ = some (.map (some mb)) /\ IsMp wr mb stg /\
  ∀ (k:Nat) (x:Nat × ByteArray),stg[k]? = some x -> ∃ g off,ao = some ⟨g,off,none⟩ /\ wr.cell? ⟨g,off + k,none⟩ = some (.int .i64 (x.1:Int)):=by
 obtain ⟨U1,⟨T1,U2,_,⟨T2,U3,h3,⟨T3,U4,h4,⟨T4,U5,h5,⟨T5,U6,⟨h6,h7,_⟩,_⟩,_⟩,_⟩,_⟩,_⟩,_⟩:=hL
 refine ⟨h5.1.cell rfl,h4.1.cell rfl,h6.cell (j:=0) rfl,h6.cell (j:=1) rfl,h7,fun k x hx=>?_⟩
 exact (row_srcs h3.1 (nums_one _)).at (j:=k) (u:=.int .i64 (x.1:Int)) (by simp [nums,keys,hx])
theorem commits_calls {stg:Stg} {m:Nat} {v:Value} (hL:Lv S0 w0 (Star (lgA b d stg false) (Star (dskA kD d D) (Star (rowA tIntE 1 v stg.length (nums (keys stg))) B))) w) (hB:Loc B) (hg:stg.Good m) (hm:m <= 512) (hw:(D.wait.length + 70) * 24 <= 140737488355328) :
 Calls Tryz.prog 156 #[.pointer (some ⟨b,0,none⟩),v] w fun e w'=>e = .returned (.int .i64 (D.actsE (commitA stg))) /\ Lv S0 w0 (Star (lgA b d stg false) (Star (dskA kD d (D.acts (commitA stg))) B)) w':=by
 obtain ⟨mb,hL⟩:=lv_open hL
 obtain ⟨T,S1,S2,_,⟨S3,S4,h1,_⟩,_⟩:=hL.second
 obtain ⟨ao,c,rfl⟩:=row_any h1.1
 have HG:=hid hg
 have HW:=hid hw
 have HM:=hid hm
 obtain ⟨n,hn⟩:∃ n,n = stg.length:=⟨_,rfl⟩
 have HN:=hid hn
 have hnl:n <= 30:=by rw [hn];exact hg.len
 rw [<- hn] at hL ⊢
 clear h1 hg hw hm hn
 have hBr:Loc (Star (lgM b d mb stg false) (Star (dskA kD d D) (Star (rowA tIntE 1 (.slice ao n c) n (nums (keys stg))) B))):=loc_star (loc_lgm _ _ _ _ _) (loc_star (loc_dsk _ _ _) (loc_star (loc_row _ _ _ _ _) hB))
 have L1:=(hL.box hBr 92 [.pointer (some ⟨b,0,none⟩)]).box (loc_star (loc_blk _ _ _) hBr) 72 [.slice ao n c]
 rw [World.size_alloc] at L1
 clear hL
 go_enter Tryz.func156,Tryz.ntmps156
 go_wp2_with fail
 go_loopw [11] (fun i wr=>∃ k:Nat,k <= n /\ i = .int .i64 k /\ D.actsE (stageTo stg k) = 0 /\ Lv S0 w0 (Star (blkA (w.heap.size + 1) 72 [.slice ao n c]) (Star (blkA w.heap.size 92 [.pointer (some ⟨b,0,none⟩)]) (Star (lgM b d mb stg false) (Star (dskA kD d (D.acts (stageTo stg k))) (Star (rowA tIntE 1 (.slice ao n c) n (nums (keys stg))) B))))) wr) (fun i _=>n - (intOf i).toNat)
 case atStart=>exact ⟨0,Nat.zero_le _,rfl,rfl,L1⟩
 case round =>
  obtain ⟨k,hk,rfl,hE0,hLk⟩:=hrel
  have HE0:=hid hE0
  clear L1 hE0
  by_cases hlt:k < n
  ·obtain ⟨x,hx⟩:∃ x,stg[k]? = some x:=⟨_,List.getElem?_eq_getElem (by rw [<- HN.out];exact hlt)⟩
   have hLk':=hLk
   obtain ⟨q1,q3,q4,q5,h6,q7⟩:=commits_facts hLk' hx HG.out (by have:=HM.out;omega)
   obtain ⟨ga,off,rfl,cx⟩:=q7
   have hwk:=stage_wait D stg k
   have hx6:x.1 < 512:=by have:=HG.out.lt x (List.mem_of_getElem? hx);have:=HM.out;omega
   have hcast:((2 + k:Nat):Int) = 2 + (k:Int):=by omega
   obtain ⟨e1,e2⟩:=acts_snoc (.write (2 + k) x.2) HE0.out
   rw [<- stageTo_succ hx] at e1 e2
   have e1:D.acts (stageTo stg (k + 1)) = (D.acts (stageTo stg k)).write (2 + (k:Int)) x.2:=by rw [e1,<- hcast];rfl
   have e2:D.actsE (stageTo stg (k + 1)) = (D.acts (stageTo stg k)).writeE (2 + (k:Int)) x.2:=by rw [e2,<- hcast];rfl
   have E1:=hid e1
   have E2:=hid e2
   have HX:=hid hx
   have hBs:Loc (Star (blkA (w.heap.size + 1) 72 [.slice (some ⟨ga,off,none⟩) n c]) (Star (blkA w.heap.size 92 [.pointer (some ⟨b,0,none⟩)]) (Star (lgM b d mb stg false) (Star (dskA kD d (D.acts (stageTo stg k))) (Star (rowA tIntE 1 (.slice (some ⟨ga,off,none⟩) n c) n (nums (keys stg))) B))))):=loc_star (loc_blk _ _ _) (loc_star (loc_blk _ _ _) (loc_star (loc_lgm _ _ _ _ _) (loc_star (loc_dsk _ _ _) (loc_star (loc_row _ _ _ _ _) hB))))
   have L2:=hLk.drew hBs
   obtain ⟨_,_,_,q5',_,_⟩:=commits_facts L2 hx HG.out (by have:=HM.out;omega)
   clear hLk hLk' h6 hx e1 e2 hcast
   have hwr:IntKind.i64.wrap (2 + (k:Int)) = 2 + (k:Int):=by rw [IntKind.wrap_i64];omega
   go_wp2_with fail
   go_region_held3 (fun w'=>w'.cell? ⟨w.heap.size,0,none⟩ = some (.pointer (some ⟨b,0,none⟩)) /\ w'.cell? ⟨b,0,none⟩ = some (.pointer (some ⟨d,0,none⟩)) /\ w'.cell? ⟨b,1,none⟩ = some (.map (some mb)) /\ (Instr.lookup tMap (.map (some mb)) (.int .i64 (x.1:Int)) false).run Tryz.prog w' = .ok (.string x.2) w')
    (first | go_keep | exact ⟨r1,r3,r4,r5⟩)
    (first | (go_at_call 35;refine (L2.op (((((d_write (2 + (k:Int)) x.2 (by have:=HW.out;omega)).left (loc_star (loc_row _ _ _ _ _) hB)).right (loc_lgm _ _ _ _ _)).right (loc_blk _ _ _)).right (loc_blk _ _ _))).mono ?_;rintro e w8 ⟨rfl,L8⟩;obtain ⟨r1,r3,r4,r5,_,_⟩:=commits_facts L8 HX.out HG.out (by have:=HM.out;omega)))
   clear L2 q1 q3 q4 q5 q5' r1 r3 r4 r5
   by_cases hE:(D.acts (stageTo stg k)).writeE (2 + (k:Int)) x.2 = 0
   ·have hE':((D.acts (stageTo stg k)).writeE (2 + (k:Int)) x.2 == 0) = true:=by rw [beq_iff_eq];exact hE
    have HEE:=hid hE
    clear hE
    go_wp2_with fail
    go_roundw
    case rel=>exact ⟨k + 1,hlt,by go_num,E2.out.trans HEE.out,by rw [E1.out];exact L8⟩
    case measure=>simp [intOf];omega
   ·have hE':((D.acts (stageTo stg k)).writeE (2 + (k:Int)) x.2 == 0) = false:=by rw [beq_eq_false_iff_ne];exact hE
    obtain ⟨t,ht⟩:=stage_split stg (k + 1)
    have hstop:=acts_stop (D:=D) (l:=stageTo stg (k + 1)) (k:=t ++ (sealA (stg.map (·.1)) ++ installA stg)) (by rw [E2.out];exact hE)
    have hall:stageTo stg (k + 1) ++ (t ++ (sealA (stg.map (·.1)) ++ installA stg)) = commitA stg:=by
     unfold commitA
     rw [ht,List.append_assoc]
    rw [hall] at hstop
    have HS:=hid hstop
    clear hE hstop hall ht
    go_wp2_with fail
    go_ret
    refine ⟨(by rw [HS.out.2,E2.out];try rfl),?_⟩
    rw [HS.out.1,E1.out]
    exact lv_shut (L8.drop.drop.map fun U h=>star_right h fun _ h=>star_less h)
  ·obtain rfl:k = n:=by omega
   rw [show stageTo stg k = stageA stg by rw [HN.out];exact stageTo_all stg] at HE0 hLk
   have hwk:=stage_wait D stg k
   rw [show stageTo stg k = stageA stg by rw [HN.out];exact stageTo_all stg] at hwk
   have hBx:Loc (Star (blkA (w.heap.size + 1) 72 [.slice ao k c]) (Star (blkA w.heap.size 92 [.pointer (some ⟨b,0,none⟩)]) (Star (lgM b d mb stg false) B))):=loc_star (loc_blk _ _ _) (loc_star (loc_blk _ _ _) (loc_star (loc_lgm _ _ _ _ _) hB))
   have L2:Lv S0 w0 (Star (dskA kD d (D.acts (stageA stg))) (Star (rowA tIntE 1 (.slice ao k c) k (nums (keys stg))) (Star (blkA (w.heap.size + 1) 72 [.slice ao k c]) (Star (blkA w.heap.size 92 [.pointer (some ⟨b,0,none⟩)]) (Star (lgM b d mb stg false) B))))) wr:=hLk.map (fun U h =>
    star_right (star_right (star_right (star_flip (star_right (star_right h fun _ h=>star_right h fun _ h=>star_flip h) fun _ h=>star_flip h)) fun _ h=>star_right h fun _ h=>star_right h fun _ h=>star_flip h) fun _ h=>star_right h fun _ h=>star_flip h) fun _ h=>star_flip h)
   obtain ⟨q1,q2,q3,q4,_,_⟩:=seal_facts L2
   have L3:=L2.drew (loc_star (loc_dsk _ _ _) (loc_star (loc_row _ _ _ _ _) hBx))
   have hkl:(keys stg).length = k:=by unfold keys;rw [List.length_map];exact HN.out.symm
   clear hLk L2
   go_wp2_with fail
   go_region_held3 (fun w'=>w'.cell? ⟨w.heap.size,0,none⟩ = some (.pointer (some ⟨b,0,none⟩)) /\ w'.cell? ⟨w.heap.size + 1,0,none⟩ = some (.slice ao k c) /\ w'.cell? ⟨b,0,none⟩ = some (.pointer (some ⟨d,0,none⟩)))
    (first | go_keep | exact ⟨r1,r2,r3⟩)
    (first | (go_at_call 171;refine (sealed_calls (l:=keys stg) (by rw [hkl];exact L3) hBx (by rw [hkl];exact hnl) (by intro h hh;obtain ⟨y,hy,rfl⟩:=List.mem_map.1 hh;have:=HG.out.lt y hy;have:=HM.out;omega) (by have:=HW.out;omega)).mono ?_;rintro e w8 ⟨rfl,L8⟩;rw [hkl] at L8;obtain ⟨r1,r2,r3,r4,_,_⟩:=seal_facts L8))
   clear L3 q1 q2 q3 q4
   have hstay:D.acts (commitA stg) = (if (D.acts (stageA stg)).actsE (sealA (keys stg)) = 0 then ((D.acts (stageA stg)).acts (sealA (keys stg))).acts (installA stg) else (D.acts (stageA stg)).acts (sealA (keys stg))) /\
    D.actsE (commitA stg) = (if (D.acts (stageA stg)).actsE (sealA (keys stg)) = 0 then ((D.acts (stageA stg)).acts (sealA (keys stg))).actsE (installA stg) else (D.acts (stageA stg)).actsE (sealA (keys stg))):=by
    have h1:D.acts (commitA stg) = (D.acts (stageA stg)).acts (sealA (keys stg) ++ installA stg):=by
     unfold commitA;rw [DSt.acts_append,if_pos HE0.out];rfl
    have h2:D.actsE (commitA stg) = (D.acts (stageA stg)).actsE (sealA (keys stg) ++ installA stg):=by
     unfold commitA;rw [DSt.actsE_append,if_pos HE0.out];rfl
    rw [h1,h2,DSt.acts_append,DSt.actsE_append]
    exact ⟨rfl,rfl⟩
   have HS:=hid hstay
   clear hstay
   have shut:∀ (E:DSt) (wr:World),Lv S0 w0 (Star (dskA kD d E) (Star (rowA tIntE 1 (.slice ao k c) k (nums (keys stg))) (Star (blkA (w.heap.size + 1) 72 [.slice ao k c]) (Star (blkA w.heap.size 92 [.pointer (some ⟨b,0,none⟩)]) (Star (lgM b d mb stg false) B))))) wr ->
    Lv S0 w0 (Star (lgA b d stg false) (Star (dskA kD d E) B)) wr:=fun E wr h=>lv_shut (h.map fun U h=>star_flip (star_less (star_less (star_less h))))
   have SHUT:=hid shut
   clear shut
   by_cases hE:(D.acts (stageA stg)).actsE (sealA (keys stg)) = 0
   ·have hE':((D.acts (stageA stg)).actsE (sealA (keys stg)) == 0) = true:=by rw [beq_iff_eq];exact hE
    rw [if_pos hE,if_pos hE] at HS
    clear hE
    have L9:=L8.drew (loc_star (loc_dsk _ _ _) (loc_star (loc_row _ _ _ _ _) hBx))
    have hwk2:=acts_wait (sealA (keys stg)) (D.acts (stageA stg))
    have hs3:(sealA (keys stg)).length = 3:=rfl
    have hkn:k = stg.length:=HN.out
    have hin:=fun (wr:World) (hLr:Lv S0 w0 (Star (dskA kD d ((D.acts (stageA stg)).acts (sealA (keys stg)))) (Star (rowA tIntE 1 (.slice ao k c) k (nums (keys stg))) (Star (blkA (w.heap.size + 1) 72 [.slice ao k c]) (Star (blkA w.heap.size 92 [.pointer (some ⟨b,0,none⟩)]) (Star (lgM b d mb stg false) B))))) wr) =>
     install_calls (l:=stg) (v:=.slice ao k c) (g:=185) (caps:=#[.pointer (some ⟨w.heap.size,0,none⟩),.pointer (some ⟨w.heap.size + 1,0,none⟩)]) (enters_of Tryz.func185 (by kernel_rfl) rfl) (by rw [<- hkn];exact hLr) hBx HG.out.len
      (fun x hx=>by have:=HG.out.lt x hx;have:=HM.out;omega) (by have:=HW.out;omega) (by
       intro k' x wr' hx _ hLr'
       rw [<- hkn] at hLr'
       obtain ⟨q1,q2,_,q4,hmp,hrow⟩:=seal_facts hLr'
       obtain ⟨g,off,hao,cx⟩:=hrow k' x hx
       rw [hao] at q2
       have hmem:=List.mem_of_getElem? hx
       have hx6:=HG.out.lt x hmem
       have hlk:∀ m,(Instr.lookup tMap (.map (some mb)) (.int .i64 (x.1:Int)) false).run Tryz.prog (wr'.drewN m) = .ok (.string x.2) (wr'.drewN m):=fun m=>by
        have:=mp_look (hmp.fr ((Fr.refl Nob wr').drewN m) (fun h=>h)) x.1 (by have:=HM.out;omega)
        rwa [at_of_mem HG.out.ok hmem] at this
       exact com1_calls q1 q2 q4 cx (by rw [hkn];exact (List.getElem?_eq_some_iff.1 hx).1) hlk)
    have hcall:=hin _ L9
    rw [<- hkn] at hcall
    have HC:=hid hcall
    clear hin hcall L8 hkn
    go_wp2_with fail
    go_region_held3 (fun w'=>w'.cell? ⟨w.heap.size,0,none⟩ = some (.pointer (some ⟨b,0,none⟩)) /\ w'.cell? ⟨w.heap.size + 1,0,none⟩ = some (.slice ao k c) /\ w'.cell? ⟨b,0,none⟩ = some (.pointer (some ⟨d,0,none⟩)))
     (first | go_keep | exact ⟨s1,s2,s3⟩)
     (first | (go_at_call 122;refine HC.out.mono ?_;rintro e w10 ⟨rfl,L10⟩;obtain ⟨s1,s2,s3,s4,_,_⟩:=seal_facts L10))
    go_wp2_with fail
    go_ret
    exact ⟨(by rw [HS.out.2];try rfl),by rw [HS.out.1];exact SHUT.out _ _ L10⟩
   ·have hE':((D.acts (stageA stg)).actsE (sealA (keys stg)) == 0) = false:=by rw [beq_eq_false_iff_ne];exact hE
    rw [if_neg hE,if_neg hE] at HS
    clear hE
    go_wp2_with fail
    go_ret
    exact ⟨(by rw [HS.out.2];try rfl),by rw [HS.out.1];exact SHUT.out _ _ L8⟩
end
theorem turn_dead (b d mb:Nat) (stg:Stg) (dv:Bool) (w:World):Turn w (w.setCell ⟨b,2,none⟩ (.bool dv)) (lgM b d mb stg false) (lgM b d mb stg dv):=by
 rintro S ⟨h1,h2,h3,h4⟩
 have hne:b ≠ mb:=by
  intro e
  obtain ⟨es,clock,hb,_⟩:=h2
  rw [<- e,h1] at hb
  cases hb
 exact ⟨⟨h1.set 2 _,h2.fr (Fr.setCell (S:=(· = b)) rfl w 2 _) (fun h=>hne h.symm),.inl h3,.inl h4⟩,Fr.setCell h3 w 2 _⟩
theorem turn_clear {b d mb:Nat} {stg:Stg} {dv:Bool} {w w':World} (h:IsMp w' mb []) (hf:Fr (· = mb) w w'):Turn w w' (lgM b d mb stg dv) (lgM b d mb [] dv):=by
 rintro S ⟨h1,h2,h3,h4⟩
 have hne:b ≠ mb:=by
  intro e
  obtain ⟨es,clock,hb,_⟩:=h2
  rw [<- e,h1] at hb
  cases hb
 exact ⟨⟨h1.fr hf hne,h,.inl h3,.inl h4⟩,hf.mono fun k hk=>by subst hk;exact h4⟩
section
variable {S0:Nat -> Prop} {w0 w:World} {b d:Nat} {B:Asr}
theorem commit_lives {L:LSt} {m:Nat} (hL:Lv S0 w0 (Star (lgA b d L.stg L.dead) (Star (dskA kD d L.D) B)) w) (hB:Loc B) (hg:L.stg.Good m) (hm:m <= 512) (hw:(L.D.wait.length + 70) * 24 <= 140737488355328) :
 Calls Tryz.prog 105 #[.pointer (some ⟨b,0,none⟩)] w fun e w'=>e = .returned (.int .i64 L.commitE) /\ Lv S0 w0 (Star (lgA b d L.commit.stg L.commit.dead) (Star (dskA kD d L.commit.D) B)) w':=by
 obtain ⟨D,stg,dead⟩:=L
 simp only at hL hg hw
 obtain ⟨mb,hM⟩:=lv_open hL
 obtain ⟨S,h1,h2,h3,h4⟩:=hM.first
 have c1:=h1.cell (j:=1) rfl
 have c2:=h1.cell (j:=2) rfl
 have hlen:=mp_len h2 3
 have H2:=hid h2
 cases dead with
 | true =>
  have e1:(LSt.mk D stg true).commitE = 7:=rfl
  have e2:(LSt.mk D stg true).commit = LSt.mk D stg true:=rfl
  rw [e1,e2]
  have H:=hid hL
  clear hL hM h1 h2 hg hw hlen
  go_enter Tryz.func105,Tryz.ntmps105
  go_wp2
  go_ret
  exact ⟨rfl,H.out⟩
 | false =>
  by_cases hs:stg = []
  ·subst hs
   have e1:(LSt.mk D [] false).commitE = 0:=rfl
   have e2:(LSt.mk D [] false).commit = LSt.mk D [] false:=rfl
   rw [e1,e2]
   have H:=hid hL
   clear hL hM h1 h2 hg hw
   go_enter Tryz.func105,Tryz.ntmps105
   go_wp2
   go_ret
   exact ⟨rfl,H.out⟩
  ·have e1:(LSt.mk D stg false).commitE = D.actsE (commitA stg):=by
    unfold LSt.commitE
    rw [if_neg (by simp),if_neg hs]
   have e2:(LSt.mk D stg false).commit = if D.actsE (commitA stg) = 0 then ⟨D.acts (commitA stg),[],false⟩ else ⟨D.acts (commitA stg),stg,true⟩:=by
    unfold LSt.commit
    rw [if_neg (by simp),if_neg hs]
   rw [e1,e2]
   have hpos:0 < stg.length:=List.length_pos_iff.2 hs
   have hl0:((stg.length:Int) == 0) = false:=by rw [beq_eq_false_iff_ne];omega
   have hBl:Loc (Star (lgA b d stg false) (Star (dskA kD d D) B)):=loc_star (loc_lg _ _ _ _) (loc_star (loc_dsk _ _ _) hB)
   have HG:=hid hg
   have HL:=hid hL
   have HW:=hid hw
   clear hL hM h1 h2 hg hw e1 e2 hs
   go_enter Tryz.func105,Tryz.ntmps105
   go_wp2_with fail
   refine (mkeys_calls _ _).mono ?_
   rintro e w1 ⟨rfl,rfl⟩
   go_wp2_with fail
   refine (sorted_calls H2.out HG.out.ok HG.out.len).mono ?_
   rintro e w2 ⟨v,rfl,hrow,hlt,hf⟩
   have hf':Fr Nob w w2:=(Fr.refl Nob w).alloc _ |>.trans hf
   have L2:=HL.out.new (B:=rowA tIntE 1 v stg.length (nums (keys stg))) hBl hf' ⟨hrow,fun k hk=>.inr ⟨hlt k hk,(hrow.lt k hk).2⟩⟩
   have L3:=L2.map (B:=Star (lgA b d stg false) (Star (dskA kD d D) (Star (rowA tIntE 1 v stg.length (nums (keys stg))) B))) fun U h=>star_right (star_flip h) fun _ h=>star_flip h
   clear HL L2 hf hf' hrow hlt
   go_wp2_with fail
   refine (commits_calls L3 hB HG.out hm HW.out).mono ?_
   rintro e w3 ⟨rfl,L4⟩
   clear c1 c2 hlen
   obtain ⟨mc,L5⟩:=lv_open L4
   obtain ⟨S',g1,g2,g3,g4⟩:=L5.first
   have c1:=g1.cell (j:=1) rfl
   have c2:=g1.cell (j:=2) rfl
   have z2:=g1.free 2
   have hBl':Loc (Star (dskA kD d (D.acts (commitA stg))) B):=loc_star (loc_dsk _ _ _) hB
   by_cases hE:D.actsE (commitA stg) = 0
   ·have hE':(D.actsE (commitA stg) == 0) = true:=by rw [beq_iff_eq];exact hE
    obtain ⟨w5,hc,k2,hf2⟩:=mp_clear g2 0
    have L6:=lv_shut (L5.turn hBl' (turn_clear k2 hf2))
    have HE:=hid hE
    have H6:=hid L6
    clear hE L6 L5 L4 L3 g1 g2 k2 hf2
    go_wp2_with fail
    go_ret
    refine ⟨by first | rfl | (rw [HE.out];rfl),?_⟩
    first | exact H6.out | (rw [if_pos HE.out];exact H6.out)
   ·have hE':(D.actsE (commitA stg) == 0) = false:=by rw [beq_eq_false_iff_ne];exact hE
    have L6:=lv_shut (L5.turn hBl' (turn_dead b d mc stg true _))
    have H6:=hid L6
    have HE:=hid hE
    clear hE L6 L5 L4 L3 g1 g2
    go_wp2_with fail
    go_ret
    exact ⟨rfl,by first | exact H6.out | (rw [if_neg HE.out];exact H6.out)⟩
end
abbrev LV (S0:Nat -> Prop) (w0:World) (b d:Nat) (L:LSt) (B:Asr) (w:World):Prop:=Lv S0 w0 (Star (lgA b d L.stg L.dead) (Star (dskA kD d L.D) B)) w
def LSt.Ok (L:LSt):Prop:=L.stg.Good (L.D.safe.length - 32)
theorem turn_map {b d mb:Nat} {stg stg':Stg} {dv:Bool} {w w':World} (h:IsMp w' mb stg') (hf:Fr (· = mb) w w'):Turn w w' (lgM b d mb stg dv) (lgM b d mb stg' dv):=by
 rintro S ⟨h1,h2,h3,h4⟩
 have hne:b ≠ mb:=by
  intro e
  obtain ⟨es,clock,hb,_⟩:=h2
  rw [<- e,h1] at hb
  cases hb
 exact ⟨⟨h1.fr hf hne,h,.inl h3,.inl h4⟩,hf.mono fun k hk=>by subst hk;exact h4⟩
theorem put_len {l:Stg} (ho:l.Ok) (i:Nat) (s:ByteArray):(l.put i s).length = if l.at i = none then l.length + 1 else l.length:=by
 induction l with
 | nil=>rfl
 | cons y l ih =>
  have ho':Stg.Ok l:=(List.pairwise_cons.1 ho).2
  have hy:=(List.pairwise_cons.1 ho).1
  unfold Stg.put
  by_cases h1:i < y.1
  ·have:Stg.at (y :: l) i = none:=at_none fun x hx=>by
    rcases List.mem_cons.1 hx with rfl | hx
    ·omega
    ·have:=hy x hx;omega
   rw [if_pos h1,this,if_pos rfl];rfl
  ·rw [if_neg h1]
   by_cases h2:i = y.1
   ·have:Stg.at (y :: l) i = some y.2:=by unfold Stg.at;simp [h2]
    rw [if_pos h2,this,if_neg (by simp)];rfl
   ·have:Stg.at (y :: l) i = Stg.at l i:=by
     unfold Stg.at
     rw [List.find?_cons,show (y.1 == i) = false from beq_eq_false_iff_ne.2 (by omega)]
    rw [if_neg h2,this]
    show (Stg.put l i s).length + 1 = _
    rw [ih ho']
    split <;> rfl
theorem may_zero {L:LSt} {i:Int} (h:L.mayE i = 0):L.dead = false /\ 0 <= i /\ i < (L.D.safe.length:Int) - 32:=by
 unfold LSt.mayE at h
 split at h
 ·cases h
 ·split at h
  ·cases h
  ·rename_i h1 h2
   refine ⟨by simpa using h1,by omega,by omega⟩
theorem setE_zero {L:LSt} {i:Int} {s:ByteArray} (h:L.setE i s = 0):L.mayE i = 0 /\ s.size = 64 /\ ¬ (L.stg.at i.toNat = none /\ L.stg.length = 30):=by
 unfold LSt.setE at h
 split at h
 ·exact absurd h (by assumption)
 ·split at h
  ·cases h
  ·split at h
   ·cases h
   ·rename_i h1 h2 h3
    exact ⟨by simpa using h1,by simpa using h2,h3⟩
theorem set_D (L:LSt) (i:Int) (s:ByteArray):(L.set i s).D = L.D /\ (L.set i s).dead = L.dead:=by
 unfold LSt.set
 split <;> exact ⟨rfl,rfl⟩
theorem put_good {m:Nat} {l:Stg} (hg:l.Good m) {i:Nat} {s:ByteArray} (hi:i < m) (hs:s.size = 64) (hf:¬ (l.at i = none /\ l.length = 30)):(l.put i s).Good m where
 ok:=put_ok hg.ok i s
 len:=by
  have:=hg.len
  rw [put_len hg.ok]
  split
  ·rename_i h
   have:l.length ≠ 30:=fun e=>hf ⟨h,e⟩
   omega
  ·omega
 lt x hx:=by
  rcases put_mem hx with rfl | h
  ·exact hi
  ·exact hg.lt x h
 size x hx:=by
  rcases put_mem hx with rfl | h
  ·exact hs
  ·exact hg.size x h
theorem set_good {L:LSt} (h:L.Ok) (i:Int) (s:ByteArray):(L.set i s).Ok:=by
 have hD:=(set_D L i s).1
 unfold LSt.Ok
 rw [hD]
 unfold LSt.set
 split
 ·exact h
 ·rename_i h0
  have h0:L.setE i s = 0:=by simpa using h0
  obtain ⟨h1,h2,h3⟩:=setE_zero h0
  obtain ⟨_,h4,h5⟩:=may_zero h1
  exact put_good h (by omega) h2 h3
theorem good_nil (m:Nat):Stg.Good m []:=⟨List.Pairwise.nil,by simp,fun _ h=>(by cases h),fun _ h=>(by cases h)⟩
section
variable {S0:Nat -> Prop} {w0 w:World} {b d:Nat} {L:LSt} {D:DSt} {B:Asr}
theorem LV.loc (hB:Loc B):Loc (Star (lgA b d L.stg L.dead) (Star (dskA kD d L.D) B)):=loc_star (loc_lg _ _ _ _) (loc_star (loc_dsk _ _ _) hB)
theorem LV.parts (hL:LV S0 w0 b d L B w):∃ mb S,Blk w b tLog [.pointer (some ⟨d,0,none⟩),.map (some mb),.bool L.dead] /\ IsMp w mb L.stg /\ IsDisk w d S L.D /\ L.D.Ok:=by
 obtain ⟨U,⟨S,T,⟨mb,h1,h2,_⟩,⟨S',T',h3,_⟩,_⟩,_⟩:=hL
 exact ⟨mb,S',h1,h2,h3,by obtain ⟨_,_,_,_,h⟩:=h3;exact h.ok⟩
theorem lv_get (hL:LV S0 w0 b d L B w) (hB:Loc B) (hw:L.D.wait.length * 24 <= 140737488355328) (i:Int) :
 Calls Tryz.prog 82 #[.pointer (some ⟨b,0,none⟩),.int .i64 i] w fun e w'=>e = .returned (.tuple #[.string (L.getS i),.int .i64 (L.getE i)]) /\ LV S0 w0 b d L B w':=by
 obtain ⟨mb,S,h1,h2,h3,_⟩:=hL.parts
 exact hL.calls (LV.loc hB) (lget_calls h1 h2 h3 hw i)
theorem lv_staged (hL:LV S0 w0 b d L B w) :
 Calls Tryz.prog 136 #[.pointer (some ⟨b,0,none⟩)] w fun e w'=>e = .returned (.int .i64 L.count) /\ w = w':=by
 obtain ⟨mb,S,h1,h2,_,_⟩:=hL.parts
 exact lstaged_calls h1 h2
theorem lv_home (hL:LV S0 w0 b d L B w) :
 Calls Tryz.prog 124 #[.pointer (some ⟨b,0,none⟩)] w fun e w'=>e = .returned (.int .i64 ((L.D.safe.length:Int) - 32)) /\ w = w':=by
 obtain ⟨mb,S,h1,_,h3,_⟩:=hL.parts
 exact lhome_calls h1 h3
theorem lv_set (hL:LV S0 w0 b d L B w) (hB:Loc B) (hk:L.Ok) (i:Int) (s:ByteArray) :
 Calls Tryz.prog 98 #[.pointer (some ⟨b,0,none⟩),.int .i64 i,.string s] w fun e w'=>e = .returned (.int .i64 (L.setE i s)) /\ LV S0 w0 b d (L.set i s) B w':=by
 obtain ⟨mb,hM⟩:=lv_open hL
 have hM':=hM
 obtain ⟨U,⟨S,T,⟨h1,h2,_⟩,⟨S',T',h3,_⟩,_⟩,_⟩:=hM
 refine (lset_calls h1 h2 h3 hk.ok hk.len i s).mono ?_
 rintro e w1 ⟨he,hm,hf⟩
 refine ⟨he,?_⟩
 have:=lv_shut (hM'.turn (loc_star (loc_dsk _ _ _) hB) (turn_map hm hf))
 obtain ⟨e1,e2⟩:=set_D L i s
 unfold LV
 rw [e1,e2]
 exact this
theorem lv_abort (hL:LV S0 w0 b d L B w) (hB:Loc B) :
 Calls Tryz.prog 104 #[.pointer (some ⟨b,0,none⟩)] w fun e w'=>e = .returned (.tuple #[]) /\ LV S0 w0 b d L.abort B w':=by
 obtain ⟨mb,hM⟩:=lv_open hL
 have hM':=hM
 obtain ⟨U,⟨S,T,⟨h1,h2,_⟩,_⟩,_⟩:=hM
 refine (labort_calls h1 h2).mono ?_
 rintro e w1 ⟨he,hm,hf⟩
 exact ⟨he,lv_shut (hM'.turn (loc_star (loc_dsk _ _ _) hB) (turn_map hm hf))⟩
theorem lv_commit (hL:LV S0 w0 b d L B w) (hB:Loc B) (hk:L.Ok) (hw:(L.D.wait.length + 70) * 24 <= 140737488355328) :
 Calls Tryz.prog 105 #[.pointer (some ⟨b,0,none⟩)] w fun e w'=>e = .returned (.int .i64 L.commitE) /\ LV S0 w0 b d L.commit B w':=by
 obtain ⟨_,_,_,_,_,hok⟩:=hL.parts
 exact commit_lives hL hB hk (by have:=hok.len;omega) hw
theorem lv_opens (hL:Lv S0 w0 (Star (dskA kD d D) B) w) (hB:Loc B) (hE:D.openE = 0) (hw:(D.wait.length + 31) * 24 <= 140737488355328) :
 Calls Tryz.prog 63 #[.pointer (some ⟨d,0,none⟩)] w fun e w'=>∃ b,e = .returned (.tuple #[.pointer (some ⟨b,0,none⟩),.int .i64 0]) /\ LV S0 w0 b d ⟨D.opened,[],false⟩ B w':=by
 refine (open_calls hL hB hw).mono ?_
 rintro e w1 (⟨h,_⟩ | ⟨_,b,he,h⟩)
 ·exact absurd hE h
 ·exact ⟨b,he,h.map fun _ h=>star_flip h⟩
theorem LV.gone (hL:LV S0 w0 b d L B w):Lv S0 w0 (Star (dskA kD d L.D) B) w:=Lv.drop hL
end
end Go.Proofs.YtngalllaiphkhaaGreatDoor
