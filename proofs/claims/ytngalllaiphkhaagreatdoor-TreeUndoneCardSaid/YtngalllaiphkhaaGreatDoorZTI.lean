import Derived.Test.YtngalllaiphkhaaGreatDoorZTF
import Derived.Test.YtngalllaiphkhaaGreatDoorZTtY
import Derived.Test.YtngalllaiphkhaaGreatDoorZTG
namespace Go.Proofs.YtngalllaiphkhaaGreatDoor
open Go.RowKit
open Go.Lib (hid)
set_option maxRecDepth 100000
set_option maxHeartbeats 16000000
set_option linter.unusedVariables false
set_option linter.unusedSimpArgs false
section
variable {S0:Nat -> Prop} {w0 w w':World} {t v b d m c:Nat} {p:Int} {A A0:Nat -> Node} {T:Tr} {B R R':Asr}
theorem Done.live {r:Int × Tr} {e:Ending} (h:Done (-1) S0 w0 t v b d m T r B e w'):e = .returned (.int .i64 r.1) /\ TV (-1) S0 w0 t v b d m r.2 B w':=by
 rcases h with ⟨h1,p',h2,h3⟩ | ⟨h1,_⟩
 ·obtain rfl:=h2 rfl
  exact ⟨h1,h3⟩
 ·exact absurd rfl h1
theorem Made.live {mn:Nat} {r:Int × Tr} {e:Ending} (h:Made (-1) S0 w0 t v b d m T mn r B e w'):e = .returned (.tuple #[.int .i64 mn,.int .i64 r.1]) /\ TV (-1) S0 w0 t v b d m r.2 B w':=by
 rcases h with ⟨h1,p',h2,h3⟩ | ⟨h1,_⟩
 ·obtain rfl:=h2 rfl
  exact ⟨h1,h3⟩
 ·exact absurd rfl h1
theorem tshown_calls (w:World):Calls Tryz.prog 11 #[] w fun e w'=>e = .returned (.bool true) /\ Fr Nob w w':=by
 have LS:Lv Nob w Emp w:=(Live.start w).lv
 have HH:=hid (lfresh_calls loc_emp LS 100)
 have h68:freshN 100 - 32 = 68:=rfl
 rw [h68] at HH
 clear LS h68
 go_enter Tryz.func11,Tryz.ntmps11
 go_wp2_with fail
 refine HH.out.mono ?_
 rintro e w1 ⟨d,t,b,v,r,rfl,V1⟩
 have hB:Loc (Star (docX r 68 freshT) Emp):=loc_star (loc_docX _ _ _) loc_emp
 have HB:=hid hB
 have h:=(tMake_calls V1 hB fresh_inv 0 2 ⟨#[47,97]⟩).mono fun e w' h=>h.live
 rw [ex_make1.1,ex_make1.2] at h
 have HC:=hid h
 clear V1 hB HH h
 go_wp2_with fail
 refine HC.out.mono ?_
 rintro e w2 ⟨rfl,V1⟩
 have h:=(tMake_calls V1 HB.out ex_inv.1 1 1 ⟨#[98]⟩).mono fun e w' h=>h.live
 rw [ex_make2.1,ex_make2.2] at h
 have HC2:=hid h
 clear V1 HC h
 go_wp2_with fail
 refine HC2.out.mono ?_
 rintro e w3 ⟨rfl,V1⟩
 have h:=tFind_calls V1 HB.out ex_inv.2.1 0 ⟨#[97,47,46,46,47,97,47,46,47,98]⟩
 rw [ex_find] at h
 have HC3:=hid h
 clear V1 HC2 h
 go_wp2_with fail
 refine HC3.out.mono ?_
 rintro e w4 ⟨rfl,V1⟩
 have h:=(tLink_calls V1 HB.out ex_inv.2.1 0 ⟨#[97,47,98]⟩ ⟨#[99]⟩).mono fun e w' h=>h.live
 rw [ex_link] at h
 have HC4:=hid h
 clear V1 HC3 h
 go_wp2_with fail
 refine HC4.out.mono ?_
 rintro e w5 ⟨rfl,V1⟩
 have h:=tlist_calls V1 HB.out ex_inv.2.2 0
 rw [ex_list.1,ex_list.2] at h
 have HC5:=hid h
 clear V1 HC4 h
 go_wp2_with fail
 refine HC5.out.mono ?_
 rintro e w6 ⟨u,rfl,V1⟩
 have hl1:Loc (Star (rowA tStrT 1 u 2 (strsT [⟨#[97]⟩,⟨#[99]⟩])) (Star (docX r 68 freshT) Emp)):=loc_star (loc_row _ _ _ _ _) HB.out
 have HL1:=hid hl1
 have h:=(tUnlink_calls V1 hl1 ex_inv.2.2 0 ⟨#[97]⟩).mono fun e w' h=>h.live
 rw [ex_busy] at h
 have HC6:=hid h
 clear V1 HC5 h hl1
 go_wp2_with fail
 refine HC6.out.mono ?_
 rintro e w7 ⟨rfl,V1⟩
 have h:=(tUnlink_calls V1 HL1.out ex_inv.2.2 0 ⟨#[47,97,47,46,46]⟩).mono fun e w' h=>h.live
 rw [ex_dots] at h
 have HC7:=hid h
 clear V1 HC6 h
 go_wp2_with fail
 refine HC7.out.mono ?_
 rintro e w8 ⟨rfl,V1⟩
 have hr:w8.ownsRow 0 tStrT 1 u 2 (strsT [⟨#[97]⟩,⟨#[99]⟩]):=by
  obtain ⟨Z,_,h2,_⟩:=VT.out (VT.flip V1) (loc_star (loc_blk _ _ _) HB.out)
  obtain ⟨S,hS⟩:=h2.first
  exact hS.1
 obtain ⟨g,cap,rfl⟩:=row_succ hr
 have c0:w8.cell? ⟨g,0,none⟩ = some (.string ⟨#[97]⟩):=hr.cells (g:=g) rfl 0 _ rfl
 have c1:w8.cell? ⟨g,1,none⟩ = some (.string ⟨#[99]⟩):=hr.cells (g:=g) rfl 1 _ rfl
 have HFR:=hid V1.fr
 clear V1 HC7 hr HL1 HB
 go_wp2_with fail
 go_ret
 exact ⟨rfl,HFR.out⟩
end
theorem index_byte {s:ByteArray} {i:Nat} (hi:i < s.size) (W:World):(Instr.index 9 (.string s) (.int .i64 i)).run Tryz.prog W = .ok (.int .u8 (byteAt s i:Int)) W:=by
 rw [byteAt_get hi];exact run_index_at (by rfl) hi
theorem all_bytes {s:ByteArray} (h:∀ j,j < s.size -> byteAt s j ≠ 47 /\ byteAt s j ≠ 0):cleanT s = true:=by
 unfold cleanT
 rw [List.all_eq_true]
 intro b hb
 obtain ⟨i,hi,rfl⟩:=List.mem_iff_getElem.1 hb
 have hs:i < s.size:=by rw [<- bytes_len];exact hi
 have h0:byteAt s i = (s.data.toList[i]).toNat:=by unfold byteAt;rw [List.getD,List.getElem?_eq_getElem hi];rfl
 obtain ⟨h1,h2⟩:=h i hs
 rw [h0] at h1 h2
 rw [Bool.and_eq_true,bne_iff_ne,bne_iff_ne]
 exact ⟨fun e=>h1 (by rw [e];rfl),fun e=>h2 (by rw [e];rfl)⟩
theorem not_clean {s:ByteArray} {i:Nat} (hi:i < s.size) (h:byteAt s i = 47 \/ byteAt s i = 0):cleanT s = false:=by
 have hi':i < s.data.toList.length:=by rw [bytes_len];exact hi
 have h0:byteAt s i = (s.data.toList[i]).toNat:=by unfold byteAt;rw [List.getD,List.getElem?_eq_getElem hi'];rfl
 unfold cleanT
 rw [List.all_eq_false]
 refine ⟨s.data.toList[i],List.getElem_mem hi',?_⟩
 rw [h0] at h
 rw [Bool.and_eq_true,bne_iff_ne,bne_iff_ne]
 rintro ⟨h1,h2⟩
 rcases h with h | h
 ·exact h1 (UInt8.toNat_inj.1 h)
 ·exact h2 (UInt8.toNat_inj.1 h)
theorem dnamed_calls (s:ByteArray) (w:World):Calls Tryz.prog 21 #[.string s] w fun e w'=>e = .returned (.bool (namedT s)) /\ w = w':=by
 have hres:namedT s = (decide (1 <= s.size) && decide (s.size <= 14) && cleanT s && decide (s ≠ dot1) && decide (s ≠ dot2)):=rfl
 by_cases h1:s.size < 1
 ·have c1:(s.size:Int) < 1:=by omega
  have hr:namedT s = false:=by rw [hres,decide_eq_false (by omega:¬ 1 <= s.size)];simp
  rw [hr]
  clear hres hr h1
  go_enter Tryz.func21,Tryz.ntmps21
  go_wp2_with fail
  go_ret
  exact ⟨rfl,rfl⟩
 ·have c1:¬ (s.size:Int) < 1:=by omega
  by_cases h14:14 < s.size
  ·have c14:14 < (s.size:Int):=by omega
   have hr:namedT s = false:=by rw [hres,decide_eq_false (by omega:¬ s.size <= 14)];simp
   rw [hr]
   clear hres hr h1 h14
   go_enter Tryz.func21,Tryz.ntmps21
   go_wp2_with fail
   go_ret
   exact ⟨rfl,rfl⟩
  ·have c14:¬ 14 < (s.size:Int):=by omega
   by_cases g1:s = dot1
   ·have hr:namedT s = false:=by rw [hres,decide_eq_false (not_not_intro g1)];simp
    rw [hr]
    have e1:=(dot1_iff s).1 g1
    clear hres hr h1 h14 g1
    go_enter Tryz.func21,Tryz.ntmps21
    go_wp2_with fail
    go_ret
    exact ⟨rfl,rfl⟩
   ·by_cases g2:s = dot2
    ·have hr:namedT s = false:=by rw [hres,decide_eq_false (not_not_intro g2)];simp
     rw [hr]
     have e1:¬ s.toList = [46]:=fun e=>g1 ((dot1_iff s).2 e)
     have e2:=(dot2_iff s).1 g2
     clear hres hr h1 h14 g1 g2
     go_enter Tryz.func21,Tryz.ntmps21
     go_wp2_with fail
     go_ret
     exact ⟨rfl,rfl⟩
    ·have hr:namedT s = cleanT s:=by
      rw [hres,decide_eq_true (by omega:1 <= s.size),decide_eq_true (by omega:s.size <= 14),decide_eq_true g1,decide_eq_true g2];simp
     rw [hr]
     have e1:(s.toList == [46]) = false:=beq_eq_false_iff_ne.2 fun e=>g1 ((dot1_iff s).2 e)
     have e2:(s.toList == [46,46]) = false:=beq_eq_false_iff_ne.2 fun e=>g2 ((dot2_iff s).2 e)
     have HALL:=hid (all_bytes (s:=s))
     have HNOT:=hid (fun i=>not_clean (s:=s) (i:=i))
     have HIX:=hid (fun i=>index_byte (s:=s) (i:=i))
     obtain ⟨n,hn⟩:∃ n,n = s.size:=⟨_,rfl⟩
     have HN:=hid hn
     rw [<- hn] at c1 c14
     have l0:(ByteArray.size s) = n:=hn.symm
     obtain ⟨q,hq⟩:∃ q,q = cleanT s:=⟨_,rfl⟩
     have HQ:=hid hq
     rw [<- hq]
     clear hres hr h1 h14 g1 g2 hn hq
     go_enter Tryz.func21,Tryz.ntmps21
     go_wp2_with fail
     go_loopw [3] (fun s3 wr=>∃ i:Nat,i <= n /\ Hid (∀ j,j < i -> byteAt s j ≠ 47 /\ byteAt s j ≠ 0) /\ s3 = .int .i64 i /\ wr = w) (fun s3 _=>n - (intOf s3).toNat)
     case atStart=>exact ⟨0,Nat.zero_le _,hid (fun j h=>absurd h (Nat.not_lt_zero j)),rfl,rfl⟩
     case round =>
      obtain ⟨i,hi,HB,rfl,hwr⟩:=hrel
      rw [hwr]
      clear hwr
      by_cases hlt:i < n
      ·have hlt2:(i:Int) < (n:Int):=by omega
       have ix:=HIX.out i (by rw [<- HN.out];exact hlt)
       obtain ⟨b,hb⟩:∃ b:Int,b = (byteAt s i:Int):=⟨_,rfl⟩
       rw [<- hb] at ix
       have HBB:=hid hb
       clear hb
       by_cases b47:b = 47
       ·have t1:(b == 47) = true:=by simpa using b47
        have hq2:q = false:=by rw [HQ.out];exact HNOT.out i (by rw [<- HN.out];exact hlt) (.inl (by have:=HBB.out;omega))
        have HQ2:=hid hq2
        clear b47 hq2
        go_wp2_with fail
        go_ret
        exact ⟨by rw [HQ2.out];rfl,rfl⟩
       ·have t1:(b == 47) = false:=by simpa using b47
        by_cases b0:b = 0
        ·have t2:(b == 0) = true:=by simpa using b0
         have hq2:q = false:=by rw [HQ.out];exact HNOT.out i (by rw [<- HN.out];exact hlt) (.inr (by have:=HBB.out;omega))
         have HQ2:=hid hq2
         clear b47 hq2 b0
         go_wp2_with fail
         go_ret
         exact ⟨by rw [HQ2.out];rfl,rfl⟩
        ·have t2:(b == 0) = false:=by simpa using b0
         have HB2:Hid (∀ j,j < i + 1 -> byteAt s j ≠ 47 /\ byteAt s j ≠ 0):=hid fun j hj=>by
          by_cases e:j < i
          ·exact HB.out j e
          ·obtain rfl:j = i:=by omega
           have:=HBB.out
           exact ⟨by omega,by omega⟩
         clear b47 b0
         go_wp2_with fail
         go_roundw
         case rel=>exact ⟨i + 1,hlt,HB2,by go_num,by first | trivial | rfl⟩
         case measure=>simp [intOf];omega
      ·obtain rfl:i = n:=by omega
       have hq2:q = true:=by rw [HQ.out];exact HALL.out fun j hj=>HB.out j (by rw [HN.out];exact hj)
       have HQ2:=hid hq2
       clear hq2
       go_wp2_with fail
       go_ret
       exact ⟨by rw [HQ2.out];rfl,rfl⟩
section
variable {S0:Nat -> Prop} {w0 w:World} {r g c m:Nat} {sp:List Value} {T:Tr} {us:Nat -> Value} {B R:Asr}
theorem disdir_calls (hL:Lv S0 w0 (Star (docA r g c sp m T us) B) w) (n:Int):Calls Tryz.prog 133 #[.pointer (some ⟨r,0,none⟩),.int .i64 n] w fun e w'=>e = .returned (.bool (isDirT T n)) /\ w = w':=by
 obtain ⟨c0,c1,cn⟩:=doc_cells hL
 by_cases h0:0 <= n
 ·by_cases h1:n < 32
  ·obtain ⟨k,rfl⟩:∃ k:Nat,n = k:=⟨n.toNat,by omega⟩
   have hk:k < 32:=by omega
   obtain ⟨d0,_⟩:=cn k hk
   have hr:isDirT T k = decide (((T k).kind:Int) = 2):=by
    unfold isDirT
    rw [Int.toNat_natCast]
    exact decide_eq_decide.2 ⟨fun h=>by omega,fun h=>by omega⟩
   rw [hr]
   obtain ⟨z,hz⟩:∃ z:Int,z = ((T k).kind:Int):=⟨_,rfl⟩
   rw [<- hz] at d0 ⊢
   clear cn hL hr hz hk
   by_cases h2:z = 2
   ·have b2:(z == 2) = true:=by simpa using h2
    rw [decide_eq_true h2]
    clear h2
    go_enter Tryz.func133,Tryz.ntmps133
    go_wp2_with fail
    go_ret
    exact ⟨rfl,rfl⟩
   ·have b2:(z == 2) = false:=by simpa using h2
    rw [decide_eq_false h2]
    clear h2
    go_enter Tryz.func133,Tryz.ntmps133
    go_wp2_with fail
    go_ret
    exact ⟨rfl,rfl⟩
  ·rw [show isDirT T n = false from decide_eq_false (by omega)]
   clear cn hL
   go_enter Tryz.func133,Tryz.ntmps133
   go_wp2_with fail
   go_ret
   exact ⟨rfl,rfl⟩
 ·rw [show isDirT T n = false from decide_eq_false (by omega)]
  clear cn hL
  go_enter Tryz.func133,Tryz.ntmps133
  go_wp2_with fail
  go_ret
  exact ⟨rfl,rfl⟩
theorem dfind_calls (hL:Lv S0 w0 (Star (docA r g c sp m T us) B) w) (n:Int):Calls Tryz.prog 181 #[.pointer (some ⟨r,0,none⟩),.int .i64 n] w fun e w'=>e = .returned (.int .i64 (tfindE T n)) /\ w = w':=by
 obtain ⟨c0,c1,cn⟩:=doc_cells hL
 by_cases h0:n < 0
 ·rw [show tfindE T n = 1 from if_pos (.inl h0)]
  clear cn hL
  go_enter Tryz.func181,Tryz.ntmps181
  go_wp2_with fail
  go_ret
  exact ⟨rfl,rfl⟩
 ·by_cases h1:(31:Int) < n
  ·rw [show tfindE T n = 1 from if_pos (.inr h1)]
   clear cn hL
   go_enter Tryz.func181,Tryz.ntmps181
   go_wp2_with fail
   go_ret
   exact ⟨rfl,rfl⟩
  ·obtain ⟨k,rfl⟩:∃ k:Nat,n = k:=⟨n.toNat,by omega⟩
   have hk:k < 32:=by omega
   have hk2:(k:Int) < 32:=by omega
   obtain ⟨d0,_⟩:=cn k hk
   have hr:tfindE T k = if ((T k).kind:Int) = 0 then 5 else 0:=by
    unfold tfindE
    rw [if_neg (by omega),Int.toNat_natCast]
    by_cases h:(T k).kind = 0
    ·rw [if_pos h,if_pos (by omega)]
    ·rw [if_neg h,if_neg (by omega)]
   rw [hr]
   obtain ⟨z,hz⟩:∃ z:Int,z = ((T k).kind:Int):=⟨_,rfl⟩
   rw [<- hz] at d0 ⊢
   clear cn hL hr hz hk
   by_cases h2:z = 0
   ·have b2:(z == 0) = true:=by simpa using h2
    rw [if_pos h2]
    clear h2
    go_enter Tryz.func181,Tryz.ntmps181
    go_wp2_with fail
    go_ret
    exact ⟨rfl,rfl⟩
   ·have b2:(z == 0) = false:=by simpa using h2
    rw [if_neg h2]
    clear h2
    go_enter Tryz.func181,Tryz.ntmps181
    go_wp2_with fail
    go_ret
    exact ⟨rfl,rfl⟩
end
def cutV (s:ByteArray) (acc:List (Nat × Nat)):List Value:=acc.map fun x=>.string (s.extract x.1 x.2)
theorem cutV_snoc (s:ByteArray) (acc:List (Nat × Nat)) (a b:Nat):cutV s (acc ++ [(a,b)]) = cutV s acc ++ [.string (s.extract a b)]:=by simp [cutV]
theorem dcut_len (s:ByteArray):∀ i,(dcut s i).2.length <= i
 | 0=>Nat.le_refl _
 | i + 1=>by
  have:=dcut_len s i
  by_cases h:i < s.size /\ byteAt s i ≠ 47
  ·rw [dcut_on h];omega
  ·rw [dcut_at h]
   show (if (dcut s i).1 < i then (dcut s i).2 ++ [((dcut s i).1,i)] else (dcut s i).2).length <= i + 1
   split
   ·rw [List.length_append];simp;omega
   ·omega
theorem cutV_parts (s:ByteArray) {f:Nat} {acc:List (Nat × Nat)} (h:dcut s (s.size + 1) = (f,acc)):cutV s acc = strsT (partsT s) /\ acc.length = (partsT s).length:=by
 have:=dcut_parts s
 rw [h] at this
 rw [<- this]
 unfold cutV strsT
 exact ⟨by rw [List.map_map];rfl,by rw [List.length_map]⟩
structure CutI (s:ByteArray) (w:World) (i f n:Nat) (ao:Option Addr) (c:Nat) (wr:World):Prop where
 acc:∃ acc,dcut s i = (f,acc) /\ acc.length = n /\ wr.ownsRow 0 tStr 1 (.slice ao n c) n (cutV s acc)
 new:∀ k,(Value.slice ao n c).ownBlock = some k -> w.heap.size <= k
 fr:Fr Nob w wr
theorem CutI.on {s:ByteArray} {w wr:World} {i f n c:Nat} {ao:Option Addr} (h:CutI s w i f n ao c wr) (hi:i < s.size) (hb:byteAt s i ≠ 47):CutI s w (i + 1) f n ao c wr:=by
 obtain ⟨acc,h1,h2⟩:=h.acc
 exact ⟨⟨acc,by rw [dcut_on ⟨hi,hb⟩];exact h1,h2⟩,h.new,h.fr⟩
theorem CutI.le {s:ByteArray} {w wr:World} {i f n c:Nat} {ao:Option Addr} (h:CutI s w i f n ao c wr):f <= i /\ n <= i:=by
 obtain ⟨acc,h1,h2,_⟩:=h.acc
 have a:=dcut_le s i
 have b:=dcut_len s i
 rw [h1] at a b
 exact ⟨a,by rw [<- h2];exact b⟩
theorem CutI.no {s:ByteArray} {w wr:World} {i f n c:Nat} {ao:Option Addr} (h:CutI s w i f n ao c wr) (hi:¬ (i < s.size /\ byteAt s i ≠ 47)) (hf:¬ f < i):CutI s w (i + 1) (i + 1) n ao c wr:=by
 obtain ⟨acc,h1,h2⟩:=h.acc
 refine ⟨⟨acc,?_,h2⟩,h.new,h.fr⟩
 rw [dcut_at hi,h1]
 exact Prod.ext rfl (if_neg hf)
theorem CutI.cut {s:ByteArray} {w wr w':World} {i f n c:Nat} {ao:Option Addr} (h:CutI s w i f n ao c wr) (hi:¬ (i < s.size /\ byteAt s i ≠ 47)) (hf:f < i) {v':Value} {o:Obj} {acc:List (Nat × Nat)} (h1:dcut s i = (f,acc)) (h2:acc.length = n)
 (ho:w'.ownsRow 0 tStr 1 v' (n + 1) (cutV s acc ++ [.string (s.extract f i)])) (hfr:Fr (fun k=>(Value.slice ao n c).ownBlock = some k) (wr.alloc o) w')
 (hv:∀ k,v'.ownBlock = some k -> (Value.slice ao n c).ownBlock = some k \/ (wr.alloc o).heap.size <= k):∃ ao' c',v' = .slice ao' (n + 1) c' /\ CutI s w (i + 1) (i + 1) (n + 1) ao' c' w':=by
 obtain ⟨ao',c',rfl⟩:=row_any ho
 have hsz:=h.fr.size
 refine ⟨ao',c',rfl,⟨acc ++ [(f,i)],?_,by rw [List.length_append,h2];rfl,by rw [cutV_snoc];exact ho⟩,fun k hk=>?_,?_⟩
 ·rw [dcut_at hi,h1]
  exact Prod.ext rfl (if_pos hf)
 ·rcases hv k hk with e | e
  ·exact h.new k e
  ·simp at e;omega
 ·exact (h.fr.alloc o).trans' hfr fun k hk e=>by have:=h.new k e;omega
theorem dparts_calls (s:ByteArray) (h128:s.size <= 128) (w:World) :
 Calls Tryz.prog 200 #[.string s] w fun e w'=>∃ u,e = .returned u /\ w'.ownsRow 0 tStr 1 u (partsT s).length (strsT (partsT s)) /\ (∀ k,u.ownBlock = some k -> w.heap.size <= k) /\ Fr Nob w w':=by
 have HIX:=hid (fun i=>index_byte (s:=s) (i:=i))
 have HFIN:Hid (∀ (f n c:Nat) (ao:Option Addr) (wr:World),CutI s w (s.size + 1) f n ao c wr -> wr.ownsRow 0 tStr 1 (.slice ao n c) (partsT s).length (strsT (partsT s)) /\ (∀ k,(Value.slice ao n c).ownBlock = some k -> w.heap.size <= k) /\ Fr Nob w wr):=hid fun f n c ao wr h=>by
  obtain ⟨acc,h1,h2,h3⟩:=h.acc
  obtain ⟨e1,e2⟩:=cutV_parts s h1
  rw [<- e1,<- e2,h2]
  exact ⟨h3,h.new,h.fr⟩
 obtain ⟨z,hz⟩:∃ z,z = s.size:=⟨_,rfl⟩
 have HZ:=hid hz
 have l0:(ByteArray.size s) = z:=hz.symm
 rw [<- hz] at h128
 clear hz
 go_enter Tryz.func200,Tryz.ntmps200
 go_wp2_with fail
 go_loopw [3,4,5] (fun s3 s4 s5 wr=>∃ (i f n c:Nat) (ao:Option Addr),i <= z + 1 /\ s3 = .slice ao n c /\ s4 = .int .i64 f /\ s5 = .int .i64 i /\ Hid (CutI s w i f n ao c wr)) (fun _ _ s5 _=>z + 1 - (intOf s5).toNat)
 case atStart=>exact ⟨0,0,0,0,none,Nat.zero_le _,rfl,rfl,rfl,hid ⟨⟨[],rfl,rfl,World.ownsRow_nil _ _ _ _⟩,fun k hk=>(by cases hk),Fr.refl _ _⟩⟩
 case round =>
  obtain ⟨i,f,n,c,ao,hi,rfl,rfl,rfl,HC⟩:=hrel
  by_cases hle:i <= z
  ·have hle2:(i:Int) <= (z:Int):=by omega
   obtain ⟨hfi,hni⟩:=HC.out.le
   by_cases hlt:i < z
   ·have hlt2:(i:Int) < (z:Int):=by omega
    have ix:=HIX.out i (by rw [<- HZ.out];exact hlt)
    obtain ⟨b,hb⟩:∃ b:Int,b = (byteAt s i:Int):=⟨_,rfl⟩
    rw [<- hb] at ix
    by_cases b47:b = 47
    ·have t1:(b != 47) = false:=by simpa using b47
     have hcut:¬ (i < s.size /\ byteAt s i ≠ 47):=by omega
     have HCUT:=hid hcut
     clear hcut hb b47
     by_cases hf:f < i
     ·have hf2:(f:Int) < (i:Int):=by omega
      have hx0:f <= i:=by omega
      have hx1:i <= z:=by omega
      obtain ⟨acc,a1,a2,a3⟩:=HC.out.acc
      have HO:=hid a3
      have HA1:=hid a1
      have HA2:=hid a2
      clear a1 a2 a3
      go_wp2_with (at_builtin;refine wpList_append_mine rfl (ho:=rfl) (s:=.tmp 25) (x:=.tmp 30) Tryz.rowStr rfl (HO.out.alloc _) rfl (srcs_one wr _ _ 1 rfl) (by omega) ?_;intro v' w3 hown hf3 hv3 _;obtain ⟨ao',c',rfl,HC3⟩:=HC.out.cut HCUT.out hf HA1.out HA2.out hown hf3 hv3)
      go_roundw
      case rel=>exact ⟨i + 1,i + 1,n + 1,c',ao',by omega,rfl,by go_num,by go_num,hid HC3⟩
      case measure=>simp [intOf] <;> omega
     ·have hf2:¬ (f:Int) < (i:Int):=by omega
      have HC2:=hid (HC.out.no HCUT.out hf)
      go_wp2_with fail
      go_roundw
      case rel=>exact ⟨i + 1,i + 1,n,c,ao,by omega,rfl,by go_num,by go_num,HC2⟩
      case measure=>simp [intOf] <;> omega
    ·have t1:(b != 47) = true:=by simpa using b47
     have HC2:=hid (HC.out.on (by rw [<- HZ.out];exact hlt) (by omega))
     clear b47 hb
     go_wp2_with fail
     go_roundw
     case rel=>exact ⟨i + 1,f,n,c,ao,by omega,rfl,rfl,by go_num,HC2⟩
     case measure=>simp [intOf] <;> omega
   ·obtain rfl:i = z:=by omega
    have hlt2:¬ (i:Int) < (i:Int):=by omega
    have hcut:¬ (i < s.size /\ byteAt s i ≠ 47):=by have:=HZ.out;omega
    have HCUT:=hid hcut
    clear hcut
    by_cases hf:f < i
    ·have hf2:(f:Int) < (i:Int):=by omega
     have hx0:f <= i:=by omega
     have hx1:i <= i:=by omega
     obtain ⟨acc,a1,a2,a3⟩:=HC.out.acc
     have HO:=hid a3
     have HA1:=hid a1
     have HA2:=hid a2
     clear a1 a2 a3
     go_wp2_with (at_builtin;refine wpList_append_mine rfl (ho:=rfl) (s:=.tmp 25) (x:=.tmp 30) Tryz.rowStr rfl (HO.out.alloc _) rfl (srcs_one wr _ _ 1 rfl) (by omega) ?_;intro v' w3 hown hf3 hv3 _;obtain ⟨ao',c',rfl,HC3⟩:=HC.out.cut HCUT.out hf HA1.out HA2.out hown hf3 hv3)
     go_roundw
     case rel=>exact ⟨i + 1,i + 1,n + 1,c',ao',by omega,rfl,by go_num,by go_num,hid HC3⟩
     case measure=>simp [intOf] <;> omega
    ·have hf2:¬ (f:Int) < (i:Int):=by omega
     have HC2:=hid (HC.out.no HCUT.out hf)
     go_wp2_with fail
     go_roundw
     case rel=>exact ⟨i + 1,i + 1,n,c,ao,by omega,rfl,by go_num,by go_num,HC2⟩
     case measure=>simp [intOf] <;> omega
  ·obtain rfl:i = z + 1:=by omega
   have hle2:¬ (((z + 1:Nat)):Int) <= (z:Int):=by omega
   have HR:=hid (HFIN.out f n c ao _ (by rw [<- HZ.out];exact HC.out))
   go_wp2_with fail
   go_ret
   exact ⟨_,rfl,HR.out⟩
section
variable {S0:Nat -> Prop} {w0 w:World} {r g c m:Nat} {sp:List Value} {T:Tr} {us:Nat -> Value} {B R:Asr}
theorem parts_len (s:ByteArray):(partsT s).length <= s.size + 1:=by
 have:=dcut_len s (s.size + 1)
 rw [<- dcut_parts,List.length_map]
 exact this
theorem beg_size {from_:Int} {path:ByteArray} (h:beginE T from_ path = 0):path.size <= 128:=by
 unfold beginE at h
 split at h
 ·cases h
 ·next h1=>exact Classical.byContradiction fun hc=>h1 (.inr (.inl (by omega)))
def BegP (T:Tr) (from_:Int) (path:ByteArray) (w:World) (e:Ending) (w':World):Prop :=
 ∃ u,e = .returned (.tuple #[.int .i64 (if beginE T from_ path = 0 then beginN from_ path else 0:Nat),u,.int .i64 (beginE T from_ path)]) /\
  w'.ownsRow 0 tStr 1 u (if beginE T from_ path = 0 then partsT path else []).length (strsT (if beginE T from_ path = 0 then partsT path else [])) /\ (∀ k,u.ownBlock = some k -> w.heap.size <= k) /\ Fr Nob w w'
theorem beg_bad {from_:Int} {path:ByteArray} {w:World} {E:Int} (hE:beginE T from_ path = E) (h0:E ≠ 0):BegP T from_ path w (.returned (.tuple #[.int .i64 0,.slice none 0 0,.int .i64 E])) w:=by
 subst hE
 refine ⟨.slice none 0 0,by rw [if_neg h0];rfl,?_,fun k hk=>(by cases hk),Fr.refl _ _⟩
 rw [if_neg h0]
 exact World.ownsRow_nil _ _ _ _
theorem beg_ok {from_:Int} {path:ByteArray} {w w':World} {u:Value} {n:Int} (hE:beginE T from_ path = 0) (hn:(beginN from_ path:Int) = n) (h1:w'.ownsRow 0 tStr 1 u (partsT path).length (strsT (partsT path))) (h2:∀ k,u.ownBlock = some k -> w.heap.size <= k) (h3:Fr Nob w w') :
 BegP T from_ path w (.returned (.tuple #[.int .i64 n,u,.int .i64 0])) w':=by
 refine ⟨u,by rw [hE,if_pos rfl,hn],?_,h2,h3⟩
 rw [hE,if_pos rfl]
 exact h1
theorem no_zero {s:ByteArray} (h:∀ j,j < s.size -> byteAt s j ≠ 0):s.data.toList.contains 0 = false:=by
 rw [Bool.eq_false_iff]
 intro hc
 have hm:(0:UInt8) ∈ s.data.toList:=by simpa using hc
 obtain ⟨i,hi,e⟩:=List.mem_iff_getElem.1 hm
 have hs:i < s.size:=by rw [<- bytes_len];exact hi
 refine h i hs ?_
 unfold byteAt
 rw [List.getD,List.getElem?_eq_getElem hi,e]
 rfl
theorem has_zero {s:ByteArray} {i:Nat} (hi:i < s.size) (h:byteAt s i = 0):s.data.toList.contains 0 = true:=by
 have hi':i < s.data.toList.length:=by rw [bytes_len];exact hi
 unfold byteAt at h
 rw [List.getD,List.getElem?_eq_getElem hi'] at h
 have:s.data.toList[i] = 0:=UInt8.toNat_inj.1 h
 have hm:=List.getElem_mem hi'
 rw [this] at hm
 simpa using hm
theorem dbegin_calls (hL:Lv S0 w0 (Star (docA r g c sp m T us) B) w) (from_:Int) (path:ByteArray) :
 Calls Tryz.prog 174 #[.pointer (some ⟨r,0,none⟩),.int .i64 from_,.string path] w (BegP T from_ path w):=by
 by_cases h1:path.size < 1
 ·have c1:(path.size:Int) < 1:=by omega
  have HP:=hid (beg_bad (w:=w) (T:=T) (from_:=from_) (path:=path) (E:=8) (if_pos (.inl h1)) (by decide))
  clear h1 hL
  go_enter Tryz.func174,Tryz.ntmps174
  go_wp2_with fail
  go_ret3
  exact HP.out
 ·have c1:¬ (path.size:Int) < 1:=by omega
  by_cases h128:128 < path.size
  ·have c2:128 < (path.size:Int):=by omega
   have HP:=hid (beg_bad (w:=w) (T:=T) (from_:=from_) (path:=path) (E:=8) (if_pos (.inr (.inl h128))) (by decide))
   clear h1 h128 hL
   go_enter Tryz.func174,Tryz.ntmps174
   go_wp2_with fail
   go_ret3
   exact HP.out
  ·have c2:¬ 128 < (path.size:Int):=by omega
   have HZERO:Hid (∀ i,i < path.size -> byteAt path i = 0 -> BegP T from_ path w (.returned (.tuple #[.int .i64 0,.slice none 0 0,.int .i64 8])) w):=hid fun i hi hb=>beg_bad (if_pos (.inr (.inr (has_zero hi hb)))) (by decide)
   have HNZ:=hid (no_zero (s:=path))
   have HIX:=hid (fun i=>index_byte (s:=path) (i:=i))
   have HDIR:=hid (disdir_calls hL from_)
   have HPT:=hid (dparts_calls path (by omega) w)
   have ix0:=index_byte (s:=path) (i:=0) (by omega)
   have hb0:byteAt path 0 = (path.data.toList.getD 0 0).toNat:=rfl
   have HE:Hid (path.data.toList.contains 0 = false -> beginE T from_ path = if path.data.toList.getD 0 0 = 47 then 0 else if isDirT T from_ = false then 1 else 0):=hid fun hz=>by
    unfold beginE
    rw [if_neg (by rintro (a | a | a) <;> first | omega | (rw [hz] at a;cases a))]
   obtain ⟨z,hz⟩:∃ z,z = path.size:=⟨_,rfl⟩
   have HZ:=hid hz
   rw [<- hz] at c1 c2
   have l0:(ByteArray.size path) = z:=hz.symm
   have z0:0 < z:=by omega
   obtain ⟨b0,hbb⟩:∃ b:Int,b = (byteAt path 0:Int):=⟨_,rfl⟩
   have ix0:∀ W:World,(Instr.index 9 (.string path) (.int .i64 0)).run Tryz.prog W = .ok (.int .u8 b0) W:=fun W=>by rw [hbb];exact ix0 W
   have HB0:Hid (b0 = ((path.data.toList.getD 0 0).toNat:Int)):=hid (by rw [hbb,hb0])
   clear h1 h128 hz hL hb0 hbb
   go_enter Tryz.func174,Tryz.ntmps174
   go_wp2_with fail
   go_loopw [9] (fun s9 wr=>∃ i:Nat,i <= z /\ Hid (∀ j,j < i -> byteAt path j ≠ 0) /\ s9 = .int .i64 i /\ wr = w) (fun s9 _=>z - (intOf s9).toNat)
   case atStart=>exact ⟨0,Nat.zero_le _,hid (fun j h=>absurd h (Nat.not_lt_zero j)),rfl,rfl⟩
   case round =>
    obtain ⟨i,hi,HB,rfl,hwr⟩:=hrel
    rw [hwr]
    clear hwr
    by_cases hlt:i < z
    ·have hlt2:(i:Int) < (z:Int):=by omega
     have ix:=HIX.out i (by rw [<- HZ.out];exact hlt)
     obtain ⟨b,hb⟩:∃ b:Int,b = (byteAt path i:Int):=⟨_,rfl⟩
     rw [<- hb] at ix
     by_cases bz:b = 0
     ·have t1:(b == 0) = true:=by simpa using bz
      have HP:=hid (HZERO.out i (by rw [<- HZ.out];exact hlt) (by omega))
      clear bz hb ix0
      go_wp2_with fail
      go_ret3
      exact HP.out
     ·have t1:(b == 0) = false:=by simpa using bz
      have HB2:Hid (∀ j,j < i + 1 -> byteAt path j ≠ 0):=hid fun j hj=>by
       by_cases e:j < i
       ·exact HB.out j e
       ·obtain rfl:j = i:=by omega
        omega
      clear bz hb ix0
      go_wp2_with fail
      go_roundw
      case rel=>exact ⟨i + 1,hlt,HB2,by go_num,by first | trivial | rfl⟩
      case measure=>simp [intOf];omega
    ·obtain rfl:i = z:=by omega
     have hlt2:¬ (i:Int) < (i:Int):=by omega
     have hE:=HE.out (HNZ.out fun j hj=>HB.out j (by rw [HZ.out];exact hj))
     by_cases b47:b0 = 47
     ·have t1:(b0 == 47) = true:=by simpa using b47
      have h47:path.data.toList.getD 0 0 = 47:=UInt8.toNat_inj.1 (by have:=HB0.out;show _ = 47;omega)
      rw [if_pos h47] at hE
      have hN:(beginN from_ path:Int) = 0:=by unfold beginN;rw [if_pos h47];rfl
      have HEE:=hid hE
      have HNN:=hid hN
      clear h47 hE hN b47
      go_wp2_with fail
      refine HPT.out.mono ?_
      rintro e w2 ⟨u,rfl,h1,h2,h3⟩
      have HR:=hid (beg_ok HEE.out HNN.out h1 h2 h3)
      clear h1 h2 h3
      go_wp2_with fail
      go_ret3
      exact HR.out
     ·have t1:(b0 == 47) = false:=by simpa using b47
      have h47:¬ path.data.toList.getD 0 0 = 47:=fun e=>b47 (by have:=HB0.out;rw [e] at this;exact this)
      rw [if_neg h47] at hE
      have hN:beginN from_ path = from_.toNat:=by unfold beginN;rw [if_neg h47]
      obtain ⟨q,hq⟩:∃ q,q = isDirT T from_:=⟨_,rfl⟩
      have hpos:q = true -> 0 <= from_:=fun e=>(isDir_iff.1 (hq ▸ e)).1
      have HD:=HDIR.out
      rw [<- hq] at HD hE
      have HD:=hid HD
      have HEE:=hid hE
      have HNN:=hid hN
      have HPOS:=hid hpos
      clear h47 hE hN b47 hq hpos
      go_wp2_with fail
      refine HD.out.mono ?_
      rintro e w2 ⟨rfl,rfl⟩
      cases q with
      | false =>
       have HP:=hid (beg_bad (w:=w) (T:=T) (from_:=from_) (path:=path) (E:=1) HEE.out (by decide))
       go_wp2_with fail
       go_ret3
       exact HP.out
      | true =>
       have HE3:Hid (beginE T from_ path = 0):=hid HEE.out
       have HN3:Hid ((beginN from_ path:Int) = from_):=hid (by rw [HNN.out];have:=HPOS.out rfl;omega)
       go_wp2_with fail
       refine HPT.out.mono ?_
       rintro e w2 ⟨u,rfl,h1,h2,h3⟩
       have HR:=hid (beg_ok HE3.out HN3.out h1 h2 h3)
       clear h1 h2 h3
       go_wp2_with fail
       go_ret3
       exact HR.out
end
end Go.Proofs.YtngalllaiphkhaaGreatDoor
