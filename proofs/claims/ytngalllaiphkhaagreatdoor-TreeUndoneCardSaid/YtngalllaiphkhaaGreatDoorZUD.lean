import Derived.Test.YtngalllaiphkhaaGreatDoorZUC
namespace Go.Proofs.YtngalllaiphkhaaGreatDoor
open Go.RowKit
open Go.Lib (hid)
set_option maxRecDepth 100000
set_option maxHeartbeats 16000000
set_option linter.unusedVariables false
set_option linter.unusedSimpArgs false
section
variable {S0:Nat -> Prop} {w0 w:World} {r g c m:Nat} {sp:List Value} {T:Tr} {us:Nat -> Value} {B R:Asr}
theorem dstat_calls (hX:Lv S0 w0 (Star (docX r m T) B) w) (hB:Loc B) (hT:DocOk T) (n:Int) :
 Calls Tryz.prog 142 #[.pointer (some ⟨r,0,none⟩),.int .i64 n] w fun e w'=>e = .returned (.tuple #[astatV (volT T) n,.int .i64 (afindE (volT T) n)]) /\ Lv S0 w0 (Star (docX r m T) B) w':=by
 obtain ⟨x0,x1,x2,hx,_⟩:=astat_is (volT T) n
 have hlX:Loc (Star (docX r m T) B):=loc_star (loc_docX _ _ _) hB
 have L1:=hX.box hlX tStat9 [.int .i64 0,.int .i64 0,.int .i64 0]
 have hlB:Loc (Star (blkA w.heap.size tStat9 [.int .i64 0,.int .i64 0,.int .i64 0]) B):=loc_star (loc_blk _ _ _) hB
 have HV:=hid (dvol_calls (L1.map fun _ h=>star_flip h) hlB hT)
 have HX:=hid hx
 have HB:=hid hB
 clear hX hB hT hlX L1 hlB hx
 go_enter Tryz.func142,Tryz.ntmps142
 go_wp2_with fail
 refine HV.out.mono ?_
 rintro e w1 ⟨q,rfl,L2⟩
 obtain ⟨nb,c2,sp2,L3⟩:=rvX_open L2
 have hst:=rstat_calls L3 (loc_star (loc_docX _ _ _) (loc_star (loc_blk _ _ _) HB.out)) n
 have HS:Hid (Calls Tryz.prog 179 #[.pointer (some ⟨q,0,none⟩),.int .i64 n] w1 fun e w'=>e = .returned (.tuple #[.agg #[.int .i64 x0,.int .i64 x1,.int .i64 x2],.int .i64 (afindE (volT T) n)]) /\ Lv S0 w0 (Star (blkA w.heap.size tStat9 [.int .i64 0,.int .i64 0,.int .i64 0]) (Star (docX r m T) B)) w'):=hid (by
  rw [<- HX.out]
  exact hst.mono fun e w' ⟨h1,h2⟩=>⟨h1,h2.drop.map fun _ h=>star_flip h⟩)
 clear L2 L3 hst HV
 go_wp2_with fail
 refine HS.out.mono ?_
 rintro e w2 ⟨rfl,V3⟩
 have HB3:=hid V3.blk
 have HV3:=hid V3
 have z0:=V3.blk.cell (j:=0) rfl
 have z1:=V3.blk.cell (j:=1) rfl
 have z2:=V3.blk.cell (j:=2) rfl
 have f0:=V3.blk.free 0
 have f1:=V3.blk.free 1
 have f2:=V3.blk.free 2
 clear V3
 go_wp2_with fail
 refine bodyPost_ret (results_blk_tmp rfl rfl (((HB3.out.set 0 _).set 1 _).set 2 _) Tryz.underlying30 rfl Tryz.sizeStat9) rfl ?_
 have l1:Loc (Star (docX r m T) B):=loc_star (loc_docX _ _ _) HB.out
 exact ⟨by rw [HX.out];rfl,(((HV3.out.turn l1 (turn_blk 0 _)).turn l1 (turn_blk 1 _)).turn l1 (turn_blk 2 _)).drop⟩
theorem dtread_calls (hX:Lv S0 w0 (Star (docX r m T) B) w) (hB:Loc B) (hT:DocOk T) (n off many:Int) :
 Calls Tryz.prog 143 #[.pointer (some ⟨r,0,none⟩),.int .i64 n,.int .i64 off,.int .i64 many] w fun e w'=>e = .returned (.tuple #[.string (areadB (volT T) n off many),.int .i64 (areadE (volT T) n off many)]) /\ Lv S0 w0 (Star (docX r m T) B) w':=by
 have HV:=hid (dvol_calls hX hB hT)
 obtain ⟨rb,hrb⟩:∃ x,x = areadB (volT T) n off many:=⟨_,rfl⟩
 obtain ⟨rE,hrE⟩:∃ x,x = areadE (volT T) n off many:=⟨_,rfl⟩
 rw [<- hrb,<- hrE]
 have HRB:=hid hrb
 have HRE:=hid hrE
 clear hX hB hT hrb hrE
 go_enter Tryz.func143,Tryz.ntmps143
 go_wp2_with fail
 refine HV.out.mono ?_
 rintro e w1 ⟨q,rfl,L2⟩
 obtain ⟨nb,c2,sp2,L3⟩:=rvX_open L2
 have hrd:=rread_calls L3 n off many
 rw [<- HRB.out,<- HRE.out] at hrd
 have HRD:=hid hrd
 have HL:=hid L2.drop
 clear L2 L3 HV hrd
 go_wp2_with fail
 refine HRD.out.mono ?_
 rintro e w2 ⟨rfl,rfl⟩
 go_wp2_with fail
 go_ret2
 exact ⟨rfl,HL.out⟩
theorem writeT_file {n off:Int} {s:ByteArray} {E:Int} (h:fileE T n = E) (h0:E ≠ 0):writeT m T n off s = (E,T):=by unfold writeT;rw [h,if_pos h0]
theorem writeT_bad {n off:Int} {s:ByteArray} {E:Int} (h:fileE T n = 0) (h1:awriteE m (volT T) false n off s = E) (h0:E ≠ 0):writeT m T n off s = (E,T):=by
 unfold writeT
 rw [if_neg (by rw [h];decide),h1,if_pos h0]
theorem writeT_ok {k:Nat} {off:Int} {s:ByteArray} (h:fileE T k = 0) (h1:awriteE m (volT T) false k off s = 0):writeT m T k off s = (0,setT T k { T k with data:=splice (T k).data off.toNat s.data.toList }):=by
 unfold writeT
 rw [if_neg (by rw [h];decide),if_neg (by rw [h1];decide),Int.toNat_natCast]
theorem dwrite_calls (hX:Lv S0 w0 (Star (docX r m T) B) w) (hB:Loc B) (hI:TInv T) (hA:AOk m (volT T)) (hm:m <= 512) (hs:sumT (volT T) 32 + 9 <= m) (n off:Int) (s:ByteArray) :
 Calls Tryz.prog 144 #[.pointer (some ⟨r,0,none⟩),.int .i64 n,.int .i64 off,.string s] w fun e w'=>e = .returned (.int .i64 (writeT m T n off s).1) /\ Lv S0 w0 (Star (docX r m (writeT m T n off s).2) B) w':=by
 obtain ⟨g,c,sp,us,hL⟩:=docX_open hX
 have HF:=hid (dfind_calls hL n)
 have HX:=hid hX
 have HBL:=hid hB
 rcases tfind_cases T n with h0 | ⟨h0,k,rfl,hk,hz⟩
 ·have hfe:fileE T n = tfindE T n:=if_pos h0
  rw [writeT_file hfe h0]
  have t0:(tfindE T n != 0) = true:=by simpa using h0
  generalize tfindE T n = E at *
  clear hL hX hB h0 hfe hI hA hs
  go_enter Tryz.func144,Tryz.ntmps144
  go_wp2_with fail
  refine HF.out.mono ?_
  rintro e w2 ⟨rfl,rfl⟩
  go_wp2_with fail
  go_ret
  exact ⟨rfl,HX.out⟩
 ·rw [h0] at HF
  obtain ⟨c0,c1,cn⟩:=doc_cells hL
  obtain ⟨d0,d1,d2,d3,d4,d5⟩:=cn k hk
  have hk2:(k:Int) < 32:=by omega
  have hfe:fileE T k = if (T k).kind = 2 then 10 else 0:=by unfold fileE;rw [if_neg (by rw [h0];decide),Int.toNat_natCast]
  obtain ⟨x,hx⟩:∃ x:Int,x = ((T k).kind:Int):=⟨_,rfl⟩
  rw [<- hx] at d0
  by_cases h2:(T k).kind = 2
  ·rw [if_pos h2] at hfe
   rw [writeT_file hfe (by decide)]
   have t0:(x == 2) = true:=by rw [beq_iff_eq];omega
   clear hL hX hB h0 cn hx h2 hz hk c0 d1 d2 d3 d4 d5 hfe hI hA hs
   go_enter Tryz.func144,Tryz.ntmps144
   go_wp2_with fail
   refine HF.out.mono ?_
   rintro e w2 ⟨rfl,rfl⟩
   go_wp2_with fail
   go_ret
   exact ⟨rfl,HX.out⟩
  ·rw [if_neg h2] at hfe
   have t0:(x == 2) = false:=by rw [beq_eq_false_iff_ne];omega
   have HV:=hid (dvol_calls hX hB hI.docok)
   have hnode:=file_node hI hfe
   rw [Int.toNat_natCast] at hnode
   have HND:=hid hnode
   have HA:=hid hA
   have HM:=hid hm
   have HS:=hid hs
   have HK:=hid hk
   have HFE:=hid hfe
   clear hL hX hB h0 cn hx h2 hz c0 d1 d2 d3 d4 d5 hfe hI hA hs hm hnode
   go_enter Tryz.func144,Tryz.ntmps144
   go_wp2_with fail
   refine HF.out.mono ?_
   rintro e w1 ⟨rfl,rfl⟩
   go_wp2_with fail
   refine HV.out.mono ?_
   rintro e w2 ⟨q,rfl,L2⟩
   obtain ⟨nb,c2,sp2,L3⟩:=rvX_open L2
   have HWR:=hid (rwrite_calls L3 (loc_star (loc_docX _ _ _) HBL.out) HA.out HM.out HS.out k off s false)
   clear L2 L3 HV c1 d0
   by_cases hE:awriteE m (volT T) false k off s = 0
   ·rw [hE] at HWR
    have hok:=writeT_ok HFE.out hE
    have haw:awrite m (volT T) false k off s = setA (volT T) k { volT T k with data:=splice (volT T k).data off.toNat s.data.toList }:=by
     unfold awrite
     rw [if_pos hE,Int.toNat_natCast]
    rw [haw] at HWR
    have HOK:=hid hok
    clear hE hok haw
    go_wp2_with fail
    refine HWR.out.mono ?_
    rintro e w3 ⟨rfl,L4⟩
    have u1:=(rv_cells L4).2.1
    have u2:=((rv_cells L4).2.2 k hk).2.2
    rw [setA_at,HND.out] at u2
    obtain ⟨nd,hnd⟩:∃ nd:ByteArray,nd = dataB ⟨1,(T k).links,splice (T k).data off.toNat s.data.toList⟩:=⟨_,rfl⟩
    replace u2:w3.cell? ⟨nb,k * 3 + 2,none⟩ = some (.string nd):=by rw [hnd];exact u2
    obtain ⟨g3,c3,sp3,us3,hL3⟩:=docX_open L4.drop
    have v1:=(doc_cells hL3).2.1
    have v2:=((doc_cells hL3).2.2 k hk).2.2.1
    have f2:=(doc_free hL3 (k * 6 + 2)).1
    have hR3:Loc (Star (docA r g3 c3 sp3 m T us3) B):=loc_star (loc_doc _ _ _ _ _ _ _) HBL.out
    have hE2:=doc_turn hL3 HBL.out hk (j:=2) (v:=.string nd) (x:={ T k with data:=splice (T k).data off.toNat s.data.toList }) (by omega) rfl (by rw [hnd];rfl)
    have HE2:=hid (docX_shut hE2)
    clear L4 hL3 hR3 hE2 hnd HWR hk
    generalize (⟨(T k).data.toArray⟩:ByteArray) = ob at *
    go_wp2_with fail
    go_region
    all_goals
     go_wp2_with fail
     go_ret
     refine ⟨by rw [HOK.out];rfl,?_⟩
     rw [HOK.out]
     exact HE2.out.drew (loc_star (loc_docX _ _ _) HBL.out)
   ·have hbad:=writeT_bad HFE.out rfl hE
    have hsame:awrite m (volT T) false k off s = volT T:=by unfold awrite;rw [if_neg hE]
    have t1:(awriteE m (volT T) false k off s == 0) = false:=by rw [beq_eq_false_iff_ne];exact hE
    have HBAD:=hid hbad
    clear hbad hsame
    generalize awriteE m (volT T) false k off s = E at *
    clear hE
    go_wp2_with fail
    refine HWR.out.mono ?_
    rintro e w3 ⟨rfl,L4⟩
    have HL4:=hid L4.drop
    clear L4 HWR
    go_wp2_with fail
    go_ret
    refine ⟨by rw [HBAD.out];rfl,?_⟩
    rw [HBAD.out]
    exact HL4.out
end
def nmL (l:List SlotT):List ByteArray:=l.filterMap fun o=>o.map (·.2)
theorem nmL_snoc (l:List SlotT) (o:SlotT):nmL (l ++ [o]) = nmL l ++ (match o with | none=>[] | some y=>[y.2]):=by
 unfold nmL
 rw [List.filterMap_append]
 cases o <;> rfl
theorem nmL_len (l:List SlotT):(nmL l).length <= l.length:=List.length_filterMap_le _ _
structure NmI (sl:List SlotT) (w:World) (i j:Nat) (ao:Option Addr) (c:Nat) (wr:World):Prop where
 len:(nmL (sl.take i)).length = j
 row:wr.ownsRow 0 tStr 1 (.slice ao j c) j (strsT (nmL (sl.take i)))
 new:∀ k,(Value.slice ao j c).ownBlock = some k -> w.heap.size <= k
 fr:Fr Nob w wr
theorem NmI.no {sl:List SlotT} {w wr:World} {i j c:Nat} {ao:Option Addr} (h:NmI sl w i j ao c wr) (ho:sl[i]? = some none):NmI sl w (i + 1) j ao c wr:=by
 have e:nmL (sl.take (i + 1)) = nmL (sl.take i):=by rw [List.take_add_one,ho,Option.toList_some,nmL_snoc,List.append_nil]
 exact ⟨by rw [e];exact h.len,by rw [e];exact h.row,h.new,h.fr⟩
theorem NmI.yes {sl:List SlotT} {w wr w':World} {i j c:Nat} {ao:Option Addr} {ino:Nat} {s:ByteArray} (h:NmI sl w i j ao c wr) (ho:sl[i]? = some (some (ino,s))) {v':Value} {o:Obj}
 (hown:w'.ownsRow 0 tStr 1 v' (j + 1) (strsT (nmL (sl.take i)) ++ [.string s])) (hfr:Fr (fun k=>(Value.slice ao j c).ownBlock = some k) (wr.alloc o) w')
 (hv:∀ k,v'.ownBlock = some k -> (Value.slice ao j c).ownBlock = some k \/ (wr.alloc o).heap.size <= k):∃ ao' c',v' = .slice ao' (j + 1) c' /\ NmI sl w (i + 1) (j + 1) ao' c' w':=by
 have e:nmL (sl.take (i + 1)) = nmL (sl.take i) ++ [s]:=by rw [List.take_add_one,ho,Option.toList_some,nmL_snoc]
 obtain ⟨ao',c',rfl⟩:=row_any hown
 have hsz:=h.fr.size
 refine ⟨ao',c',rfl,by rw [e,List.length_append,h.len];rfl,?_,fun k hk=>?_,?_⟩
 ·rw [e,show strsT (nmL (sl.take i) ++ [s]) = strsT (nmL (sl.take i)) ++ [.string s] by unfold strsT;rw [List.map_append];rfl]
  exact hown
 ·rcases hv k hk with e | e
  ·exact h.new k e
  ·simp at e;omega
 ·exact (h.fr.alloc o).trans' hfr fun k hk e=>by have:=h.new k e;omega
section
variable {S0:Nat -> Prop} {w0 w:World} {r g c m:Nat} {sp:List Value} {T:Tr} {us:Nat -> Value} {B R:Asr}
theorem dlist_calls (hX:Lv S0 w0 (Star (docX r m T) B) w) (hB:Loc B) (hT:DocOk T) (n:Int) :
 Calls Tryz.prog 146 #[.pointer (some ⟨r,0,none⟩),.int .i64 n] w fun e w'=>∃ u,e = .returned (.tuple #[u,.int .i64 (listE T n)]) /\ Lv S0 w0 (Star (rowA tStr 1 u (listT T n).length (strsT (listT T n))) (Star (docX r m T) B)) w':=by
 have hlX:Loc (Star (docX r m T) B):=loc_star (loc_docX _ _ _) hB
 have HBAD:Hid (∀ W,Lv S0 w0 (Star (docX r m T) B) W -> listE T n ≠ 0 -> Lv S0 w0 (Star (rowA tStr 1 (.slice none 0 0) (listT T n).length (strsT (listT T n))) (Star (docX r m T) B)) W):=hid fun W hW hE=>by
  have:listT T n = []:=if_pos hE
  rw [this]
  obtain ⟨U,h1,h2⟩:=hW
  exact ⟨U,⟨Nob,U,⟨World.ownsRow_nil _ _ _ _,fun k hk=>by cases hk⟩,h1,fun _ h=>h.elim,fun _ h=>h.elim,fun _ h=>h⟩,h2⟩
 obtain ⟨g,c,sp,us,hL⟩:=docX_open hX
 have HF:=hid (dfind_calls hL n)
 have HX:=hid hX
 have HLX:=hid hlX
 rcases tfind_cases T n with h0 | ⟨h0,k,rfl,hk,hz⟩
 ·have hle:listE T n = tfindE T n:=if_pos h0
  rw [hle] at HBAD ⊢
  have t0:(tfindE T n != 0) = true:=by simpa using h0
  have HE:=hid h0
  clear hL hX hB h0 hle hT hlX
  obtain ⟨E,hE⟩:∃ E,E = tfindE T n:=⟨_,rfl⟩
  rw [<- hE] at HBAD HF t0 HE ⊢
  clear hE
  go_enter Tryz.func146,Tryz.ntmps146
  go_wp2_with fail
  refine HF.out.mono ?_
  rintro e w2 ⟨rfl,rfl⟩
  go_wp2_with fail
  go_ret2
  exact ⟨_,rfl,HBAD.out _ HX.out HE.out⟩
 ·rw [h0] at HF
  obtain ⟨c0,c1,cn⟩:=doc_cells hL
  obtain ⟨d0,d1,d2,d3,d4,d5⟩:=cn k hk
  have hk2:(k:Int) < 32:=by omega
  have hle:listE T k = if (T k).kind ≠ 2 then 11 else 0:=by unfold listE;rw [if_neg (by rw [h0];decide),Int.toNat_natCast]
  obtain ⟨x,hx⟩:∃ x:Int,x = ((T k).kind:Int):=⟨_,rfl⟩
  rw [<- hx] at d0
  by_cases h2:(T k).kind = 2
  ·rw [if_neg (by omega)] at hle
   have hlt:listT T k = nmL (T k).slots:=by unfold listT;rw [if_neg (by rw [hle];decide),Int.toNat_natCast];rfl
   rw [hle,hlt]
   have t0:(x != 2) = false:=by rw [bne_eq_false_iff_eq];omega
   have HSL:=hid (fun j o=>doc_slot (k:=j) (x:=o) hL hk)
   obtain ⟨ao,cap,hu⟩:=row_any (doc_row hL hk)
   rw [hu] at d3
   have HU:=hid hu
   have hlen:=hT.len k hk
   obtain ⟨sl,hsl⟩:∃ sl,sl = (T k).slots:=⟨_,rfl⟩
   rw [<- hsl] at HSL d3 HU hlen ⊢
   obtain ⟨n,hn⟩:∃ n,n = sl.length:=⟨_,rfl⟩
   have HLN:=hid hn
   rw [<- hn] at d3 hlen
   clear hX hB h0 cn hx h2 hz hk c0 d1 d2 d4 d5 hT hlX hle hlt hu hsl hn HBAD hL
   go_enter Tryz.func146,Tryz.ntmps146
   go_wp2_with fail
   refine HF.out.mono ?_
   rintro e w1 ⟨rfl,rfl⟩
   go_wp2_with fail
   go_loopw [7,8] (fun s7 s8 wr=>∃ (i j c2:Nat) (a2:Option Addr),i <= n /\ s7 = .slice a2 j c2 /\ s8 = .int .i64 i /\ Hid (NmI sl w i j a2 c2 wr)) (fun _ s8 _=>n - (intOf s8).toNat)
   case atStart=>exact ⟨0,0,0,none,Nat.zero_le _,rfl,rfl,hid ⟨rfl,World.ownsRow_nil _ _ _ _,fun k hk=>(by cases hk),Fr.refl _ _⟩⟩
   case round =>
    obtain ⟨i,j,c2,a2,hi,rfl,rfl,HN⟩:=hrel
    have e1:=HN.out.fr.cell c1 (fun h=>h)
    have e3:=HN.out.fr.cell d3 (fun h=>h)
    by_cases hlt:i < n
    ·have hlt2:(i:Int) < (n:Int):=by omega
     have hlen2:i < sl.length:=by rw [<- HLN.out];exact hlt
     have hj:j <= 148:=by
      have h1:=nmL_len (sl.take i)
      rw [HN.out.len,List.length_take] at h1
      omega
     obtain ⟨o,ho⟩:∃ o,sl[i]? = some o:=⟨_,List.getElem?_eq_getElem hlen2⟩
     obtain ⟨b,cap2,hu2,hcell⟩:=HSL.out i o ho
     have hu3:=HU.out
     rw [hu2] at hu3
     simp only [Value.slice.injEq] at hu3
     obtain ⟨hao,_,hcap⟩:=hu3
     subst hao
     cases o with
     | none =>
      have e0:wr.cell? ⟨b,i * 2,none⟩ = some (.int .i64 (-1)):=HN.out.fr.cell (by simpa using hcell 0 _ rfl) (fun h=>h)
      have HN2:=hid (HN.out.no ho)
      clear hcell ho hu2 hcap
      go_wp2_with fail
      go_roundw
      case rel=>exact ⟨i + 1,j,c2,a2,hlt,rfl,by go_num,HN2⟩
      case measure=>simp [intOf] <;> omega
     | some y =>
      obtain ⟨ino,t⟩:=y
      have e0:wr.cell? ⟨b,i * 2,none⟩ = some (.int .i64 (ino:Nat)):=HN.out.fr.cell (by simpa using hcell 0 _ rfl) (fun h=>h)
      have e4:wr.cell? ⟨b,i * 2 + 1,none⟩ = some (.string t):=HN.out.fr.cell (hcell 1 _ rfl) (fun h=>h)
      have g0:(0:Int) <= (ino:Int):=by omega
      have HO:=hid HN.out.row
      have HOO:=hid ho
      clear hcell ho hu2 hcap
      go_wp2_with (at_builtin;refine wpList_append_mine rfl (ho:=rfl) (s:=.tmp 50) (x:=.tmp 63) Tryz.rowStr rfl (HO.out.alloc _) rfl (srcs_one wr _ _ 1 rfl) (by omega) ?_;intro v' w3 hown hf3 hv3 _;obtain ⟨ao',c',rfl,HN3⟩:=HN.out.yes HOO.out hown hf3 hv3)
      go_roundw
      case rel=>exact ⟨i + 1,j + 1,c',ao',hlt,rfl,by go_num,hid HN3⟩
      case measure=>simp [intOf] <;> omega
    ·obtain rfl:i = n:=by omega
     have hlt2:¬ (i:Int) < (i:Int):=by omega
     have hrow:=HN.out.row
     have hln:=HN.out.len
     have hall:sl.take i = sl:=List.take_of_length_le (by rw [HLN.out];exact Nat.le_refl _)
     rw [hall] at hrow hln
     have LF:=Lv.new (B:=rowA tStr 1 (.slice a2 j c2) (nmL sl).length (strsT (nmL sl))) HX.out HLX.out HN.out.fr ⟨by rw [hln];exact hrow,fun k hk=>.inr ⟨HN.out.new k hk,(hrow.lt k hk).2⟩⟩
     have HLF:=hid LF
     clear LF hrow hln hall
     go_wp2_with fail
     go_ret2
     exact ⟨_,rfl,HLF.out⟩
  ·rw [if_pos h2] at hle
   rw [hle] at HBAD ⊢
   have t0:(x != 2) = true:=by rw [bne_iff_ne];omega
   clear hX hB h0 cn hx h2 hz hk c0 d1 d2 d3 d4 d5 hT hlX hle hL
   go_enter Tryz.func146,Tryz.ntmps146
   go_wp2_with fail
   refine HF.out.mono ?_
   rintro e w1 ⟨rfl,rfl⟩
   go_wp2_with fail
   go_ret2
   exact ⟨_,rfl,HBAD.out _ HX.out (by decide)⟩
end
abbrev tAct9:Nat:=80
structure ActT where
 kind:Int
 from_:Int
 n:Int
 off:Int
 many:Int
 p:ByteArray
 q:ByteArray
 s:ByteArray
 keep:Int
def ActT.cells (a:ActT):List Value:=[.int .i64 a.kind,.int .i64 a.from_,.int .i64 a.n,.int .i64 a.off,.int .i64 a.many,.string a.p,.string a.q,.string a.s,.int .u64 a.keep]
def actT (m:Nat) (T:Tr) (a:ActT):Tr :=
 if a.kind = 2 then (makeT m T a.from_ a.p a.n).2 else if a.kind = 3 then (linkT m T a.from_ a.p a.q).2 else if a.kind = 4 then (unlinkT T a.from_ a.p).2 else
 if a.kind = 7 then (writeT m T a.n a.off a.s).2 else if a.kind = 8 then (cutT T a.n).2 else if a.kind = 10 then (holdT T a.n).2 else if a.kind = 11 then (dropT T a.n).2 else T
section
variable {S0:Nat -> Prop} {w0 w w':World} {t v b d m c r:Nat} {p:Int} {A A0:Nat -> Node} {T U:Tr} {B R R':Asr}
theorem TV.parts (h:TV p S0 w0 t v b d m T B w):AOk m (volT T) /\ m <= 512 /\ sumT (volT T) 32 + 9 <= m:=by
 obtain ⟨X,hv⟩:=VT.vol h
 exact ⟨hv.aok,(VT.m16 h).2,VT.sum h⟩
theorem TV.act {bx e:Nat} {cs:List Value} (h:TV p S0 w0 t v b d m T (Star R (Star (blkA bx e cs) B)) w):Blk w bx e cs:=by
 obtain ⟨L,H,X,h1,_⟩:=h
 exact ((VV.out h1).drop.drop.drop.drop.drop).blk
theorem TV.actless {bx e:Nat} {cs:List Value} (h:TV p S0 w0 t v b d m T (Star R (Star (blkA bx e cs) B)) w):TV p S0 w0 t v b d m T (Star R B) w:=h.map fun _ _ h=>star_right h fun _ h=>star_less h
theorem TV.boxed (h:TV p S0 w0 t v b d m T (Star R B) w) (hR:Loc R) (hB:Loc B) (e:Nat) (cs:List Value):TV p S0 w0 t v b d m T (Star R (Star (blkA w.heap.size e cs) B)) (w.alloc (.cells cs.toArray e)) :=
 (VT.box h (loc_star (loc_blk _ _ _) (loc_star hR hB)) e cs).map fun _ _ h=>star_right (star_flip h) fun _ h=>star_flip h
theorem TV.doc {f:FuncId} {args:Array Value} {Q:Ending -> Prop} (h:TV p S0 w0 t v b d m T (Star (docX r m U) B) w) (hB:Loc B) {U':Tr}
 (hc:∀ Z,Loc Z -> Lv S0 w0 (Star (docX r m U) Z) w -> Calls Tryz.prog f args w fun e w'=>Q e /\ Lv S0 w0 (Star (docX r m U') Z) w') :
 Calls Tryz.prog f args w fun e w'=>Q e /\ TV p S0 w0 t v b d m T (Star (docX r m U') B) w' :=
 (TV.side (Q:=fun e R'=>Q e /\ R' = docX r m U') h hB (fun Z hZ hl=>(hc Z hZ hl).mono fun e w' ⟨hq,hl'⟩=>⟨_,⟨hq,rfl⟩,hl'⟩)).mono fun e w' ⟨R',⟨hq,hr⟩,h'⟩=>⟨hq,hr ▸ h'⟩
theorem loc_dx {bx e:Nat} {cs:List Value} (hB:Loc B):Loc (Star (docX r m U) (Star (blkA bx e cs) B)):=loc_star (loc_docX _ _ _) (loc_star (loc_blk _ _ _) hB)
theorem actT_1 {a:ActT} (h:a.kind = 1):actT m T a = T:=by unfold actT;simp [h]
theorem actT_2 {a:ActT} (h:a.kind = 2):actT m T a = (makeT m T a.from_ a.p a.n).2:=by unfold actT;simp [h]
theorem actT_3 {a:ActT} (h:a.kind = 3):actT m T a = (linkT m T a.from_ a.p a.q).2:=by unfold actT;simp [h]
theorem actT_4 {a:ActT} (h:a.kind = 4):actT m T a = (unlinkT T a.from_ a.p).2:=by unfold actT;simp [h]
theorem actT_5 {a:ActT} (h:a.kind = 5):actT m T a = T:=by unfold actT;simp [h]
theorem actT_6 {a:ActT} (h:a.kind = 6):actT m T a = T:=by unfold actT;simp [h]
theorem actT_7 {a:ActT} (h:a.kind = 7):actT m T a = (writeT m T a.n a.off a.s).2:=by unfold actT;simp [h]
theorem actT_8 {a:ActT} (h:a.kind = 8):actT m T a = (cutT T a.n).2:=by unfold actT;simp [h]
theorem actT_9 {a:ActT} (h:a.kind = 9):actT m T a = T:=by unfold actT;simp [h]
theorem actT_10 {a:ActT} (h:a.kind = 10):actT m T a = (holdT T a.n).2:=by unfold actT;simp [h]
theorem actT_11 {a:ActT} (h:a.kind = 11):actT m T a = (dropT T a.n).2:=by unfold actT;simp [h]
theorem actT_no {a:ActT} (h:¬ (1 <= a.kind /\ a.kind <= 11)):actT m T a = T:=by
 unfold actT
 rw [if_neg (by omega),if_neg (by omega),if_neg (by omega),if_neg (by omega),if_neg (by omega),if_neg (by omega),if_neg (by omega)]
theorem lpaths_calls (a:ActT) (V:TV (-1) S0 w0 t v b d m T (Star (docX r m T) B) w) (hB:Loc B) (hI:TInv T) (hk:1 <= a.kind /\ a.kind <= 4) :
 Calls Tryz.prog 80 #[.pointer (some ⟨t,0,none⟩),.pointer (some ⟨r,0,none⟩),.agg #[.int .i64 a.kind,.int .i64 a.from_,.int .i64 a.n,.int .i64 a.off,.int .i64 a.many,.string a.p,.string a.q,.string a.s,.int .u64 a.keep]] w fun e w'=>e = .returned (.bool true) /\ TV (-1) S0 w0 t v b d m (actT m T a) (Star (docX r m (actT m T a)) B) w':=by
 have hR:Loc (docX r m T):=loc_docX _ _ _
 have V1:=V.boxed hR hB tAct9 a.cells
 have HV:=hid V1
 obtain ⟨n0,hn0⟩:∃ n0,n0 = w.heap.size:=⟨_,rfl⟩
 have HN:=hid hn0
 have HBL:=hid hB
 have HB1:Hid (Loc (Star (docX r m T) (Star (blkA w.heap.size tAct9 a.cells) B))):=hid (loc_dx hB)
 have HBX:Hid (Loc (Star (blkA w.heap.size tAct9 a.cells) B)):=hid (loc_star (loc_blk _ _ _) hB)
 have HI:=hid hI
 have HPT:=hid V.parts
 have q0:=(HV.out.act).cell (j:=0) rfl
 have q1:=(HV.out.act).cell (j:=1) rfl
 have q2:=(HV.out.act).cell (j:=2) rfl
 have q3:=(HV.out.act).cell (j:=3) rfl
 have q4:=(HV.out.act).cell (j:=4) rfl
 have q5:=(HV.out.act).cell (j:=5) rfl
 have q6:=(HV.out.act).cell (j:=6) rfl
 have q7:=(HV.out.act).cell (j:=7) rfl
 have q8:=(HV.out.act).cell (j:=8) rfl
 clear V hB hR V1
 by_cases k1:a.kind = 1
 ·have t1:(a.kind == 1) = true:=by rw [beq_iff_eq];exact k1
  have HC1:=tFind_calls HV.out HB1.out HI.out a.from_ a.p
  have HR0:=fun W hW=>(show TV (-1) S0 w0 t v b d m T (Star (docX r m T) (Star (blkA w.heap.size tAct9 a.cells) B)) W from hW).doc HBX.out (fun Z hZ hl=>dFind_calls hl hZ HI.out a.from_ a.p)
  obtain ⟨x1,hx1⟩:∃ x,x = (findT T a.from_ a.p).1:=⟨_,rfl⟩
  rw [<- hx1] at HC1
  simp only [<- hx1] at HR0
  have bx1:(x1 == x1) = true:=by simp
  clear hx1
  obtain ⟨x2,hx2⟩:∃ x,x = (findT T a.from_ a.p).2:=⟨_,rfl⟩
  rw [<- hx2] at HC1
  simp only [<- hx2] at HR0
  have bx2:(x2 == x2) = true:=by simp
  clear hx2
  have HC1:=hid HC1
  have HR:=hid HR0
  clear HR0
  rw [actT_1 (by omega)]
  clear hk k1
  go_enter Tryz.func80,Tryz.ntmps80
  go_wp2_with fail
  rw [show w.alloc (.cells #[.int .i64 a.kind,.int .i64 a.from_,.int .i64 a.n,.int .i64 a.off,.int .i64 a.many,.string a.p,.string a.q,.string a.s,.int .u64 a.keep] 80) = w.alloc (.cells a.cells.toArray tAct9) from rfl]
  refine HC1.out.mono ?_
  rintro e w2 ⟨rfl,V2⟩
  have r0:=V2.act.cell (j:=0) rfl
  have r1:=V2.act.cell (j:=1) rfl
  have r2:=V2.act.cell (j:=2) rfl
  have r3:=V2.act.cell (j:=3) rfl
  have r4:=V2.act.cell (j:=4) rfl
  have r5:=V2.act.cell (j:=5) rfl
  have r6:=V2.act.cell (j:=6) rfl
  have r7:=V2.act.cell (j:=7) rfl
  have r8:=V2.act.cell (j:=8) rfl
  have HD:=hid (HR.out w2 V2)
  clear V2 HC1 q0 q1 q2 q3 q4 q5 q6 q7 q8
  go_wp2_with fail
  refine HD.out.mono ?_
  rintro e w3 ⟨rfl,V4⟩
  have HX:=hid V4.actless
  clear V4 HD
  go_wp2_with fail
  go_ret
  exact ⟨rfl,HX.out⟩
 have t1:(a.kind == 1) = false:=by rw [beq_eq_false_iff_ne];exact k1
 by_cases k2:a.kind = 2
 ·have t2:(a.kind == 2) = true:=by rw [beq_iff_eq];exact k2
  have HC1:=(tMake_calls HV.out HB1.out HI.out a.from_ a.n a.p).mono fun e w' h=>h.live
  have HR0:=fun W hW=>(show TV (-1) S0 w0 t v b d m (makeT m T a.from_ a.p a.n).2 (Star (docX r m T) (Star (blkA w.heap.size tAct9 a.cells) B)) W from hW).doc HBX.out (fun Z hZ hl=>dmake_calls hl hZ HI.out HPT.out.2.1 a.from_ a.n a.p)
  obtain ⟨x1,hx1⟩:∃ x,x = makeN m T a.from_ a.p a.n:=⟨_,rfl⟩
  rw [<- hx1] at HC1
  simp only [<- hx1] at HR0
  have bx1:(x1 == x1) = true:=by simp
  clear hx1
  obtain ⟨x2,hx2⟩:∃ x,x = (makeT m T a.from_ a.p a.n).1:=⟨_,rfl⟩
  rw [<- hx2] at HC1
  simp only [<- hx2] at HR0
  have bx2:(x2 == x2) = true:=by simp
  clear hx2
  have HC1:=hid HC1
  have HR:=hid HR0
  clear HR0
  rw [actT_2 (by omega)]
  clear hk k2
  go_enter Tryz.func80,Tryz.ntmps80
  go_wp2_with fail
  rw [show w.alloc (.cells #[.int .i64 a.kind,.int .i64 a.from_,.int .i64 a.n,.int .i64 a.off,.int .i64 a.many,.string a.p,.string a.q,.string a.s,.int .u64 a.keep] 80) = w.alloc (.cells a.cells.toArray tAct9) from rfl]
  refine HC1.out.mono ?_
  rintro e w2 ⟨rfl,V2⟩
  have r0:=V2.act.cell (j:=0) rfl
  have r1:=V2.act.cell (j:=1) rfl
  have r2:=V2.act.cell (j:=2) rfl
  have r3:=V2.act.cell (j:=3) rfl
  have r4:=V2.act.cell (j:=4) rfl
  have r5:=V2.act.cell (j:=5) rfl
  have r6:=V2.act.cell (j:=6) rfl
  have r7:=V2.act.cell (j:=7) rfl
  have r8:=V2.act.cell (j:=8) rfl
  have HD:=hid (HR.out w2 V2)
  clear V2 HC1 q0 q1 q2 q3 q4 q5 q6 q7 q8
  go_wp2_with fail
  refine HD.out.mono ?_
  rintro e w3 ⟨rfl,V4⟩
  have HX:=hid V4.actless
  clear V4 HD
  go_wp2_with fail
  go_ret
  exact ⟨rfl,HX.out⟩
 have t2:(a.kind == 2) = false:=by rw [beq_eq_false_iff_ne];exact k2
 by_cases k3:a.kind = 3
 ·have t3:(a.kind == 3) = true:=by rw [beq_iff_eq];exact k3
  have HC1:=(tLink_calls HV.out HB1.out HI.out a.from_ a.p a.q).mono fun e w' h=>h.live
  have HR0:=fun W hW=>(show TV (-1) S0 w0 t v b d m (linkT m T a.from_ a.p a.q).2 (Star (docX r m T) (Star (blkA w.heap.size tAct9 a.cells) B)) W from hW).doc HBX.out (fun Z hZ hl=>dlink_calls hl hZ HI.out HPT.out.2.1 a.from_ a.p a.q)
  obtain ⟨x2,hx2⟩:∃ x,x = (linkT m T a.from_ a.p a.q).1:=⟨_,rfl⟩
  rw [<- hx2] at HC1
  simp only [<- hx2] at HR0
  have bx2:(x2 == x2) = true:=by simp
  clear hx2
  have HC1:=hid HC1
  have HR:=hid HR0
  clear HR0
  rw [actT_3 (by omega)]
  clear hk k3
  go_enter Tryz.func80,Tryz.ntmps80
  go_wp2_with fail
  rw [show w.alloc (.cells #[.int .i64 a.kind,.int .i64 a.from_,.int .i64 a.n,.int .i64 a.off,.int .i64 a.many,.string a.p,.string a.q,.string a.s,.int .u64 a.keep] 80) = w.alloc (.cells a.cells.toArray tAct9) from rfl]
  refine HC1.out.mono ?_
  rintro e w2 ⟨rfl,V2⟩
  have r0:=V2.act.cell (j:=0) rfl
  have r1:=V2.act.cell (j:=1) rfl
  have r2:=V2.act.cell (j:=2) rfl
  have r3:=V2.act.cell (j:=3) rfl
  have r4:=V2.act.cell (j:=4) rfl
  have r5:=V2.act.cell (j:=5) rfl
  have r6:=V2.act.cell (j:=6) rfl
  have r7:=V2.act.cell (j:=7) rfl
  have r8:=V2.act.cell (j:=8) rfl
  have HD:=hid (HR.out w2 V2)
  clear V2 HC1 q0 q1 q2 q3 q4 q5 q6 q7 q8
  go_wp2_with fail
  refine HD.out.mono ?_
  rintro e w3 ⟨rfl,V4⟩
  have HX:=hid V4.actless
  clear V4 HD
  go_wp2_with fail
  go_ret
  exact ⟨rfl,HX.out⟩
 have t3:(a.kind == 3) = false:=by rw [beq_eq_false_iff_ne];exact k3
 have HC1:=(tUnlink_calls HV.out HB1.out HI.out a.from_ a.p).mono fun e w' h=>h.live
 have HR0:=fun W hW=>(show TV (-1) S0 w0 t v b d m (unlinkT T a.from_ a.p).2 (Star (docX r m T) (Star (blkA w.heap.size tAct9 a.cells) B)) W from hW).doc HBX.out (fun Z hZ hl=>dunlink_calls hl hZ HI.out a.from_ a.p)
 obtain ⟨x2,hx2⟩:∃ x,x = (unlinkT T a.from_ a.p).1:=⟨_,rfl⟩
 rw [<- hx2] at HC1
 simp only [<- hx2] at HR0
 have bx2:(x2 == x2) = true:=by simp
 clear hx2
 have HC1:=hid HC1
 have HR:=hid HR0
 clear HR0
 rw [actT_4 (by omega)]
 clear hk
 go_enter Tryz.func80,Tryz.ntmps80
 go_wp2_with fail
 rw [show w.alloc (.cells #[.int .i64 a.kind,.int .i64 a.from_,.int .i64 a.n,.int .i64 a.off,.int .i64 a.many,.string a.p,.string a.q,.string a.s,.int .u64 a.keep] 80) = w.alloc (.cells a.cells.toArray tAct9) from rfl]
 refine HC1.out.mono ?_
 rintro e w2 ⟨rfl,V2⟩
 have r0:=V2.act.cell (j:=0) rfl
 have r1:=V2.act.cell (j:=1) rfl
 have r2:=V2.act.cell (j:=2) rfl
 have r3:=V2.act.cell (j:=3) rfl
 have r4:=V2.act.cell (j:=4) rfl
 have r5:=V2.act.cell (j:=5) rfl
 have r6:=V2.act.cell (j:=6) rfl
 have r7:=V2.act.cell (j:=7) rfl
 have r8:=V2.act.cell (j:=8) rfl
 have HD:=hid (HR.out w2 V2)
 clear V2 HC1 q0 q1 q2 q3 q4 q5 q6 q7 q8
 go_wp2_with fail
 refine HD.out.mono ?_
 rintro e w3 ⟨rfl,V4⟩
 have HX:=hid V4.actless
 clear V4 HD
 go_wp2_with fail
 go_ret
 exact ⟨rfl,HX.out⟩
end
theorem list_len {T:Tr} (hI:TInv T) (n:Int):(listT T n).length <= 148:=by
 by_cases h:listE T n = 0
 ·have hl:listT T n = nmL (T n.toNat).slots:=by unfold listT;rw [if_neg (by rw [h];decide)];rfl
  have hf:tfindE T n = 0:=by
   unfold listE at h
   split at h
   ·next h1=>exact absurd h h1
   ·next h1=>exact Classical.not_not.1 h1
  obtain ⟨a,b,_⟩:=tfind_iff.1 hf
  rw [hl]
  have h1:=nmL_len (T n.toNat).slots
  have h2:=hI.docok.len n.toNat (by omega)
  omega
 ·rw [show listT T n = [] from if_pos h];decide
section
variable {S0:Nat -> Prop} {w0 w w':World} {t v b d m c r:Nat} {p:Int} {A A0:Nat -> Node} {T U:Tr} {B R R':Asr}
theorem TV.second {u:Value} {n:Nat} {xs:List Value} {e sz:Nat} (h:TV p S0 w0 t v b d m T (Star (Star (rowA e sz u n xs) R) B) w):w.ownsRow 0 e sz u n xs:=by
 obtain ⟨L,H,X,h1,_⟩:=h
 obtain ⟨S,hS⟩:=((VV.out h1).drop.drop.drop.drop.assoc).first
 exact hS.1
theorem TV.third {u:Value} {n:Nat} {xs:List Value} {e sz:Nat} (h:TV p S0 w0 t v b d m T (Star R (Star (rowA e sz u n xs) B)) w):w.ownsRow 0 e sz u n xs:=by
 obtain ⟨L,H,X,h1,_⟩:=h
 obtain ⟨S,hS⟩:=((VV.out h1).drop.drop.drop.drop.drop).first
 exact hS.1
theorem linodes_calls (a:ActT) (V:TV (-1) S0 w0 t v b d m T (Star (docX r m T) B) w) (hB:Loc B) (hI:TInv T) (hH:∀ k,k < 32 -> (T k).held < 4611686018427387904) (hk:5 <= a.kind /\ a.kind <= 11) :
 Calls Tryz.prog 81 #[.pointer (some ⟨t,0,none⟩),.pointer (some ⟨r,0,none⟩),.agg #[.int .i64 a.kind,.int .i64 a.from_,.int .i64 a.n,.int .i64 a.off,.int .i64 a.many,.string a.p,.string a.q,.string a.s,.int .u64 a.keep]] w fun e w'=>e = .returned (.bool true) /\ TV (-1) S0 w0 t v b d m (actT m T a) (Star (docX r m (actT m T a)) B) w':=by
 have hR:Loc (docX r m T):=loc_docX _ _ _
 have V1:=V.boxed hR hB tAct9 a.cells
 have HV:=hid V1
 obtain ⟨n0,hn0⟩:∃ n0,n0 = w.heap.size:=⟨_,rfl⟩
 have HN:=hid hn0
 have HBL:=hid hB
 have HB1:Hid (Loc (Star (docX r m T) (Star (blkA w.heap.size tAct9 a.cells) B))):=hid (loc_dx hB)
 have HBX:Hid (Loc (Star (blkA w.heap.size tAct9 a.cells) B)):=hid (loc_star (loc_blk _ _ _) hB)
 have HI:=hid hI
 have HPT:=hid V.parts
 have HH:=hid hH
 have q0:=(HV.out.act).cell (j:=0) rfl
 have q1:=(HV.out.act).cell (j:=1) rfl
 have q2:=(HV.out.act).cell (j:=2) rfl
 have q3:=(HV.out.act).cell (j:=3) rfl
 have q4:=(HV.out.act).cell (j:=4) rfl
 have q5:=(HV.out.act).cell (j:=5) rfl
 have q6:=(HV.out.act).cell (j:=6) rfl
 have q7:=(HV.out.act).cell (j:=7) rfl
 have q8:=(HV.out.act).cell (j:=8) rfl
 clear V hB hR V1 hH
 by_cases k5:a.kind = 5
 ·have t5:(a.kind == 5) = true:=by rw [beq_iff_eq];exact k5
  obtain ⟨x0,x1,x2,hx,_⟩:=astat_is (volT T) a.n
  have HC1:=tstat_calls HV.out HB1.out a.n
  have HR0:=fun W (B':Asr) (hB':Loc B') (hW:TV (-1) S0 w0 t v b d m T (Star (docX r m T) B') W)=>TV.doc hW hB' (fun Z hZ hl=>dstat_calls hl hZ HI.out.docok a.n)
  rw [hx] at HC1
  simp only [hx] at HR0
  obtain ⟨y2,hy2⟩:∃ x,x = afindE (volT T) a.n:=⟨_,rfl⟩
  rw [<- hy2] at HC1
  simp only [<- hy2] at HR0
  have by2:(y2 == y2) = true:=by simp
  have bx0:(x0 == x0) = true:=by simp
  have bx1:(x1 == x1) = true:=by simp
  have bx2:(x2 == x2) = true:=by simp
  have HC1:=hid HC1
  have HR:=hid HR0
  rw [actT_5 (by omega)]
  clear HR0 hy2 hx hk k5
  go_enter Tryz.func81,Tryz.ntmps81
  go_wp2_with fail
  rw [show w.alloc (.cells #[.int .i64 a.kind,.int .i64 a.from_,.int .i64 a.n,.int .i64 a.off,.int .i64 a.many,.string a.p,.string a.q,.string a.s,.int .u64 a.keep] 80) = w.alloc (.cells a.cells.toArray tAct9) from rfl]
  refine HC1.out.mono ?_
  rintro e w2 ⟨rfl,V2⟩
  have V2:TV (-1) S0 w0 t v b d m T (Star (docX r m T) (Star (blkA w.heap.size tAct9 a.cells) B)) w2:=V2
  have r0:=(TV.act V2).cell (j:=0) rfl
  have r1:=(TV.act V2).cell (j:=1) rfl
  have r2:=(TV.act V2).cell (j:=2) rfl
  have r3:=(TV.act V2).cell (j:=3) rfl
  have r4:=(TV.act V2).cell (j:=4) rfl
  have r5:=(TV.act V2).cell (j:=5) rfl
  have r6:=(TV.act V2).cell (j:=6) rfl
  have r7:=(TV.act V2).cell (j:=7) rfl
  have r8:=(TV.act V2).cell (j:=8) rfl
  have s2:=((TV.act V2).alloc (.cells #[.int .i64 x0,.int .i64 x1,.int .i64 x2] 30)).cell (j:=2) rfl
  have V3:=TV.boxed V2 (loc_docX _ _ _) HBX.out tStat9 [.int .i64 x0,.int .i64 x1,.int .i64 x2]
  obtain ⟨bs,hbs⟩:∃ bs,bs = w2.heap.size:=⟨_,rfl⟩
  have hD:=HR.out _ (Star (blkA w2.heap.size tStat9 [.int .i64 x0,.int .i64 x1,.int .i64 x2]) (Star (blkA w.heap.size tAct9 a.cells) B)) (loc_star (loc_blk _ _ _) HBX.out) V3
  rw [<- hbs] at hD
  have HD:=hid hD
  have HBS:=hid hbs
  clear V2 V3 HC1 q0 q1 q2 q3 q4 q5 q6 q7 q8 hD hbs
  go_wp2_with fail
  rw [<- HBS.out]
  refine HD.out.mono ?_
  rintro e w3 ⟨rfl,V4⟩
  have z0:=(TV.act V4).cell (j:=0) rfl
  have z1:=(TV.act V4).cell (j:=1) rfl
  have z2:=(TV.act V4).cell (j:=2) rfl
  have y0:=((TV.act V4).alloc (.cells #[.int .i64 x0,.int .i64 x1,.int .i64 x2] 30)).cell (j:=0) rfl
  have y1:=((TV.act V4).alloc (.cells #[.int .i64 x0,.int .i64 x1,.int .i64 x2] 30)).cell (j:=1) rfl
  have y2':=((TV.act V4).alloc (.cells #[.int .i64 x0,.int .i64 x1,.int .i64 x2] 30)).cell (j:=2) rfl
  have V5:=VT.keep (TV.actless (TV.actless V4)) (loc_star (loc_blk _ _ _) (loc_star (loc_docX _ _ _) HBL.out)) ((Fr.refl _ _).alloc (.cells #[.int .i64 x0,.int .i64 x1,.int .i64 x2] 30))
  have HX:=hid V5
  clear V4 V5 HD
  go_wp2_with fail
  go_ret
  exact ⟨by first | rfl | simp,HX.out⟩
 have t5:(a.kind == 5) = false:=by rw [beq_eq_false_iff_ne];exact k5
 by_cases k6:a.kind = 6
 ·have t6:(a.kind == 6) = true:=by rw [beq_iff_eq];exact k6
  have HC1:=tread_calls HV.out HB1.out a.n a.off a.many
  have HR0:=fun W hW=>(show TV (-1) S0 w0 t v b d m T (Star (docX r m T) (Star (blkA w.heap.size tAct9 a.cells) B)) W from hW).doc HBX.out (fun Z hZ hl=>dtread_calls hl hZ HI.out.docok a.n a.off a.many)
  obtain ⟨x1,hx1⟩:∃ x,x = areadB (volT T) a.n a.off a.many:=⟨_,rfl⟩
  rw [<- hx1] at HC1
  simp only [<- hx1] at HR0
  have bx1:(x1.toList == x1.toList) = true:=by simp
  clear hx1
  obtain ⟨x2,hx2⟩:∃ x,x = areadE (volT T) a.n a.off a.many:=⟨_,rfl⟩
  rw [<- hx2] at HC1
  simp only [<- hx2] at HR0
  have bx2:(x2 == x2) = true:=by simp
  clear hx2
  have HC1:=hid HC1
  have HR:=hid HR0
  clear HR0
  rw [actT_6 (by omega)]
  clear hk k6
  go_enter Tryz.func81,Tryz.ntmps81
  go_wp2_with fail
  rw [show w.alloc (.cells #[.int .i64 a.kind,.int .i64 a.from_,.int .i64 a.n,.int .i64 a.off,.int .i64 a.many,.string a.p,.string a.q,.string a.s,.int .u64 a.keep] 80) = w.alloc (.cells a.cells.toArray tAct9) from rfl]
  refine HC1.out.mono ?_
  rintro e w2 ⟨rfl,V2⟩
  have r0:=(TV.act V2).cell (j:=0) rfl
  have r1:=(TV.act V2).cell (j:=1) rfl
  have r2:=(TV.act V2).cell (j:=2) rfl
  have r3:=(TV.act V2).cell (j:=3) rfl
  have r4:=(TV.act V2).cell (j:=4) rfl
  have r5:=(TV.act V2).cell (j:=5) rfl
  have r6:=(TV.act V2).cell (j:=6) rfl
  have r7:=(TV.act V2).cell (j:=7) rfl
  have r8:=(TV.act V2).cell (j:=8) rfl
  have HD:=hid (HR.out w2 V2)
  clear V2 HC1 q0 q1 q2 q3 q4 q5 q6 q7 q8
  go_wp2_with fail
  refine HD.out.mono ?_
  rintro e w3 ⟨rfl,V4⟩
  have HX:=hid V4.actless
  clear V4 HD
  go_wp2_with fail
  go_ret
  exact ⟨rfl,HX.out⟩
 have t6:(a.kind == 6) = false:=by rw [beq_eq_false_iff_ne];exact k6
 by_cases k7:a.kind = 7
 ·have t7:(a.kind == 7) = true:=by rw [beq_iff_eq];exact k7
  have HC1:=(twrite_calls HV.out HI.out HB1.out a.n a.off a.s).mono fun e w' h=>h.live
  have HR0:=fun W hW=>(show TV (-1) S0 w0 t v b d m (writeT m T a.n a.off a.s).2 (Star (docX r m T) (Star (blkA w.heap.size tAct9 a.cells) B)) W from hW).doc HBX.out (fun Z hZ hl=>dwrite_calls hl hZ HI.out HPT.out.1 HPT.out.2.1 HPT.out.2.2 a.n a.off a.s)
  obtain ⟨x2,hx2⟩:∃ x,x = (writeT m T a.n a.off a.s).1:=⟨_,rfl⟩
  rw [<- hx2] at HC1
  simp only [<- hx2] at HR0
  have bx2:(x2 == x2) = true:=by simp
  clear hx2
  have HC1:=hid HC1
  have HR:=hid HR0
  clear HR0
  rw [actT_7 (by omega)]
  clear hk k7
  go_enter Tryz.func81,Tryz.ntmps81
  go_wp2_with fail
  rw [show w.alloc (.cells #[.int .i64 a.kind,.int .i64 a.from_,.int .i64 a.n,.int .i64 a.off,.int .i64 a.many,.string a.p,.string a.q,.string a.s,.int .u64 a.keep] 80) = w.alloc (.cells a.cells.toArray tAct9) from rfl]
  refine HC1.out.mono ?_
  rintro e w2 ⟨rfl,V2⟩
  have r0:=(TV.act V2).cell (j:=0) rfl
  have r1:=(TV.act V2).cell (j:=1) rfl
  have r2:=(TV.act V2).cell (j:=2) rfl
  have r3:=(TV.act V2).cell (j:=3) rfl
  have r4:=(TV.act V2).cell (j:=4) rfl
  have r5:=(TV.act V2).cell (j:=5) rfl
  have r6:=(TV.act V2).cell (j:=6) rfl
  have r7:=(TV.act V2).cell (j:=7) rfl
  have r8:=(TV.act V2).cell (j:=8) rfl
  have HD:=hid (HR.out w2 V2)
  clear V2 HC1 q0 q1 q2 q3 q4 q5 q6 q7 q8
  go_wp2_with fail
  refine HD.out.mono ?_
  rintro e w3 ⟨rfl,V4⟩
  have HX:=hid V4.actless
  clear V4 HD
  go_wp2_with fail
  go_ret
  exact ⟨rfl,HX.out⟩
 have t7:(a.kind == 7) = false:=by rw [beq_eq_false_iff_ne];exact k7
 by_cases k8:a.kind = 8
 ·have t8:(a.kind == 8) = true:=by rw [beq_iff_eq];exact k8
  have HC1:=(tcut_calls HV.out HI.out HB1.out a.n).mono fun e w' h=>h.live
  have HR0:=fun W hW=>(show TV (-1) S0 w0 t v b d m (cutT T a.n).2 (Star (docX r m T) (Star (blkA w.heap.size tAct9 a.cells) B)) W from hW).doc HBX.out (fun Z hZ hl=>dcut_calls hl hZ a.n)
  obtain ⟨x2,hx2⟩:∃ x,x = (cutT T a.n).1:=⟨_,rfl⟩
  rw [<- hx2] at HC1
  simp only [<- hx2] at HR0
  have bx2:(x2 == x2) = true:=by simp
  clear hx2
  have HC1:=hid HC1
  have HR:=hid HR0
  clear HR0
  rw [actT_8 (by omega)]
  clear hk k8
  go_enter Tryz.func81,Tryz.ntmps81
  go_wp2_with fail
  rw [show w.alloc (.cells #[.int .i64 a.kind,.int .i64 a.from_,.int .i64 a.n,.int .i64 a.off,.int .i64 a.many,.string a.p,.string a.q,.string a.s,.int .u64 a.keep] 80) = w.alloc (.cells a.cells.toArray tAct9) from rfl]
  refine HC1.out.mono ?_
  rintro e w2 ⟨rfl,V2⟩
  have r0:=(TV.act V2).cell (j:=0) rfl
  have r1:=(TV.act V2).cell (j:=1) rfl
  have r2:=(TV.act V2).cell (j:=2) rfl
  have r3:=(TV.act V2).cell (j:=3) rfl
  have r4:=(TV.act V2).cell (j:=4) rfl
  have r5:=(TV.act V2).cell (j:=5) rfl
  have r6:=(TV.act V2).cell (j:=6) rfl
  have r7:=(TV.act V2).cell (j:=7) rfl
  have r8:=(TV.act V2).cell (j:=8) rfl
  have HD:=hid (HR.out w2 V2)
  clear V2 HC1 q0 q1 q2 q3 q4 q5 q6 q7 q8
  go_wp2_with fail
  refine HD.out.mono ?_
  rintro e w3 ⟨rfl,V4⟩
  have HX:=hid V4.actless
  clear V4 HD
  go_wp2_with fail
  go_ret
  exact ⟨rfl,HX.out⟩
 have t8:(a.kind == 8) = false:=by rw [beq_eq_false_iff_ne];exact k8
 by_cases k9:a.kind = 9
 ·have t9:(a.kind == 9) = true:=by rw [beq_iff_eq];exact k9
  have HC1:=tlist_calls HV.out HB1.out HI.out a.n
  obtain ⟨y2,hy2⟩:∃ x,x = listE T a.n:=⟨_,rfl⟩
  obtain ⟨ls,hls⟩:∃ x,x = listT T a.n:=⟨_,rfl⟩
  rw [<- hy2,<- hls] at HC1
  have hln:ls.length <= 148:=by rw [hls];exact list_len HI.out a.n
  have HR0:∀ W (B':Asr),Loc B' -> TV (-1) S0 w0 t v b d m T (Star (docX r m T) B') W -> Calls Tryz.prog 146 #[.pointer (some ⟨r,0,none⟩),.int .i64 a.n] W fun e w'=>∃ u,e = .returned (.tuple #[u,.int .i64 y2]) /\ TV (-1) S0 w0 t v b d m T (Star (Star (rowA tStr 1 u ls.length (strsT ls)) (docX r m T)) B') w':=fun W B' hB' hW=>by
   rw [hy2,hls]
   exact (TV.side (Q:=fun e R'=>∃ u,e = .returned (.tuple #[u,.int .i64 (listE T a.n)]) /\ R' = Star (rowA tStr 1 u (listT T a.n).length (strsT (listT T a.n))) (docX r m T)) hW hB' (fun Z hZ hl=>(dlist_calls hl hZ HI.out.docok a.n).mono fun e w' ⟨u,he,h⟩=>⟨_,⟨u,he,rfl⟩,h.assoc'⟩)).mono fun e w' ⟨R',⟨u,he,hr⟩,h⟩=>⟨u,he,hr ▸ h⟩
  have by2:(y2 == y2) = true:=by simp
  have HC1:=hid HC1
  have HR:=hid HR0
  have HLN:=hid hln
  rw [actT_9 (by omega)]
  clear HR0 hy2 hls hk k9 hln
  go_enter Tryz.func81,Tryz.ntmps81
  go_wp2_with fail
  rw [show w.alloc (.cells #[.int .i64 a.kind,.int .i64 a.from_,.int .i64 a.n,.int .i64 a.off,.int .i64 a.many,.string a.p,.string a.q,.string a.s,.int .u64 a.keep] 80) = w.alloc (.cells a.cells.toArray tAct9) from rfl]
  refine HC1.out.mono ?_
  rintro e w2 ⟨u,rfl,V2⟩
  have V2':TV (-1) S0 w0 t v b d m T (Star (docX r m T) (Star (rowA tStr 1 u ls.length (strsT ls)) (Star (blkA w.heap.size tAct9 a.cells) B))) w2:=VT.map V2 fun _ _ h=>star_right h fun _ h=>star_flip h
  have hb:=TV.act (R:=docX r m T) (VT.map V2' fun _ _ h=>star_right h fun _ h=>star_less h)
  have r2:=hb.cell (j:=2) rfl
  have r0:=hb.cell (j:=0) rfl
  have HD:=hid (HR.out w2 (Star (rowA tStr 1 u ls.length (strsT ls)) (Star (blkA w.heap.size tAct9 a.cells) B)) (loc_star (loc_row _ _ _ _ _) HBX.out) V2')
  clear V2 V2' HC1 q0 q1 q2 q3 q4 q5 q6 q7 q8 hb
  go_wp2_with fail
  refine HD.out.mono ?_
  rintro e w3 ⟨u2,rfl,V4⟩
  have hr1:w3.ownsRow 0 tStr 1 u2 ls.length (strs ls):=TV.second V4
  have hr2:w3.ownsRow 0 tStr 1 u ls.length (strs ls):=TV.third V4
  obtain ⟨a1,c1,rfl⟩:=row_any hr1
  obtain ⟨a2,c2,rfl⟩:=row_any hr2
  have hsm:=same_n (l:=ls) (k:=ls) rfl rfl (by have:=HLN.out;omega) hr2 hr1
  rw [decide_eq_true rfl] at hsm
  have HS:=hid hsm
  have V5:TV (-1) S0 w0 t v b d m T (Star (docX r m T) B) w3:=VT.map V4 fun _ _ h=>star_less (star_right h fun _ h=>star_assoc (star_less (star_less h)))
  have HX:=hid V5
  clear V4 V5 hr1 hr2 hsm HD
  go_wp2_with fail
  refine HS.out.mono ?_
  rintro e w4 ⟨rfl,hf4⟩
  have HF:=hid (VT.keep HX.out (loc_star (loc_blk _ _ _) (loc_star (loc_docX _ _ _) HBL.out)) hf4)
  clear hf4
  go_wp2_with fail
  go_ret
  exact ⟨rfl,HF.out⟩
 have t9:(a.kind == 9) = false:=by rw [beq_eq_false_iff_ne];exact k9
 by_cases k10:a.kind = 10
 ·have t10:(a.kind == 10) = true:=by rw [beq_iff_eq];exact k10
  have HC1:=thold_calls HV.out HB1.out HH.out a.n
  have HR0:=fun W hW=>(show TV (-1) S0 w0 t v b d m (holdT T a.n).2 (Star (docX r m T) (Star (blkA w.heap.size tAct9 a.cells) B)) W from hW).doc HBX.out (fun Z hZ hl=>dhold_calls hl hZ HH.out a.n)
  obtain ⟨x2,hx2⟩:∃ x,x = (holdT T a.n).1:=⟨_,rfl⟩
  rw [<- hx2] at HC1
  simp only [<- hx2] at HR0
  have bx2:(x2 == x2) = true:=by simp
  clear hx2
  have HC1:=hid HC1
  have HR:=hid HR0
  clear HR0
  rw [actT_10 (by omega)]
  clear hk k10
  go_enter Tryz.func81,Tryz.ntmps81
  go_wp2_with fail
  rw [show w.alloc (.cells #[.int .i64 a.kind,.int .i64 a.from_,.int .i64 a.n,.int .i64 a.off,.int .i64 a.many,.string a.p,.string a.q,.string a.s,.int .u64 a.keep] 80) = w.alloc (.cells a.cells.toArray tAct9) from rfl]
  refine HC1.out.mono ?_
  rintro e w2 ⟨rfl,V2⟩
  have r0:=(TV.act V2).cell (j:=0) rfl
  have r1:=(TV.act V2).cell (j:=1) rfl
  have r2:=(TV.act V2).cell (j:=2) rfl
  have r3:=(TV.act V2).cell (j:=3) rfl
  have r4:=(TV.act V2).cell (j:=4) rfl
  have r5:=(TV.act V2).cell (j:=5) rfl
  have r6:=(TV.act V2).cell (j:=6) rfl
  have r7:=(TV.act V2).cell (j:=7) rfl
  have r8:=(TV.act V2).cell (j:=8) rfl
  have HD:=hid (HR.out w2 V2)
  clear V2 HC1 q0 q1 q2 q3 q4 q5 q6 q7 q8
  go_wp2_with fail
  refine HD.out.mono ?_
  rintro e w3 ⟨rfl,V4⟩
  have HX:=hid V4.actless
  clear V4 HD
  go_wp2_with fail
  go_ret
  exact ⟨rfl,HX.out⟩
 have t10:(a.kind == 10) = false:=by rw [beq_eq_false_iff_ne];exact k10
 have HC1:=(tdrop_calls HV.out HI.out HB1.out HH.out a.n).mono fun e w' h=>h.live
 have HR0:=fun W hW=>(show TV (-1) S0 w0 t v b d m (dropT T a.n).2 (Star (docX r m T) (Star (blkA w.heap.size tAct9 a.cells) B)) W from hW).doc HBX.out (fun Z hZ hl=>ddrop_calls hl hZ HH.out a.n)
 obtain ⟨x2,hx2⟩:∃ x,x = (dropT T a.n).1:=⟨_,rfl⟩
 rw [<- hx2] at HC1
 simp only [<- hx2] at HR0
 have bx2:(x2 == x2) = true:=by simp
 clear hx2
 have HC1:=hid HC1
 have HR:=hid HR0
 clear HR0
 rw [actT_11 (by omega)]
 clear hk
 go_enter Tryz.func81,Tryz.ntmps81
 go_wp2_with fail
 rw [show w.alloc (.cells #[.int .i64 a.kind,.int .i64 a.from_,.int .i64 a.n,.int .i64 a.off,.int .i64 a.many,.string a.p,.string a.q,.string a.s,.int .u64 a.keep] 80) = w.alloc (.cells a.cells.toArray tAct9) from rfl]
 refine HC1.out.mono ?_
 rintro e w2 ⟨rfl,V2⟩
 have r0:=(TV.act V2).cell (j:=0) rfl
 have r1:=(TV.act V2).cell (j:=1) rfl
 have r2:=(TV.act V2).cell (j:=2) rfl
 have r3:=(TV.act V2).cell (j:=3) rfl
 have r4:=(TV.act V2).cell (j:=4) rfl
 have r5:=(TV.act V2).cell (j:=5) rfl
 have r6:=(TV.act V2).cell (j:=6) rfl
 have r7:=(TV.act V2).cell (j:=7) rfl
 have r8:=(TV.act V2).cell (j:=8) rfl
 have HD:=hid (HR.out w2 V2)
 clear V2 HC1 q0 q1 q2 q3 q4 q5 q6 q7 q8
 go_wp2_with fail
 refine HD.out.mono ?_
 rintro e w3 ⟨rfl,V4⟩
 have HX:=hid V4.actless
 clear V4 HD
 go_wp2_with fail
 go_ret
 exact ⟨rfl,HX.out⟩
theorem ldoes_calls (a:ActT) (V:TV (-1) S0 w0 t v b d m T (Star (docX r m T) B) w) (hB:Loc B) (hI:TInv T) (hH:∀ k,k < 32 -> (T k).held < 4611686018427387904) :
 Calls Tryz.prog 39 #[.pointer (some ⟨t,0,none⟩),.pointer (some ⟨r,0,none⟩),.agg #[.int .i64 a.kind,.int .i64 a.from_,.int .i64 a.n,.int .i64 a.off,.int .i64 a.many,.string a.p,.string a.q,.string a.s,.int .u64 a.keep]] w fun e w'=>e = .returned (.bool true) /\ TV (-1) S0 w0 t v b d m (actT m T a) (Star (docX r m (actT m T a)) B) w':=by
 have hR:Loc (docX r m T):=loc_docX _ _ _
 have V1:=V.boxed hR hB tAct9 a.cells
 have hBX:Loc (Star (blkA w.heap.size tAct9 a.cells) B):=loc_star (loc_blk _ _ _) hB
 have HX:=hid V1.actless
 have HBX:=hid hBX
 have HPA:=hid (fun h=>lpaths_calls a V1 hBX hI h)
 have HIN:=hid (fun h=>linodes_calls a V1 hBX hI hH h)
 clear V hB hR V1 hI hH hBX
 by_cases k1:1 <= a.kind
 ·by_cases k4:a.kind <= 4
  ·have HC:=hid (HPA.out ⟨k1,k4⟩)
   go_enter Tryz.func39,Tryz.ntmps39
   go_wp2_with fail
   rw [show w.alloc (.cells #[.int .i64 a.kind,.int .i64 a.from_,.int .i64 a.n,.int .i64 a.off,.int .i64 a.many,.string a.p,.string a.q,.string a.s,.int .u64 a.keep] 80) = w.alloc (.cells a.cells.toArray tAct9) from rfl]
   refine HC.out.mono ?_
   rintro e w2 ⟨rfl,V2⟩
   have HX2:=hid V2.actless
   clear V2 HC
   go_wp2_with fail
   go_ret
   exact ⟨rfl,HX2.out⟩
  ·have k5:5 <= a.kind:=by omega
   by_cases k11:a.kind <= 11
   ·have HC:=hid (HIN.out ⟨k5,k11⟩)
    go_enter Tryz.func39,Tryz.ntmps39
    go_wp2_with fail
    rw [show w.alloc (.cells #[.int .i64 a.kind,.int .i64 a.from_,.int .i64 a.n,.int .i64 a.off,.int .i64 a.many,.string a.p,.string a.q,.string a.s,.int .u64 a.keep] 80) = w.alloc (.cells a.cells.toArray tAct9) from rfl]
    refine HC.out.mono ?_
    rintro e w2 ⟨rfl,V2⟩
    have HX2:=hid V2.actless
    clear V2 HC
    go_wp2_with fail
    go_ret
    exact ⟨rfl,HX2.out⟩
   ·rw [actT_no (by omega)]
    go_enter Tryz.func39,Tryz.ntmps39
    go_wp2_with fail
    go_ret
    exact ⟨rfl,HX.out⟩
 ·have k5:¬ 5 <= a.kind:=by omega
  rw [actT_no (by omega)]
  go_enter Tryz.func39,Tryz.ntmps39
  go_wp2_with fail
  go_ret
  exact ⟨rfl,HX.out⟩
end
end Go.Proofs.YtngalllaiphkhaaGreatDoor
