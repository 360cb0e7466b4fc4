import Derived.Test.YtngalllaiphkhaaGreatDoorZTI
import Derived.Test.YtngalllaiphkhaaGreatDoorZRB
namespace Go.Proofs.YtngalllaiphkhaaGreatDoor
open Go.RowKit
open Go.Lib (hid)
set_option maxRecDepth 100000
set_option maxHeartbeats 16000000
set_option linter.unusedVariables false
set_option linter.unusedSimpArgs false
def entryI (x:TN) (s:ByteArray):Int:=match entryT x s with | some k=>(k:Int) | none=>-1
theorem entry_found {x:TN} {s:ByteArray} {i:Nat} {o:SlotT} (h:∀ j,j < i -> ∀ o,x.slots[j]? = some o -> nameIs s o = false) (ho:x.slots[i]? = some o) (hn:nameIs s o = true):entryI x s = i:=by
 have hi:=(List.getElem?_eq_some_iff.1 ho).1
 have:entryT x s = some i:=by
  unfold entryT
  rw [List.findIdx?_eq_some_iff_getElem]
  refine ⟨hi,?_,fun j hj=>?_⟩
  ·rw [(List.getElem?_eq_some_iff.1 ho).2];exact hn
  ·have:=h j hj _ (List.getElem?_eq_getElem (by omega))
   rw [this];decide
 unfold entryI
 rw [this]
theorem entry_not {x:TN} {s:ByteArray} (h:∀ j,j < x.slots.length -> ∀ o,x.slots[j]? = some o -> nameIs s o = false):entryI x s = -1:=by
 have:entryT x s = none:=by
  unfold entryT
  rw [List.findIdx?_eq_none_iff]
  intro o ho
  obtain ⟨j,hj,rfl⟩:=List.mem_iff_getElem.1 ho
  exact h j hj _ (List.getElem?_eq_getElem hj)
 unfold entryI
 rw [this]
section
variable {S0:Nat -> Prop} {w0 w:World} {r g c m:Nat} {sp:List Value} {T:Tr} {us:Nat -> Value} {B R:Asr}
theorem dentry_calls (hL:Lv S0 w0 (Star (docA r g c sp m T us) B) w) {k:Nat} (hk:k < 32) (hz:(T k).slots.length <= 1000) (s:ByteArray) :
 Calls Tryz.prog 132 #[.pointer (some ⟨r,0,none⟩),.int .i64 k,.string s] w fun e w'=>e = .returned (.int .i64 (entryI (T k) s)) /\ w = w':=by
 obtain ⟨c0,c1,cn⟩:=doc_cells hL
 obtain ⟨_,_,_,d3,_⟩:=cn k hk
 have HSL:=hid (fun j o=>doc_slot (k:=j) (x:=o) hL hk)
 obtain ⟨ao,cap,hu⟩:=row_any (doc_row hL hk)
 have HU:=hid hu
 rw [hu] at d3
 have HF:=hid (fun i o=>entry_found (x:=T k) (s:=s) (i:=i) (o:=o))
 have HN:=hid (entry_not (x:=T k) (s:=s))
 obtain ⟨sl,hsl⟩:∃ sl,sl = (T k).slots:=⟨_,rfl⟩
 rw [<- hsl] at HSL HF HN d3 HU hz
 obtain ⟨q,hq⟩:∃ q,q = entryI (T k) s:=⟨_,rfl⟩
 rw [<- hq] at HF HN ⊢
 obtain ⟨n,hn⟩:∃ n,n = sl.length:=⟨_,rfl⟩
 have HLN:=hid hn
 rw [<- hn] at d3 hz
 have hk2:(k:Int) < 32:=by omega
 clear cn hL hsl hu hq hn c0
 go_enter Tryz.func132,Tryz.ntmps132
 go_wp2_with fail
 go_loopw [7] (fun s7 wr=>∃ i:Nat,i <= n /\ Hid (∀ j,j < i -> ∀ o,sl[j]? = some o -> nameIs s o = false) /\ s7 = .int .i64 i /\ wr = w) (fun s7 _=>n - (intOf s7).toNat)
 case atStart=>exact ⟨0,Nat.zero_le _,hid (fun j h=>absurd h (Nat.not_lt_zero j)),rfl,rfl⟩
 case round =>
  obtain ⟨i,hi,HB,rfl,hwr⟩:=hrel
  rw [hwr]
  clear hwr
  by_cases hlt:i < n
  ·have hlt2:(i:Int) < (n:Int):=by omega
   have hlen:i < sl.length:=by rw [<- HLN.out];exact hlt
   obtain ⟨o,ho⟩:∃ o,sl[i]? = some o:=⟨_,List.getElem?_eq_getElem hlen⟩
   obtain ⟨b,cap2,hu2,hcell⟩:=HSL.out i o ho
   have hu3:=HU.out
   rw [hu2] at hu3
   simp only [Value.slice.injEq] at hu3
   obtain ⟨hao,_,hcap⟩:=hu3
   subst hao
   have HO:=hid ho
   have nxt:nameIs s o = false -> ∀ j,j < i + 1 -> ∀ o,sl[j]? = some o -> nameIs s o = false:=fun hf j hj o' ho'=>by
    by_cases e:j < i
    ·exact HB.out j e o' ho'
    ·obtain rfl:j = i:=by omega
     rw [ho] at ho'
     obtain rfl:=Option.some.inj ho'
     exact hf
   have HX:=hid nxt
   clear nxt ho hu2 hcap
   cases o with
   | none =>
    have e0:w.cell? ⟨b,i * 2,none⟩ = some (.int .i64 (-1)):=by simpa using hcell 0 _ rfl
    have HB2:=hid (HX.out rfl)
    clear hcell
    go_wp2_with fail
    go_roundw
    case rel=>exact ⟨i + 1,hlt,HB2,by go_num,by first | trivial | rfl⟩
    case measure=>simp [intOf];omega
   | some y =>
    obtain ⟨ino,t⟩:=y
    have e0:w.cell? ⟨b,i * 2,none⟩ = some (.int .i64 (ino:Nat)):=by simpa using hcell 0 _ rfl
    have e1:w.cell? ⟨b,i * 2 + 1,none⟩ = some (.string t):=hcell 1 _ rfl
    have g0:(0:Int) <= (ino:Int):=by omega
    clear hcell
    by_cases hts:t = s
    ·have hb:(t.toList == s.toList) = true:=by rw [bytes_beq];exact decide_eq_true hts
     have hq:=HF.out i (some (ino,t)) HB.out HO.out (decide_eq_true hts)
     have HQ:=hid hq
     clear hts hq
     go_wp2_with fail
     go_ret
     exact ⟨by rw [HQ.out];rfl,rfl⟩
    ·have hb:(t.toList == s.toList) = false:=by rw [bytes_beq];exact decide_eq_false hts
     have HB2:=hid (HX.out (decide_eq_false hts))
     clear hts
     go_wp2_with fail
     go_roundw
     case rel=>exact ⟨i + 1,hlt,HB2,by go_num,by first | trivial | rfl⟩
     case measure=>simp [intOf];omega
  ·obtain rfl:i = n:=by omega
   have hlt2:¬ (i:Int) < (i:Int):=by omega
   have hq:=HN.out fun j hj=>HB.out j (by rw [HLN.out];exact hj)
   have HQ:=hid hq
   clear hq
   go_wp2_with fail
   go_ret
   exact ⟨by rw [HQ.out];rfl,rfl⟩
theorem strsT_at {ps:List ByteArray} {j:Nat} {p:ByteArray} (h:ps[j]? = some p):(strsT ps)[j]? = some (.string p):=by unfold strsT;rw [List.getElem?_map,h];rfl
theorem stepE_dir {n:Nat} {p:ByteArray} (h:(T n).kind ≠ 2):stepE T n p = 11:=if_pos h
theorem dalong_calls (hL:Lv S0 w0 (Star (docA r g c sp m T us) B) w) (hI:TInv T) {n:Nat} (hn:n < 32) (hk0:(T n).kind ≠ 0) {ps:List ByteArray} {ao:Option Addr} {k cap:Nat} (hs:Srcs w (.slice ao k cap) k 1 (strsT ps)) (hk1000:k <= 1000) :
 Calls Tryz.prog 175 #[.pointer (some ⟨r,0,none⟩),.int .i64 n,.slice ao k cap] w fun e w'=>e = .returned (.tuple #[.int .i64 (alongT T n ps).1,.int .i64 (alongT T n ps).2]) /\ w = w':=by
 have hlen:ps.length = k:=by have:=hs.1;simpa [strsT] using this
 have HS:=hid hs
 have HL:=hid hL
 have HI:=hid hI
 have HC:=hid (doc_cells hL)
 have c0:=HC.out.1
 have c1:=HC.out.2.1
 have HLEN:=hid hlen
 obtain ⟨R1,hR1⟩:∃ R1,R1 = (alongT T n ps).1:=⟨_,rfl⟩
 obtain ⟨R2,hR2⟩:∃ R2,R2 = (alongT T n ps).2:=⟨_,rfl⟩
 have HR:Hid (alongT T n ps = (R1,R2)):=hid (by rw [hR1,hR2])
 rw [<- hR1,<- hR2]
 have HN:Hid (n < 32 /\ (T n).kind ≠ 0):=hid ⟨hn,hk0⟩
 clear hL hI hs hlen hR1 hR2 hn hk0
 go_enter Tryz.func175,Tryz.ntmps175
 go_wp2_with fail
 go_loopw [1,8] (fun s1 s8 wr=>∃ (j d:Nat),j <= k /\ s1 = .int .i64 d /\ s8 = .int .i64 j /\ wr = w /\ Hid (d < 32 /\ (T d).kind ≠ 0 /\ alongT T d (ps.drop j) = (R1,R2))) (fun _ s8 _=>k - (intOf s8).toNat)
 case atStart=>exact ⟨0,n,Nat.zero_le _,rfl,rfl,rfl,hid ⟨HN.out.1,HN.out.2,HR.out⟩⟩
 case round =>
  obtain ⟨j,d,hj,rfl,rfl,hwr,HV⟩:=hrel
  rw [hwr]
  clear hwr
  obtain ⟨hd,hdk,hal⟩:=HV.out
  by_cases hlt:j < k
  ·have hlt2:(j:Int) < (k:Int):=by omega
   have hjl:j < ps.length:=by rw [HLEN.out];exact hlt
   obtain ⟨p,hp⟩:∃ p,ps[j]? = some p:=⟨_,List.getElem?_eq_getElem hjl⟩
   obtain ⟨gg,off,hao,hcell⟩:=HS.out.at (strsT_at hp)
   subst hao
   have hdr:ps.drop j = p :: ps.drop (j + 1):=by
    rw [List.drop_eq_getElem_cons hjl]
    rw [List.getElem?_eq_getElem hjl] at hp
    rw [Option.some.inj hp]
   rw [hdr,alongT_cons] at hal
   have hst:=stepT_ok HI.out hd (p:=p) (hk:=hdk)
   have HD:=disdir_calls HL.out (d:Int)
   have hdir:isDirT T (d:Int) = decide ((T d).kind = 2):=by
    unfold isDirT
    rw [Int.toNat_natCast]
    exact decide_eq_decide.2 ⟨fun h=>h.2.2,fun h=>⟨by omega,by omega,h⟩⟩
   rw [hdir] at HD
   have HNM:=hid (dnamed_calls p w)
   have HEN:Hid ((T d).kind = 2 -> Calls Tryz.prog 132 #[.pointer (some ⟨r,0,none⟩),.int .i64 d,.string p] w fun e w'=>e = .returned (.int .i64 (entryI (T d) p)) /\ w = w'):=hid fun hk2=>dentry_calls HL.out hd (by have:=HI.out.size d hd hk2;omega) p
   obtain ⟨d0,d1,d2,d3,d4,d5⟩:=HC.out.2.2 d hd
   have hd2:(d:Int) < 32:=by omega
   have b1:(p.toList == [46]) = decide (p = dot1):=by rw [show [(46:UInt8)] = dot1.toList from by kernel_rfl];exact bytes_beq p dot1
   have b2:(p.toList == [46,46]) = decide (p = dot2):=by rw [show [(46:UInt8),46] = dot2.toList from by kernel_rfl];exact bytes_beq p dot2
   by_cases k2:(T d).kind = 2
   ·rw [decide_eq_true k2] at HD
    have HD:=hid HD
    by_cases p1:p = dot1
    ·rw [decide_eq_true p1] at b1
     have hE:stepE T d p = 0:=by unfold stepE;rw [if_neg (by omega),if_pos p1]
     have hN:stepN T d p = d:=by unfold stepN;rw [if_neg (by omega),if_pos p1]
     rw [if_neg (by rw [hE];decide),hN] at hal
     have HV2:Hid (d < 32 /\ (T d).kind ≠ 0 /\ alongT T d (ps.drop (j + 1)) = (R1,R2)):=hid ⟨hd,hdk,hal⟩
     clear hal hst hdir hdr hjl hE hN p1 b2 d0 d1 d2 d3 d4 d5 hp k2 hdk hd HV HEN
     generalize namedT p = nb at *
     go_wp2_with fail
     refine HD.out.mono ?_
     rintro e w2 ⟨rfl,rfl⟩
     go_wp2_with fail
     refine HNM.out.mono ?_
     rintro e w2 ⟨rfl,rfl⟩
     go_wp2_with fail
     go_roundw
     case rel=>exact ⟨j + 1,d,hlt,rfl,by go_num,by first | trivial | rfl,HV2⟩
     case measure=>simp [intOf];omega
    ·rw [decide_eq_false p1] at b1
     by_cases p2:p = dot2
     ·rw [decide_eq_true p2] at b2
      have hE:stepE T d p = 0:=by unfold stepE;rw [if_neg (by omega),if_neg p1,if_pos p2]
      have hN:stepN T d p = (T d).up:=by unfold stepN;rw [if_neg (by omega),if_neg p1,if_pos p2]
      rw [if_neg (by rw [hE];decide),hN] at hal
      have hst:=hst hE
      rw [hN] at hst
      obtain ⟨up,hup⟩:∃ up,up = (T d).up:=⟨_,rfl⟩
      rw [<- hup] at hst hal d4
      have HV2:Hid (up < 32 /\ (T up).kind ≠ 0 /\ alongT T up (ps.drop (j + 1)) = (R1,R2)):=hid ⟨hst.1,hst.2,hal⟩
      clear hal hst hdir hdr hjl hE hN p1 p2 d0 d1 d2 d3 d5 hp k2 hdk hd HV HEN hup
      generalize namedT p = nb at *
      go_wp2_with fail
      refine HD.out.mono ?_
      rintro e w2 ⟨rfl,rfl⟩
      go_wp2_with fail
      refine HNM.out.mono ?_
      rintro e w2 ⟨rfl,rfl⟩
      go_wp2_with fail
      go_roundw
      case rel=>exact ⟨j + 1,up,hlt,rfl,by go_num,by first | trivial | rfl,HV2⟩
      case measure=>simp [intOf];omega
     ·rw [decide_eq_false p2] at b2
      cases hnm:namedT p with
      | false =>
       have hE:stepE T d p = 8:=by unfold stepE;rw [if_neg (by omega),if_neg p1,if_neg p2,if_pos hnm]
       rw [if_pos (by rw [hE];decide),hE] at hal
       obtain ⟨q1,q2⟩:=Prod.mk.inj hal
       subst q1
       subst q2
       rw [hnm] at HNM
       clear hal hst hdir hdr hjl hE p1 p2 d0 d1 d2 d3 d4 d5 hp k2 hdk hd HV HEN hnm HR
       go_wp2_with fail
       refine HD.out.mono ?_
       rintro e w2 ⟨rfl,rfl⟩
       go_wp2_with fail
       refine HNM.out.mono ?_
       rintro e w2 ⟨rfl,rfl⟩
       go_wp2_with fail
       go_ret2
       exact ⟨rfl,rfl⟩
      | true =>
       rw [hnm] at HNM
       cases hen:entryT (T d) p with
       | none =>
        have hE:stepE T d p = 5:=by unfold stepE;rw [if_neg (by omega),if_neg p1,if_neg p2,if_neg (by rw [hnm];decide),hen];rfl
        rw [if_pos (by rw [hE];decide),hE] at hal
        obtain ⟨q1,q2⟩:=Prod.mk.inj hal
        subst q1
        subst q2
        have hei:entryI (T d) p = -1:=by unfold entryI;rw [hen]
        have HEN:=HEN.out k2
        rw [hei] at HEN
        have HEN:=hid HEN
        clear hal hst hdir hdr hjl hE p1 p2 d0 d1 d2 d3 d4 d5 hp k2 hdk hd HV hnm hen hei HR
        go_wp2_with fail
        refine HD.out.mono ?_
        rintro e w2 ⟨rfl,rfl⟩
        go_wp2_with fail
        refine HNM.out.mono ?_
        rintro e w2 ⟨rfl,rfl⟩
        go_wp2_with fail
        refine HEN.out.mono ?_
        rintro e w2 ⟨rfl,rfl⟩
        go_wp2_with fail
        go_ret2
        exact ⟨rfl,rfl⟩
       | some en =>
        have hE:stepE T d p = 0:=by unfold stepE;rw [if_neg (by omega),if_neg p1,if_neg p2,if_neg (by rw [hnm];decide),hen];rfl
        have hN:stepN T d p = inoT (T d) en:=by unfold stepN;rw [if_neg (by omega),if_neg p1,if_neg p2,if_neg (by rw [hnm];decide),hen]
        rw [if_neg (by rw [hE];decide),hN] at hal
        have hst:=hst hE
        rw [hN] at hst
        obtain ⟨hel,hes⟩:=entry_some hen
        obtain ⟨b,cap2,hu2,hsc⟩:=doc_slot HL.out hd hes
        obtain ⟨ino,hino⟩:∃ ino,ino = inoT (T d) en:=⟨_,rfl⟩
        rw [<- hino] at hst hal hsc
        have e0:w.cell? ⟨b,en * 2,none⟩ = some (.int .i64 (ino:Nat)):=by simpa using hsc 0 _ rfl
        rw [hu2] at d3
        obtain ⟨sn,hsn⟩:∃ sn,sn = (T d).slots.length:=⟨_,rfl⟩
        rw [<- hsn] at d3 hel
        have hel2:(en:Int) < (sn:Int):=by omega
        have hei:entryI (T d) p = (en:Int):=by unfold entryI;rw [hen]
        have HEN:=HEN.out k2
        rw [hei] at HEN
        have HEN:=hid HEN
        have HV2:Hid (ino < 32 /\ (T ino).kind ≠ 0 /\ alongT T ino (ps.drop (j + 1)) = (R1,R2)):=hid ⟨hst.1,hst.2,hal⟩
        clear hal hst hdir hdr hjl hE hN p1 p2 d0 d1 d2 d4 d5 hp k2 hdk hd HV hnm hen hes hu2 hsc hei hino hsn
        go_wp2_with fail
        refine HD.out.mono ?_
        rintro e w2 ⟨rfl,rfl⟩
        go_wp2_with fail
        refine HNM.out.mono ?_
        rintro e w2 ⟨rfl,rfl⟩
        go_wp2_with fail
        refine HEN.out.mono ?_
        rintro e w2 ⟨rfl,rfl⟩
        go_wp2_with fail
        go_roundw
        case rel=>exact ⟨j + 1,ino,hlt,rfl,by go_num,by first | trivial | rfl,HV2⟩
        case measure=>simp [intOf];omega
   ·rw [decide_eq_false k2] at HD
    have HD:=hid HD
    have hE:stepE T d p = 11:=stepE_dir k2
    rw [if_pos (by rw [hE];decide),hE] at hal
    obtain ⟨q1,q2⟩:=Prod.mk.inj hal
    subst q1
    subst q2
    clear hal hst hdir hdr hjl hE b1 b2 d0 d1 d2 d3 d4 d5 hp k2 hdk hd HV HEN HR
    generalize namedT p = nb at *
    go_wp2_with fail
    refine HD.out.mono ?_
    rintro e w2 ⟨rfl,rfl⟩
    go_wp2_with fail
    refine HNM.out.mono ?_
    rintro e w2 ⟨rfl,rfl⟩
    go_wp2_with fail
    go_ret2
    exact ⟨rfl,rfl⟩
  ·obtain rfl:j = k:=by omega
   have hlt2:¬ (j:Int) < (j:Int):=by omega
   rw [List.drop_eq_nil_of_le (by rw [HLEN.out];exact Nat.le_refl _)] at hal
   have hal:(d,(0:Int)) = (R1,R2):=hal
   obtain ⟨q1,q2⟩:=Prod.mk.inj hal
   subst q1
   subst q2
   clear hal HV HR hd hdk
   go_wp2_with fail
   go_ret2
   exact ⟨rfl,rfl⟩
theorem dFind_calls (hL:Lv S0 w0 (Star (docX r m T) B) w) (hB:Loc B) (hI:TInv T) (from_:Int) (path:ByteArray) :
 Calls Tryz.prog 138 #[.pointer (some ⟨r,0,none⟩),.int .i64 from_,.string path] w fun e w'=>e = .returned (.tuple #[.int .i64 (findT T from_ path).1,.int .i64 (findT T from_ path).2]) /\ Lv S0 w0 (Star (docX r m T) B) w':=by
 obtain ⟨g,c,sp,us,hL⟩:=docX_open hL
 have HBG:=hid (dbegin_calls hL from_ path)
 have HL:=hid hL
 have HI:=hid hI
 have HLC:Hid (Loc (Star (docA r g c sp m T us) B)):=hid (loc_star (loc_doc _ _ _ _ _ _ _) hB)
 obtain ⟨E,hE⟩:∃ E,E = beginE T from_ path:=⟨_,rfl⟩
 have hf:findT T from_ path = if E ≠ 0 then (0,E) else alongT T (beginN from_ path) (partsT path):=by rw [hE];rfl
 unfold BegP at HBG
 rw [<- hE] at HBG
 have HE:=hid hE
 by_cases h0:E = 0
 ·subst h0
  simp only [if_pos] at HBG
  rw [if_neg (by decide)] at hf
  rw [hf]
  have hok:=beginT_ok hI hE.symm
  have HOK:=hid hok
  have HPL:Hid ((partsT path).length <= 1000):=hid (by have:=parts_len path;have:=beg_size (T:=T) hE.symm;omega)
  obtain ⟨n,hn⟩:∃ n,n = beginN from_ path:=⟨_,rfl⟩
  rw [<- hn] at HBG HOK ⊢
  clear hL hI hB hE hf hok hn
  go_enter Tryz.func138,Tryz.ntmps138
  go_wp2_with fail
  refine HBG.out.mono ?_
  rintro e w2 ⟨u,rfl,ho,hw,hfr⟩
  obtain ⟨ao,cap,rfl⟩:=row_any ho
  have hs:=row_srcs ho (fun x hx=>by unfold strsT at hx;obtain ⟨_,_,rfl⟩:=List.mem_map.1 hx;rfl)
  have L2:=Lv.keep HL.out HLC.out hfr
  have HAL:=hid (dalong_calls L2 HI.out HOK.out.1 (by have:=HOK.out.2;omega) hs HPL.out)
  have HL2:=hid L2
  clear hs L2 ho hw hfr
  generalize (partsT path).length = pn at *
  go_wp2_with fail
  refine HAL.out.mono ?_
  rintro e w3 ⟨rfl,rfl⟩
  go_wp2_with fail
  go_ret2
  exact ⟨rfl,docX_shut HL2.out⟩
 ·simp only [if_neg h0] at HBG
  rw [if_pos h0] at hf
  rw [hf]
  have t0:(E != 0) = true:=by simpa using h0
  clear hL hI hB hE hf HI HE h0
  go_enter Tryz.func138,Tryz.ntmps138
  go_wp2_with fail
  refine HBG.out.mono ?_
  rintro e w2 ⟨u,rfl,ho,hw,hfr⟩
  have HL2:=hid (Lv.keep HL.out HLC.out hfr)
  clear ho hw hfr
  go_wp2_with fail
  go_ret2
  exact ⟨rfl,docX_shut HL2.out⟩
end
theorem strsT_one (l:List ByteArray):∀ x ∈ strsT l,x.oneCell' = true:=fun x hx=>by unfold strsT at hx;obtain ⟨_,_,rfl⟩:=List.mem_map.1 hx;rfl
theorem lastT_nil {T:Tr} {from_:Int} {path:ByteArray} (hI:TInv T) (h0:beginE T from_ path = 0) (hp:partsT path = []):lastT T from_ path = (0,ByteArray.empty,8):=by
 unfold lastT
 rw [if_neg (by rw [h0];decide),hp]
 show (if (0:Int) ≠ 0 then _ else if (T (beginN from_ path)).kind ≠ 2 then _ else _) = _
 rw [if_neg (by decide),if_neg (by rw [(beginT_ok hI h0).2];decide)]
 rfl
theorem lastT_snoc {T:Tr} {from_:Int} {path s:ByteArray} {l:List ByteArray} (h0:beginE T from_ path = 0) (hp:partsT path = l ++ [s]) :
 lastT T from_ path = if (alongT T (beginN from_ path) l).2 ≠ 0 then (0,ByteArray.empty,(alongT T (beginN from_ path) l).2) else if (T (alongT T (beginN from_ path) l).1).kind ≠ 2 then (0,ByteArray.empty,11) else
  if namedT s = false then (0,ByteArray.empty,8) else ((alongT T (beginN from_ path) l).1,s,0):=by
 unfold lastT
 rw [if_neg (by rw [h0];decide),hp,List.dropLast_concat,List.getLast?_concat]
section
variable {S0:Nat -> Prop} {w0 w:World} {r g c m:Nat} {sp:List Value} {T:Tr} {us:Nat -> Value} {B R:Asr}
theorem isDir_nat {n:Nat} (hn:n < 32):isDirT T (n:Int) = decide ((T n).kind = 2):=by
 unfold isDirT
 rw [Int.toNat_natCast]
 exact decide_eq_decide.2 ⟨fun h=>h.2.2,fun h=>⟨by omega,by omega,h⟩⟩
theorem dlast_calls (hL:Lv S0 w0 (Star (docX r m T) B) w) (hB:Loc B) (hI:TInv T) (from_:Int) (path:ByteArray) :
 Calls Tryz.prog 176 #[.pointer (some ⟨r,0,none⟩),.int .i64 from_,.string path] w fun e w'=>e = .returned (.tuple #[.int .i64 (lastT T from_ path).1,.string (lastT T from_ path).2.1,.int .i64 (lastT T from_ path).2.2]) /\ Lv S0 w0 (Star (docX r m T) B) w':=by
 obtain ⟨g,c,sp,us,hL⟩:=docX_open hL
 have HBG:=hid (dbegin_calls hL from_ path)
 have HL:=hid hL
 have HI:=hid hI
 have HLC:Hid (Loc (Star (docA r g c sp m T us) B)):=hid (loc_star (loc_doc _ _ _ _ _ _ _) hB)
 unfold BegP at HBG
 by_cases h0:beginE T from_ path = 0
 ·have hok:=beginT_ok hI h0
  rw [h0] at HBG
  simp only [if_pos] at HBG
  rcases List.eq_nil_or_concat (partsT path) with hp | ⟨l,s,hp⟩
  ·rw [lastT_nil hI h0 hp]
   rw [hp] at HBG
   obtain ⟨n,hn⟩:∃ n,n = beginN from_ path:=⟨_,rfl⟩
   rw [<- hn] at HBG hok
   have HOK:=hid hok
   have hdir:=isDir_nat (T:=T) hok.1
   rw [decide_eq_true hok.2] at hdir
   have HDIR:=hid hdir
   clear hL hI hB h0 hok hn hp hdir
   go_enter Tryz.func176,Tryz.ntmps176
   go_wp2_with fail
   refine HBG.out.mono ?_
   rintro e w2 ⟨u,rfl,ho,hw,hfr⟩
   have ho:w2.ownsRow 0 tStr 1 u 0 (strsT []):=ho
   obtain ⟨ao,cap,rfl⟩:=row_any ho
   have hs:Srcs w2 (.slice ao 0 cap) 0 1 (strsT []):=row_srcs ho (strsT_one _)
   have L2:=Lv.keep HL.out HLC.out hfr
   have HAL:=hid (dalong_calls L2 HI.out HOK.out.1 (by have:=HOK.out.2;omega) hs (by omega))
   have hD:=disdir_calls L2 (n:Int)
   rw [HDIR.out] at hD
   have HD:=hid hD
   have HL2:=hid L2
   clear hs L2 ho hw hfr hD
   go_wp2_with fail
   refine HAL.out.mono ?_
   rintro e w3 ⟨rfl,rfl⟩
   go_wp2_with fail
   refine HD.out.mono ?_
   rintro e w3 ⟨rfl,rfl⟩
   go_wp2_with fail
   go_ret3
   exact ⟨rfl,docX_shut HL2.out⟩
  ·rw [List.concat_eq_append] at hp
   have hlast:=lastT_snoc h0 hp
   rw [hp] at HBG
   obtain ⟨n,hn⟩:∃ n,n = beginN from_ path:=⟨_,rfl⟩
   rw [<- hn] at HBG hok hlast
   obtain ⟨d,hd⟩:∃ d,d = (alongT T n l).1:=⟨_,rfl⟩
   obtain ⟨E,hE⟩:∃ E,E = (alongT T n l).2:=⟨_,rfl⟩
   rw [<- hd,<- hE] at hlast
   have HAL0:Hid (alongT T n l = (d,E)):=hid (by rw [hd,hE])
   have hdok:=alongT_ok hI l hok.1 (by rw [hok.2];decide)
   rw [<- hd,<- hE] at hdok
   have HDOK:=hid hdok
   have HOK:=hid hok
   obtain ⟨k,hk⟩:∃ k,k = l.length:=⟨_,rfl⟩
   have HKL:=hid hk
   have hlen:(l ++ [s]).length = k + 1:=by rw [List.length_append,hk];rfl
   rw [hlen] at HBG
   obtain ⟨n1,hn1⟩:∃ n1,n1 = k + 1:=⟨_,rfl⟩
   have wx:IntKind.i64.wrap ((n1:Int) - 1) = (k:Int):=by
    have h1:=parts_len path
    have h2:=beg_size h0
    rw [hp,hlen] at h1
    rw [IntKind.wrap_i64] <;> omega
   have HN1:=hid hn1
   have HPL:Hid (k <= 1000):=hid (by have h1:=parts_len path;have h2:=beg_size h0;rw [hp,hlen] at h1;omega)
   have hpos:(0:Int) < (n1:Int):=by omega
   have hne:((n1:Int) == 0) = false:=by rw [beq_eq_false_iff_ne];omega
   rw [<- hn1] at HBG
   have hkn:k < n1:=by omega
   have hkn2:(k:Int) < (n1:Int):=by omega
   obtain ⟨r1,hr1⟩:∃ r1,r1 = (lastT T from_ path).1:=⟨_,rfl⟩
   obtain ⟨r2,hr2⟩:∃ r2,r2 = (lastT T from_ path).2.1:=⟨_,rfl⟩
   obtain ⟨r3,hr3⟩:∃ r3,r3 = (lastT T from_ path).2.2:=⟨_,rfl⟩
   rw [<- hr1,<- hr2,<- hr3]
   have hlast:(r1,r2,r3) = _:=(show (r1,r2,r3) = lastT T from_ path by rw [hr1,hr2,hr3]).trans hlast
   have HLAST:=hid hlast
   clear hL hI hB h0 hok hn hp hlast hd hE hdok hk hlen hn1 hr1 hr2 hr3
   go_enter Tryz.func176,Tryz.ntmps176
   go_wp2_with fail
   refine HBG.out.mono ?_
   rintro e w2 ⟨u,rfl,ho,hw,hfr⟩
   obtain ⟨gg,cap,hu⟩:∃ gg cap,u = .slice (some ⟨gg,0,none⟩) n1 cap:=(row_form ho).elim (fun h=>by have:=h.2;omega) id
   subst hu
   have hcap:=row_cap ho
   have hrt:=row_take ho (k:=k) (by omega)
   rw [show (strsT (l ++ [s])).take k = strsT l by unfold strsT;rw [List.map_append,HKL.out];simp] at hrt
   have hs:Srcs w2 (.slice (some ⟨gg,0,none⟩) k cap) k 1 (strsT l):=row_srcs hrt (strsT_one _)
   have ck:w2.cell? ⟨gg,k,none⟩ = some (.string s):=by
    have:=ho.cells (g:=gg) rfl k (.string s) (by unfold strsT;rw [List.map_append,HKL.out];simp)
    simpa [Addr.add_lit] using this
   have L2:=Lv.keep HL.out HLC.out hfr
   have hal:=dalong_calls L2 HI.out HOK.out.1 (by have:=HOK.out.2;omega) hs HPL.out
   rw [HAL0.out] at hal
   have HAL:=hid hal
   have HL2:=hid L2
   have hkc:k <= cap:=by omega
   clear hs L2 ho hw hfr hal hrt
   go_wp2_with fail
   refine HAL.out.mono ?_
   rintro e w3 ⟨rfl,rfl⟩
   by_cases hE:E = 0
   ·subst hE
    have hla:=HLAST.out
    rw [if_neg (fun h=>h rfl)] at hla
    have hdl:=HDOK.out.1
    have hdir:=isDir_nat (T:=T) hdl
    have hD:=disdir_calls HL2.out (d:Int)
    rw [hdir] at hD
    by_cases k2:(T d).kind = 2
    ·rw [if_neg (by rw [k2];decide)] at hla
     have HLA:=hid hla
     clear hla HLAST
     rw [decide_eq_true k2] at hD
     have HD:=hid hD
     have HNM:=hid (dnamed_calls s w2)
     clear hD hdir k2 hdl
     go_wp2_with fail
     refine HD.out.mono ?_
     rintro e w3 ⟨rfl,rfl⟩
     go_wp2_with fail
     refine HNM.out.mono ?_
     rintro e w3 ⟨rfl,rfl⟩
     cases hnm:namedT s with
     | false =>
      have hla:=HLA.out
      rw [if_pos hnm] at hla
      obtain ⟨q1,q2⟩:=Prod.mk.inj hla
      obtain ⟨q2,q3⟩:=Prod.mk.inj q2
      subst q1
      subst q2
      subst q3
      clear hla
      go_wp2_with fail
      go_ret3
      exact ⟨rfl,docX_shut HL2.out⟩
     | true =>
      have hla:=HLA.out
      rw [if_neg (by rw [hnm];decide)] at hla
      obtain ⟨q1,q2⟩:=Prod.mk.inj hla
      obtain ⟨q2,q3⟩:=Prod.mk.inj q2
      subst q1
      subst q2
      subst q3
      clear hla
      go_wp2_with fail
      go_region
      all_goals
       go_wp2_with fail
       go_ret3
       exact ⟨rfl,docX_shut (by first | exact HL2.out | exact Lv.drew HL2.out HLC.out)⟩
    ·rw [if_pos k2] at hla
     obtain ⟨q1,q2⟩:=Prod.mk.inj hla
     obtain ⟨q2,q3⟩:=Prod.mk.inj q2
     subst q1
     subst q2
     subst q3
     clear hla HLAST
     rw [decide_eq_false k2] at hD
     have HD:=hid hD
     clear hD hdir k2 hdl
     go_wp2_with fail
     refine HD.out.mono ?_
     rintro e w3 ⟨rfl,rfl⟩
     go_wp2_with fail
     go_ret3
     exact ⟨rfl,docX_shut HL2.out⟩
   ·have hla:=HLAST.out
    rw [if_pos hE] at hla
    obtain ⟨q1,q2⟩:=Prod.mk.inj hla
    obtain ⟨q2,q3⟩:=Prod.mk.inj q2
    have t0:(r3 != 0) = true:=by rw [q3];simpa using hE
    subst q1
    subst q2
    subst q3
    clear hla HLAST hE
    go_wp2_with fail
    go_ret3
    exact ⟨rfl,docX_shut HL2.out⟩
 ·simp only [if_neg h0] at HBG
  have hl:lastT T from_ path = (0,ByteArray.empty,beginE T from_ path):=by unfold lastT;rw [if_pos h0]
  rw [hl]
  have t0:(beginE T from_ path != 0) = true:=by simpa using h0
  generalize beginE T from_ path = E at *
  clear hL hI hB HI h0 hl
  go_enter Tryz.func176,Tryz.ntmps176
  go_wp2_with fail
  refine HBG.out.mono ?_
  rintro e w2 ⟨u,rfl,ho,hw,hfr⟩
  have HL2:=hid (Lv.keep HL.out HLC.out hfr)
  clear ho hw hfr
  go_wp2_with fail
  go_ret3
  exact ⟨rfl,docX_shut HL2.out⟩
end
theorem Tryz.dslotInfo:(Tryz.prog.info? tDSlot).map (fun i=>(i.zero,i.size,i.bytes)) = some (some (.agg #[.int .i64 0,.string ⟨#[]⟩]),2,24):=by kernel_rfl
theorem Tryz.rowDSlot:RowT Tryz.prog 139 tDSlot 2 24:=by
 obtain ⟨i0,hi,hz0,hz1,hz2⟩:=info_parts Tryz.dslotInfo
 exact ⟨⟨i0,_,Tryz.underlying139,hi,hz0,hz1,hz2,rfl⟩,by decide,by decide⟩
theorem put_in (x:Nat × ByteArray):∀ {l:List SlotT} {i:Nat},(∀ j,j < i -> ∀ o,l[j]? = some o -> o ≠ none) -> l[i]? = some none -> putL x l = l.set i (some x)
 | [],i,_,h=>by simp at h
 | none :: l,0,_,_=>rfl
 | some y :: l,0,_,h=>by simp at h
 | none :: l,i + 1,h,_=>absurd rfl (h 0 (Nat.succ_pos _) none rfl)
 | some y :: l,i + 1,h,hi=>by
  show some y :: putL x l = some y :: l.set i (some x)
  rw [put_in x (i:=i) (fun j hj o ho=>h (j + 1) (by omega) o (by simpa using ho)) (by simpa using hi)]
theorem put_end (x:Nat × ByteArray):∀ {l:List SlotT},(∀ j,j < l.length -> ∀ o,l[j]? = some o -> o ≠ none) -> putL x l = l ++ [some x]
 | [],_=>rfl
 | none :: l,h=>absurd rfl (h 0 (by simp) none rfl)
 | some y :: l,h=>by
  show some y :: putL x l = some y :: (l ++ [some x])
  rw [put_end x (l:=l) (fun j hj o ho=>h (j + 1) (by simpa using hj) o (by simpa using ho))]
theorem row_free2 {w:World} {B e size n m g c:Nat} {xs:List Value} (h:w.ownsRow B e size (.slice (some ⟨g,0,none⟩) m c) n xs) (j:Nat):w.frozen? ⟨g,j,none⟩ = false:=by
 rcases h.2 with ⟨h3,_⟩ | ⟨g',cap',cur,hv,hb,hg,_⟩
 ·cases h3
 ·simp only [Value.slice.injEq,Option.some.injEq,Addr.mk.injEq,and_true] at hv
  obtain ⟨rfl,_⟩:=hv
  exact frozen_of_row w g j _ e hg
section
variable {S0:Nat -> Prop} {w0 w:World} {r g c m:Nat} {sp:List Value} {T:Tr} {us:Nat -> Value} {B R:Asr}
theorem doc_slotfree (h:Lv S0 w0 (Star (docA r g c sp m T us) B) w) {i b n cap:Nat} (hi:i < 32) (hu:us i = .slice (some ⟨b,0,none⟩) n cap) (j:Nat):w.frozen? ⟨b,j,none⟩ = false:=by
 have ho:=doc_row h hi
 rw [hu] at ho
 exact row_free2 ho j
theorem dput_calls (hX:Lv S0 w0 (Star (docX r m T) B) w) (hB:Loc B) {k:Nat} (hk:k < 32) (hz:(T k).slots.length <= 1000) (y:Nat × ByteArray) :
 Calls Tryz.prog 177 #[.pointer (some ⟨r,0,none⟩),.int .i64 k,.agg #[.int .i64 y.1,.string y.2]] w fun e w'=>e = .returned (.tuple #[]) /\ Lv S0 w0 (Star (docX r m (putT T k y)) B) w':=by
 obtain ⟨ino,nm⟩:=y
 obtain ⟨g,c,sp,us,hL⟩:=docX_open hX
 have hR:Loc (Star (docA r g c sp m T us) B):=loc_star (loc_doc _ _ _ _ _ _ _) hB
 have L1:=hL.box hR tDSlot [.int .i64 ino,.string nm]
 obtain ⟨b0,hb0⟩:∃ b0,b0 = w.heap.size:=⟨_,rfl⟩
 obtain ⟨W1,hW1⟩:∃ W1,W1 = w.alloc (.cells ([Value.int .i64 ino,.string nm]).toArray tDSlot):=⟨_,rfl⟩
 rw [<- hW1,<- hb0] at L1
 have q0:=L1.blk.cell (j:=0) rfl
 have q1:=L1.blk.cell (j:=1) rfl
 have L2:=L1.map fun _ h=>star_flip h
 have hB2:Loc (Star (blkA b0 tDSlot [.int .i64 ino,.string nm]) B):=loc_star (loc_blk _ _ _) hB
 obtain ⟨c0,c1,cn⟩:=doc_cells L2
 have d3:=(cn k hk).2.2.2.1
 have fg:=doc_free L2
 have HSL:=hid (fun j o=>doc_slot (k:=j) (x:=o) L2 hk)
 have HSF:=hid (fun b n cap=>doc_slotfree (i:=k) (b:=b) (n:=n) (cap:=cap) L2 hk)
 have ho:=doc_row L2 hk
 obtain ⟨ao,cap,hu⟩:=row_any ho
 have HU:=hid hu
 rw [hu] at d3
 have HP1:=hid (fun i=>put_in (ino,nm) (l:=(T k).slots) (i:=i))
 have HP2:=hid (put_end (ino,nm) (l:=(T k).slots))
 obtain ⟨sl,hsl⟩:∃ sl,sl = (T k).slots:=⟨_,rfl⟩
 obtain ⟨n,hn⟩:∃ n,n = sl.length:=⟨_,rfl⟩
 have HLN:=hid hn
 have HSLT:=hid hsl
 rw [<- hsl] at HSL HP1 HP2 d3 HU ho hz
 rw [<- hn] at d3 ho hz HU
 rw [HU.out] at ho
 have HO:=hid ho
 have HL2:=hid L2
 have HW1:=hid hW1
 have HB0:=hid hb0
 have HB2:=hid hB2
 have HK:=hid hk
 have hk2:(k:Int) < 32:=by omega
 have fk:=fg (k * 6 + 3)
 have HBG:=hid (doc_blk L2).2
 have HNE:Hid (¬ (Value.slice ao n cap).ownBlock = some g):=hid (row_ne ho (doc_blk L2).2 (by decide))
 have HBR:=hid (doc_blk L2).1
 have HNE2:Hid (¬ (Value.slice ao n cap).ownBlock = some r):=hid (row_ne ho (doc_blk L2).1 (by decide))
 have HC3:Hid ((tnsL T us 32 ++ sp)[k * 6 + 3]? = some (.slice ao n cap)):=hid (by rw [tns_at T us sp hk (by omega)];exact congrArg some HU.out)
 have c1':(w.alloc (.cells #[.int .i64 ino,.string nm] 204)).cell? ⟨r,1,none⟩ = some (.slice (some ⟨g,0,none⟩) 32 c):=by rw [hW1] at c1;exact c1
 have d3':(w.alloc (.cells #[.int .i64 ino,.string nm] 204)).cell? ⟨g,k * 6 + 3,none⟩ = some (.slice ao n cap):=by rw [hW1] at d3;exact d3
 clear cn hL hu c0 L1 L2 hX hB hR hB2 ho hk hW1 hb0 hsl hn fg
 go_enter Tryz.func177,Tryz.ntmps177
 go_wp2_with fail
 rw [show w.alloc (.cells #[.int .i64 ino,.string nm] tDSlot) = W1 from HW1.out.symm,<- HB0.out]
 clear c1' d3'
 go_loopw [7] (fun s7 wr=>∃ i:Nat,i <= n /\ Hid (∀ j,j < i -> ∀ o,sl[j]? = some o -> o ≠ none) /\ s7 = .int .i64 i /\ wr = W1) (fun s7 _=>n - (intOf s7).toNat)
 case atStart=>exact ⟨0,Nat.zero_le _,hid (fun j h=>absurd h (Nat.not_lt_zero j)),rfl,rfl⟩
 case round =>
  obtain ⟨i,hi,HB,rfl,hwr⟩:=hrel
  rw [hwr]
  clear hwr
  by_cases hlt:i < n
  ·have hlt2:(i:Int) < (n:Int):=by omega
   have hlen:i < sl.length:=by rw [<- HLN.out];exact hlt
   obtain ⟨o,ho⟩:∃ o,sl[i]? = some o:=⟨_,List.getElem?_eq_getElem hlen⟩
   obtain ⟨b,cap2,hu2,hcell⟩:=HSL.out i o ho
   have hu3:=HU.out
   rw [hu2] at hu3
   simp only [Value.slice.injEq] at hu3
   obtain ⟨hao,_,hcap⟩:=hu3
   subst hao
   have HO2:=hid ho
   have HU2:=hid hu2
   cases o with
   | none =>
    have e0:W1.cell? ⟨b,i * 2,none⟩ = some (.int .i64 (-1)):=by simpa using hcell 0 _ rfl
    have e1:W1.cell? ⟨b,i * 2 + 1,none⟩ = some (.string ⟨#[]⟩):=hcell 1 _ rfl
    have f0:=HSF.out b _ cap2 hu2 (i * 2)
    have f1:=HSF.out b _ cap2 hu2 (i * 2 + 1)
    have hp:=HP1.out i HB.out ho
    have HP:=hid hp
    clear hcell hp ho hu2 hcap
    go_wp2_with fail
    refine ⟨rfl,.tuple #[],results_none rfl _ _ _,rfl,?_⟩
    have h1:=doc_slotset HL2.out HB2.out HK.out (k:=i) (x:=some (ino,nm)) (a:=.int .i64 ino) (v:=.string nm) (by rw [<- HSLT.out];exact hlen) (by rw [<- HSLT.out];exact HU2.out) rfl
    have e:putT T k (ino,nm) = setT T k { T k with slots:=(T k).slots.set i (some (ino,nm)) }:=by
     have hp:=HP.out
     rw [HSLT.out] at hp
     unfold putT
     rw [hp]
    rw [e]
    exact docX_shut (h1.map fun _ h=>star_less h)
   | some y =>
    obtain ⟨ino2,t⟩:=y
    have e0:W1.cell? ⟨b,i * 2,none⟩ = some (.int .i64 (ino2:Nat)):=by simpa using hcell 0 _ rfl
    have g0:¬ (ino2:Int) < 0:=by omega
    have HB3:Hid (∀ j,j < i + 1 -> ∀ o,sl[j]? = some o -> o ≠ none):=hid fun j hj o' ho'=>by
     by_cases e:j < i
     ·exact HB.out j e o' ho'
     ·obtain rfl:j = i:=by omega
      rw [HO2.out] at ho'
      obtain rfl:=Option.some.inj ho'
      simp
    clear hcell ho hu2 hcap
    go_wp2_with fail
    go_roundw
    case rel=>exact ⟨i + 1,hlt,HB3,by go_num,by first | trivial | rfl⟩
    case measure=>simp [intOf];omega
  ·obtain rfl:i = n:=by omega
   have hlt2:¬ (i:Int) < (i:Int):=by omega
   have hp:=HP2.out fun j hj=>HB.out j (by rw [HLN.out];exact hj)
   have HP:=hid hp
   clear hp
   go_wp2_with fail
   have ca:=(HBR.out.alloc (.cells #[.int .i64 ino,.string nm] 204)).cell (j:=1) rfl
   go_region_law (refine step_append_mine rfl (ho:=rfl) (s:=.tmp 37) (x:=.tmp 39) Tryz.rowDSlot (v:=.slice ao i cap) (by simp [Act.eval]) ((HO.out.drew).alloc _) (src:=.slice (some ⟨W1.heap.size,0,none⟩) 1 1) (by simp [Act.eval]) (srcs_two W1.drew _ _ _ 1 rfl rfl) (by omega) ?_;intro v' w3 hown3 hf3 hv3 _;obtain ⟨ao',cap',rfl⟩:=row_any hown3;have hbg:=((HBG.out.drew).alloc _).fr hf3 HNE.out;have c3:=hbg.cell HC3.out;have f3:=hbg.free (k * 6 + 3);have hbr:=((HBR.out.drew).alloc _).fr hf3 HNE2.out;have cr:=hbr.cell (j:=1) rfl)
   all_goals
    go_wp2_with fail
    refine ⟨rfl,.tuple #[],results_none rfl _ _ _,rfl,?_⟩
    have e:putT T k (ino,nm) = setT T k { T k with slots:=(T k).slots ++ [some (ino,nm)] }:=by
     have hp:=HP.out
     rw [HSLT.out] at hp
     unfold putT
     rw [hp]
    rw [e]
    have L3:=(HL2.out.drew (loc_star (loc_doc _ _ _ _ _ _ _) HB2.out)).alloc (loc_star (loc_doc _ _ _ _ _ _ _) HB2.out) (.cells #[.int .i64 ino,.string nm] tDSlot)
    have hu:=HU.out
    have hlen:(T k).slots.length = i:=by rw [<- HSLT.out,<- HLN.out]
    have h1:=doc_append L3 HB2.out HK.out (x:=some (ino,nm)) (v':=.slice ao' (i + 1) cap') (by rw [hlen,<- HSLT.out];exact hown3) (by rw [hu];exact hf3) (by rw [hu];exact hv3)
    exact docX_shut (h1.map fun _ h=>star_less h)
end
theorem conv_bytes {W:World} {g n c:Nat} {ns:List Int} (hn:ns.length = n) (hb:Blk W g 5 (ns.map (Value.int .u8))) :
 (convert 116 9 (.slice (some ⟨g,0,none⟩) n c)).run Tryz.prog W = .ok (.string (strOf ns)) W:=by
 have hr:=run_loadCells_list (P:=Tryz.prog) (w:=W) ⟨g,0,none⟩ (ns.map (Value.int .u8)) (fun j v hv=>by simp only [Addr.add_lit,Nat.zero_add];exact hb.cell hv)
 rw [List.length_map,hn] at hr
 have h1:=run_bytesToString (P:=Tryz.prog) W ⟨g,0,none⟩ n c ns hr
 exact (run_convert_bytes_string (P:=Tryz.prog) W 116 9 5 (some ⟨g,0,none⟩) n c Tryz.underlying116 Tryz.underlying5 Tryz.underlying9).trans h1
theorem made14:madeCells #[Value.int .u8 0] 14 = #[.int .u8 0,.int .u8 0,.int .u8 0,.int .u8 0,.int .u8 0,.int .u8 0,.int .u8 0,.int .u8 0,.int .u8 0,.int .u8 0,.int .u8 0,.int .u8 0,.int .u8 0,.int .u8 0]:=by kernel_rfl
theorem strOf_list (ns:List Int):(strOf ns).data.toList = ns.map fun n=>UInt8.ofNat n.toNat:=by
 have key:∀ (ns:List Int) (r:ByteArray),(ns.foldl (fun r n=>r.push (UInt8.ofNat n.toNat)) r).data.toList = r.data.toList ++ ns.map fun n=>UInt8.ofNat n.toNat:=by
  intro ns
  induction ns with
  | nil=>intro r;simp
  | cons n ns ih =>
   intro r
   rw [List.foldl_cons,ih]
   simp [ByteArray.push]
 unfold strOf
 rw [key]
 rfl
theorem slot_text {i:Nat} (hi:i < 255) {s:ByteArray} (h:s.size <= 14) :
 ((strOf [((i + 1:Nat):Int),0] ++ s) ++ strOf (List.replicate 14 0)).extract 0 16 = ⟨(txtT (i + 1) s).toArray⟩:=by
 refine bytes_of ?_
 rw [toList_extract,toList_append,toList_append,strOf_list,strOf_list,List.drop_zero]
 have hl:s.data.toList.length = s.size:=bytes_len s
 unfold txtT
 show List.take 16 (([UInt8.ofNat (i + 1),0] ++ s.data.toList) ++ List.replicate 14 (UInt8.ofNat 0)) = _
 rw [List.append_assoc,List.cons_append,List.cons_append,List.nil_append,List.take_succ_cons,List.take_succ_cons,List.take_append,hl,List.take_of_length_le (by omega),List.take_replicate,Nat.min_eq_left (by omega),
  Nat.mod_eq_of_lt (by omega),show (i + 1) / 256 % 256 = 0 by omega]
 rfl
section
variable {w:World}
theorem dslotN_calls (w:World):Calls Tryz.prog 131 #[.agg #[.int .i64 (-1),.string ⟨#[]⟩]] w fun e w'=>e = .returned (.string ⟨(List.replicate 16 (0:UInt8)).toArray⟩) /\ Fr Nob w w':=by
 have hmk:∀ W:World,(Instr.makeSlice 116 (.int .i64 16) (.int .i64 16)).run Tryz.prog W = .ok (.slice (some ⟨W.heap.size,0,none⟩) 16 16) (W.alloc (.cells #[.int .u8 0,.int .u8 0,.int .u8 0,.int .u8 0,.int .u8 0,.int .u8 0,.int .u8 0,.int .u8 0,.int .u8 0,.int .u8 0,.int .u8 0,.int .u8 0,.int .u8 0,.int .u8 0,.int .u8 0,.int .u8 0] 5)):=fun W=>by
  have:=run_make_row' (P:=Tryz.prog) 116 5 (.int .u8 0) 1 Tryz.underlying116 Tryz.infoU8 rfl .i64 .i64 16 (by decide) (by decide) W
  rw [made16] at this
  exact this
 obtain ⟨z,hz⟩:∃ z:ByteArray,z = ⟨(List.replicate 16 (0:UInt8)).toArray⟩:=⟨_,rfl⟩
 have hc:∀ W:World,(convert 116 9 (.slice (some ⟨W.heap.size,0,none⟩) 16 16)).run Tryz.prog (W.alloc (.cells #[.int .u8 0,.int .u8 0,.int .u8 0,.int .u8 0,.int .u8 0,.int .u8 0,.int .u8 0,.int .u8 0,.int .u8 0,.int .u8 0,.int .u8 0,.int .u8 0,.int .u8 0,.int .u8 0,.int .u8 0,.int .u8 0] 5)) = .ok (.string z) (W.alloc (.cells #[.int .u8 0,.int .u8 0,.int .u8 0,.int .u8 0,.int .u8 0,.int .u8 0,.int .u8 0,.int .u8 0,.int .u8 0,.int .u8 0,.int .u8 0,.int .u8 0,.int .u8 0,.int .u8 0,.int .u8 0,.int .u8 0] 5)):=fun W=>by
  rw [hz];exact conv16 (Blk.new W 5 (List.replicate 16 (.int .u8 0)))
 have hc1:=hc (w.alloc (.cells #[.int .i64 (-1),.string ⟨#[]⟩] 204))
 simp only [World.size_alloc] at hc1
 rw [<- hz]
 clear hz hc
 go_enter Tryz.func131,Tryz.ntmps131
 go_wp2_with fail
 go_ret
 exact ⟨rfl,((Fr.refl _ _).alloc _).alloc _⟩
theorem dslot_calls {i:Nat} (hi:i < 255) {s:ByteArray} (hs:s.size <= 14) (w:World) :
 Calls Tryz.prog 131 #[.agg #[.int .i64 i,.string s]] w fun e w'=>e = .returned (.string ⟨(txtT (i + 1) s).toArray⟩) /\ Fr Nob w w':=by
 have hmk:∀ W:World,(Instr.makeSlice 116 (.int .i64 14) (.int .i64 14)).run Tryz.prog W = .ok (.slice (some ⟨W.heap.size,0,none⟩) 14 14) (W.alloc (.cells #[.int .u8 0,.int .u8 0,.int .u8 0,.int .u8 0,.int .u8 0,.int .u8 0,.int .u8 0,.int .u8 0,.int .u8 0,.int .u8 0,.int .u8 0,.int .u8 0,.int .u8 0,.int .u8 0] 5)):=fun W=>by
  have:=run_make_row' (P:=Tryz.prog) 116 5 (.int .u8 0) 1 Tryz.underlying116 Tryz.infoU8 rfl .i64 .i64 14 (by decide) (by decide) W
  rw [made14] at this
  exact this
 have hfin:=slot_text hi hs
 obtain ⟨S2,hS2⟩:∃ S2:ByteArray,S2 = strOf [((i + 1:Nat):Int),0]:=⟨_,rfl⟩
 obtain ⟨ZZ,hZZ⟩:∃ ZZ:ByteArray,ZZ = strOf (List.replicate 14 0):=⟨_,rfl⟩
 have l1:S2.size = 2:=by rw [<- bytes_len,hS2,strOf_list];rfl
 have l2:ZZ.size = 14:=by rw [<- bytes_len,hZZ,strOf_list];rfl
 obtain ⟨y,hy⟩:∃ y:Int,y = ((i + 1:Nat):Int):=⟨_,rfl⟩
 have c2:∀ (W:World) (g:Nat),Blk W g 5 [.int .u8 y,.int .u8 0] -> (convert 116 9 (.slice (some ⟨g,0,none⟩) 2 2)).run Tryz.prog W = .ok (.string S2) W:=fun W g hb=>by
  rw [hS2];exact conv_bytes rfl (by rw [hy] at hb;exact hb)
 have c14:∀ (W:World) (g:Nat),Blk W g 5 (List.replicate 14 (.int .u8 0)) -> (convert 116 9 (.slice (some ⟨g,0,none⟩) 14 14)).run Tryz.prog W = .ok (.string ZZ) W:=fun W g hb=>by
  rw [hZZ];exact conv_bytes rfl (by rw [List.map_replicate];exact hb)
 rw [<- hS2,<- hZZ] at hfin
 obtain ⟨W1,hW1⟩:∃ W1,W1 = w.alloc (.cells #[.int .i64 i,.string s] 204):=⟨_,rfl⟩
 have hb0:Blk W1 w.heap.size tDSlot [.int .i64 i,.string s]:=by rw [hW1];exact Blk.new w tDSlot _
 have hf1:Fr Nob w W1:=by rw [hW1];exact (Fr.refl _ _).alloc _
 have P1:=Blk.new W1 5 [.int .u8 y,.int .u8 0]
 have Q1:=Blk.new W1 5 (List.replicate 14 (.int .u8 0))
 have P2:=Blk.new (W1.alloc (.cells (List.replicate 14 (.int .u8 0)).toArray 5)) 5 [.int .u8 y,.int .u8 0]
 have Q2:=Blk.new (W1.alloc (.cells ([.int .u8 y,.int .u8 0]:List Value).toArray 5)) 5 (List.replicate 14 (.int .u8 0))
 have kA1:=c2 _ _ P1.drew
 have kA1':=c2 _ _ (P1.alloc (.cells (List.replicate 14 (.int .u8 0)).toArray 5)).drew
 have kA2:=c14 _ _ Q2.drew
 have kB2:=c14 _ _ Q1.drew
 have kB2':=c14 _ _ (Q1.alloc (.cells ([.int .u8 y,.int .u8 0]:List Value).toArray 5)).drew
 have kB1:=c2 _ _ P2.drew
 simp only [World.size_alloc] at kA2 kB1
 rw [show (List.replicate 14 (Value.int .u8 0)).toArray = #[.int .u8 0,.int .u8 0,.int .u8 0,.int .u8 0,.int .u8 0,.int .u8 0,.int .u8 0,.int .u8 0,.int .u8 0,.int .u8 0,.int .u8 0,.int .u8 0,.int .u8 0,.int .u8 0] from rfl] at *
 have e0:=hb0.cell (j:=0) rfl
 have e1:=hb0.cell (j:=1) rfl
 have g0:¬ (i:Int) < 0:=by omega
 have w1:IntKind.i64.wrap ((i:Int) + 1) = y:=by rw [IntKind.wrap_i64] <;> omega
 have w2:IntKind.u8.wrap y = y:=by unfold IntKind.wrap;simp [IntKind.signed,IntKind.bits];omega
 have a1:S2.size + s.size <= 9223372036854775807:=by omega
 have a2:(S2 ++ s).size + ZZ.size <= 9223372036854775807:=by rw [ByteArray.size_append];omega
 have n1:∀ W:World,(Op.stringOp .add S2 s).run Tryz.prog W = .ok (.string (S2 ++ s)) W:=fun W=>run_string_add_sum W _ _ a1
 have n2:∀ W:World,(Op.stringOp .add (S2 ++ s) ZZ).run Tryz.prog W = .ok (.string (S2 ++ s ++ ZZ)) W:=fun W=>run_string_add_sum W _ _ a2
 have hsz:16 <= (S2 ++ s ++ ZZ).size:=by rw [ByteArray.size_append,ByteArray.size_append];omega
 have HFIN:=hid hfin
 have HF1:=hid hf1
 have HW1:=hid hW1
 have e0':(w.alloc (.cells #[.int .i64 i,.string s] 204)).cell? ⟨w.heap.size,0,none⟩ = some (.int .i64 i):=by rw [<- hW1];exact e0
 have hbP:=hb0.alloc (.cells #[.int .u8 y,.int .u8 0] 5)
 have hbZ:=hb0.alloc (.cells #[.int .u8 0,.int .u8 0,.int .u8 0,.int .u8 0,.int .u8 0,.int .u8 0,.int .u8 0,.int .u8 0,.int .u8 0,.int .u8 0,.int .u8 0,.int .u8 0,.int .u8 0,.int .u8 0] 5)
 have hbPZ:=hbP.alloc (.cells #[.int .u8 0,.int .u8 0,.int .u8 0,.int .u8 0,.int .u8 0,.int .u8 0,.int .u8 0,.int .u8 0,.int .u8 0,.int .u8 0,.int .u8 0,.int .u8 0,.int .u8 0,.int .u8 0] 5)
 have hbZP:=hbZ.alloc (.cells #[.int .u8 y,.int .u8 0] 5)
 have eP0:=hbP.cell (j:=0) rfl
 have eP1:=hbP.cell (j:=1) rfl
 have eZ0:=hbZ.cell (j:=0) rfl
 have eZ1:=hbZ.cell (j:=1) rfl
 have eQ0:=hbPZ.cell (j:=0) rfl
 have eQ1:=hbPZ.cell (j:=1) rfl
 have eR0:=hbZP.cell (j:=0) rfl
 have eR1:=hbZP.cell (j:=1) rfl
 clear hbP hbZ hbPZ hbZP
 clear hfin hf1 hb0 P1 Q1 P2 Q2 c2 c14 hS2 hZZ l1 l2 a1 a2 hy hW1 hi hs
 go_enter Tryz.func131,Tryz.ntmps131
 go_wp2_with fail
 rw [show w.alloc (.cells #[.int .i64 i,.string s] 204) = W1 from HW1.out.symm]
 clear e0'
 go_region
 all_goals
  go_wp2_with fail
  go_ret
  exact ⟨by show Ending.returned (.string ((S2 ++ s ++ ZZ).extract 0 16)) = _;rw [HFIN.out],((HF1.out.alloc _).alloc _).drew⟩
end
theorem flat_slots:∀ (l:List SlotT),(∀ o ∈ l,SlotOk o) -> (l.flatMap sltT).length = 16 * l.length
 | [],_=>rfl
 | o :: l,h=>by
  rw [List.flatMap_cons,List.length_append,slt_len (h o (by simp)),flat_slots l (fun o ho=>h o (by simp [ho])),List.length_cons]
  omega
theorem slotok_some {i:Nat} {s:ByteArray} (h:SlotOk (some (i,s))):i < 32 /\ s.size <= 14:=⟨h.1,(named_iff.1 h.2).2.1⟩
theorem data_dir {x:TN} (h:x.kind = 2):dataT x = drcT x:=if_pos h
theorem data_file {x:TN} (h:x.kind ≠ 2):dataT x = x.data:=if_neg h
theorem dbytes_calls {w:World} (x:TN) {u:Value} (hrow:w.ownsRow 0 tDSlot 2 u x.slots.length (slotsV x.slots)) (hok:∀ o ∈ x.slots,SlotOk o) (hup:x.up < 255) (hlen:x.slots.length <= 1000) :
 Calls Tryz.prog 135 #[.agg #[.int .i64 x.kind,.int .i64 x.links,.string ⟨x.data.toArray⟩,u,.int .i64 x.up,.int .i64 x.held]] w fun e w'=>e = .returned (.string ⟨(dataT x).toArray⟩) /\ Fr Nob w w':=by
 obtain ⟨kd,hkd⟩:∃ k:Int,k = x.kind:=⟨_,rfl⟩
 obtain ⟨lk,hlk⟩:∃ k:Int,k = x.links:=⟨_,rfl⟩
 obtain ⟨hd,hhd⟩:∃ k:Int,k = x.held:=⟨_,rfl⟩
 obtain ⟨db,hdb⟩:∃ k:ByteArray,k = ⟨x.data.toArray⟩:=⟨_,rfl⟩
 rw [<- hkd,<- hlk,<- hhd,<- hdb]
 obtain ⟨up,hupp⟩:∃ k:Nat,k = x.up:=⟨_,rfl⟩
 rw [<- hupp] at hup ⊢
 by_cases h2:kd = 2
 ·have t2:(kd != 2) = false:=by simpa using h2
  have hk2:x.kind = 2:=by omega
  have hFIN:∀ S:ByteArray,S.data.toList = txtT (up + 1) dot2 ++ x.slots.flatMap sltT -> S = ⟨(dataT x).toArray⟩:=fun S h=>by
   refine bytes_of ?_
   rw [h,data_dir hk2,hupp]
   rfl
  have HFIN:=hid hFIN
  obtain ⟨ao,cap,hu⟩:=row_any hrow
  have HROW:=hid hrow
  subst hu
  obtain ⟨sl,hsl⟩:∃ sl,sl = x.slots:=⟨_,rfl⟩
  rw [<- hsl] at HFIN HROW hok hlen ⊢
  obtain ⟨n,hn⟩:∃ n,n = sl.length:=⟨_,rfl⟩
  rw [<- hn] at hlen ⊢
  have HLN:=hid hn
  rw [<- hn] at HROW
  have HOK:=hid hok
  obtain ⟨RV,hRV⟩:∃ RV:ByteArray,RV = ⟨(dataT x).toArray⟩:=⟨_,rfl⟩
  rw [<- hRV] at HFIN ⊢
  have HD:Hid (∀ W:World,Calls Tryz.prog 131 #[.agg #[.int .i64 up,.string ⟨#[46,46]⟩]] W fun e w'=>e = .returned (.string ⟨(txtT (up + 1) dot2).toArray⟩) /\ Fr Nob W w'):=hid fun W=>dslot_calls hup (by decide) W
  have HF0:Hid (Fr Nob w (w.alloc (.cells ([.int .i64 kd,.int .i64 lk,.string db,.slice ao n cap,.int .i64 up,.int .i64 hd]:List Value).toArray tDNode))):=hid ((Fr.refl _ _).alloc _)
  have HB0:=hid (Blk.new w tDNode [.int .i64 kd,.int .i64 lk,.string db,.slice ao n cap,.int .i64 up,.int .i64 hd])
  clear hkd hlk hhd hdb hupp hup hk2 hFIN hrow hsl hn hok hRV h2
  go_enter Tryz.func135,Tryz.ntmps135
  go_wp2_with fail
  rw [show w.alloc (.cells #[.int .i64 kd,.int .i64 lk,.string db,.slice ao n cap,.int .i64 up,.int .i64 hd] 141) = w.alloc (.cells ([.int .i64 kd,.int .i64 lk,.string db,.slice ao n cap,.int .i64 up,.int .i64 hd]:List Value).toArray tDNode) from rfl]
  refine (HD.out _).mono ?_
  rintro e w2 ⟨rfl,hf2⟩
  have HF2:=hid (HF0.out.trans hf2)
  have HB2:=hid (HB0.out.fr hf2 (fun h=>h))
  clear hf2 HF0 HB0
  go_wp2_with fail
  go_loopw [3,4] (fun s3 s4 wr=>∃ (i:Nat) (S:ByteArray),i <= n /\ s3 = .string S /\ s4 = .int .i64 i /\ Hid (S.data.toList = txtT (up + 1) dot2 ++ (sl.take i).flatMap sltT) /\ Hid (Fr Nob w wr) /\ Hid (Blk wr w.heap.size tDNode [.int .i64 kd,.int .i64 lk,.string db,.slice ao n cap,.int .i64 up,.int .i64 hd])) (fun _ s4 _=>n - (intOf s4).toNat)
  case atStart=>exact ⟨0,_,Nat.zero_le _,rfl,rfl,hid (by simp),HF2,HB2⟩
  case round =>
   obtain ⟨i,S,hi,rfl,rfl,HS,HF,HB⟩:=hrel
   clear HF2 HB2
   have k3:=HB.out.cell (j:=3) rfl
   by_cases hlt:i < n
   ·have hlt2:(i:Int) < (n:Int):=by omega
    have hlen2:i < sl.length:=by rw [<- HLN.out];exact hlt
    obtain ⟨o,ho⟩:∃ o,sl[i]? = some o:=⟨_,List.getElem?_eq_getElem hlen2⟩
    obtain ⟨b,hb⟩:∃ b,ao = some ⟨b,0,none⟩:=by
     rcases row_form HROW.out with ⟨_,h0⟩ | ⟨g,cap2,hv⟩
     ·omega
     ·simp only [Value.slice.injEq] at hv
      exact ⟨g,hv.1⟩
    subst hb
    have hcell:∀ j y,(slotV o)[j]? = some y -> w.cell? ⟨b,i * 2 + j,none⟩ = some y:=fun j y hy=>by
     have hj:j < 2:=by rw [<- slotV_length o];exact (List.getElem?_eq_some_iff.1 hy).1
     have:=HROW.out.cells (g:=b) rfl (i * 2 + j) y (by rw [slotsV_get _ ho hj];exact hy)
     rw [Addr.add_lit,Nat.zero_add] at this
     exact this
    have hmem:=HOK.out o (List.mem_of_getElem? ho)
    cases o with
    | none =>
     obtain ⟨TX,hTX0⟩:∃ TX:ByteArray,TX = ⟨(List.replicate 16 (0:UInt8)).toArray⟩:=⟨_,rfl⟩
     have hTX:TX.data.toList = sltT none:=by rw [hTX0];rfl
     have hTL:(sltT none).length = 16:=rfl
     have e0:wr.cell? ⟨b,i * 2,none⟩ = some (.int .i64 (-1)):=HF.out.cell (by simpa using hcell 0 _ rfl) (fun h=>h)
     have e1:wr.cell? ⟨b,i * 2 + 1,none⟩ = some (.string ⟨#[]⟩):=HF.out.cell (hcell 1 _ rfl) (fun h=>h)
     have HC:=dslotN_calls wr
     rw [<- hTX0] at HC
     have HC:=hid HC
     have hS2:(S ++ TX).data.toList = txtT (up + 1) dot2 ++ (sl.take (i + 1)).flatMap sltT:=by
      rw [toList_append,HS.out,List.append_assoc,List.take_add_one,ho,hTX]
      simp [sltT]
     have hsz:S.size + TX.size <= 9223372036854775807:=by
      have h1:=bytes_len S
      rw [HS.out,List.length_append,txt_len (by decide)] at h1
      have h2:=flat_slots (sl.take i) (fun o ho=>HOK.out o (List.mem_of_mem_take ho))
      have h3:(sl.take i).length <= i:=by rw [List.length_take];omega
      have h4:TX.size = 16:=by rw [<- bytes_len,hTX];exact hTL
      omega
     have n1:∀ W:World,(Op.stringOp .add S TX).run Tryz.prog W = .ok (.string (S ++ TX)) W:=fun W=>run_string_add_sum W _ _ hsz
     have HS2:=hid hS2
     clear hcell ho hS2 hsz hTX hTL hTX0
     go_wp2_with fail
     refine HC.out.mono ?_
     rintro e w3 ⟨rfl,hf3⟩
     have HF3:=hid (HF.out.trans hf3)
     have HB3:=hid (HB.out.fr hf3 (fun h=>h))
     clear hf3
     go_wp2_with fail
     go_roundw
     case rel=>exact ⟨i + 1,_,hlt,rfl,by go_num,HS2,HF3,HB3⟩
     case measure=>simp [intOf] <;> omega
    | some y =>
     obtain ⟨ino,s⟩:=y
     obtain ⟨TX,hTX0⟩:∃ TX:ByteArray,TX = ⟨(txtT (ino + 1) s).toArray⟩:=⟨_,rfl⟩
     have hTX:TX.data.toList = sltT (some (ino,s)):=by rw [hTX0];rfl
     have hTL:(sltT (some (ino,s))).length = 16:=slt_len hmem
     have e0:wr.cell? ⟨b,i * 2,none⟩ = some (.int .i64 (ino:Nat)):=HF.out.cell (by simpa using hcell 0 _ rfl) (fun h=>h)
     have e1:wr.cell? ⟨b,i * 2 + 1,none⟩ = some (.string s):=HF.out.cell (hcell 1 _ rfl) (fun h=>h)
     have HC:=dslot_calls (i:=ino) (s:=s) (by have:=(slotok_some hmem).1;omega) (slotok_some hmem).2 wr
     rw [<- hTX0] at HC
     have HC:=hid HC
     have hS2:(S ++ TX).data.toList = txtT (up + 1) dot2 ++ (sl.take (i + 1)).flatMap sltT:=by
      rw [toList_append,HS.out,List.append_assoc,List.take_add_one,ho,hTX]
      simp [sltT]
     have hsz:S.size + TX.size <= 9223372036854775807:=by
      have h1:=bytes_len S
      rw [HS.out,List.length_append,txt_len (by decide)] at h1
      have h2:=flat_slots (sl.take i) (fun o ho=>HOK.out o (List.mem_of_mem_take ho))
      have h3:(sl.take i).length <= i:=by rw [List.length_take];omega
      have h4:TX.size = 16:=by rw [<- bytes_len,hTX];exact hTL
      omega
     have n1:∀ W:World,(Op.stringOp .add S TX).run Tryz.prog W = .ok (.string (S ++ TX)) W:=fun W=>run_string_add_sum W _ _ hsz
     have HS2:=hid hS2
     clear hcell ho hS2 hsz hTX hTL hTX0
     go_wp2_with fail
     refine HC.out.mono ?_
     rintro e w3 ⟨rfl,hf3⟩
     have HF3:=hid (HF.out.trans hf3)
     have HB3:=hid (HB.out.fr hf3 (fun h=>h))
     clear hf3
     go_wp2_with fail
     go_roundw
     case rel=>exact ⟨i + 1,_,hlt,rfl,by go_num,HS2,HF3,HB3⟩
     case measure=>simp [intOf] <;> omega
   ·obtain rfl:i = n:=by omega
    have hlt2:¬ (i:Int) < (i:Int):=by omega
    have hs:=HS.out
    rw [List.take_of_length_le (by rw [HLN.out];exact Nat.le_refl _)] at hs
    have hr:=HFIN.out S hs
    have HR:=hid hr
    clear hs hr
    go_wp2_with fail
    go_ret
    exact ⟨by rw [<- HR.out];rfl,HF.out⟩
 ·have t2:(kd != 2) = true:=by simpa using h2
  have hk2:x.kind ≠ 2:=by omega
  have hr:(⟨(dataT x).toArray⟩:ByteArray) = db:=by rw [data_file hk2,hdb]
  rw [hr]
  clear hr hk2 hkd hlk hhd hdb hupp hup hrow hok h2
  go_enter Tryz.func135,Tryz.ntmps135
  go_wp2_with fail
  go_ret
  exact ⟨rfl,(Fr.refl _ _).alloc _⟩
end Go.Proofs.YtngalllaiphkhaaGreatDoor
