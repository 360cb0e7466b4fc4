import Derived.Test.YtngalllaiphkhaaGreatDoorZUE
namespace Go.Proofs.YtngalllaiphkhaaGreatDoor
open Go.RowKit
open Go.Lib (hid)
set_option maxRecDepth 100000
set_option maxHeartbeats 16000000
set_option linter.unusedVariables false
set_option linter.unusedSimpArgs false
theorem lists_empty {T:Tr} {n:Int} (h:listE T n ≠ 0):listT T n = []:=if_pos h
section
variable {S0:Nat -> Prop} {w0 w:World} {t v b d m:Nat} {p:Int} {T:Tr} {B R:Asr}
theorem TV.row {u:Value} {n:Nat} {xs:List Value} {e sz:Nat} (h:TV p S0 w0 t v b d m T (Star (rowA e sz u n xs) B) w):w.ownsRow 0 e sz u n xs:=by
 obtain ⟨L,H,X,h1,_⟩:=h
 obtain ⟨S,hS⟩:=((VV.out h1).drop.drop.drop.drop).first
 exact hS.1
theorem TV.name {g n cap:Nat} {ls:List ByteArray} (h:TV p S0 w0 t v b d m T (Star (rowA tStr 1 (.slice (some ⟨g,0,none⟩) n cap) n (strsT ls)) B) w) {i:Nat} {s:ByteArray} (hs:ls[i]? = some s):w.cell? ⟨g,i,none⟩ = some (.string s):=by
 have:=(TV.row h).cells (g:=g) rfl i (.string s) (strsT_at hs)
 simpa [Addr.add_lit] using this
end
theorem treeLists_calls {acts:List ActT} {ao:Option Addr} {cap:Nat} {w:World} (n:Int) (hS:Srcs w (.slice ao acts.length cap) acts.length 9 (flat9 acts)) (hb:acts.length * 96 <= 140737488351232) :
 Calls Tryz.prog 5 #[.slice ao acts.length cap,.int .i64 n] w fun e w'=>e = .returned (.bool true) /\ Fr Nob w w':=by
 have HSH:=hid (tshown_calls w)
 have HM:Hid (∀ W,Fr Nob w W -> Calls Tryz.prog 12 #[.slice ao acts.length cap] W (MadeP W)):=hid fun W hf=>lmade_calls (hS.fr hf (fun _ _ _ _ h=>h)) hb
 generalize acts.length = an at *
 clear hS hb
 go_enter Tryz.func5,Tryz.ntmps5
 go_wp2_with fail
 refine HSH.out.mono ?_
 rintro e w1 ⟨rfl,hf1⟩
 have HF1:=hid hf1
 have HMD:=hid (HM.out w1 hf1)
 clear hf1 HM HSH
 go_wp2_with fail
 refine HMD.out.mono ?_
 rintro e w2 ⟨d,t,b,v,T,rfl,hI,V2⟩
 have HI:=hid hI
 have HL:=hid (tlist_calls V2 loc_emp hI n)
 have HLE:=hid (lists_empty (T:=T) (n:=n))
 have HNM:=hid (fun h s=>lists_name hI (n:=n) h (s:=s))
 have HON:=hid (fun i k s t'=>lists_once hI (n:=n) (i:=i) (k:=k) (s:=s) (t:=t'))
 have hln:=list_len hI n
 obtain ⟨ls,hls⟩:∃ ls,ls = listT T n:=⟨_,rfl⟩
 obtain ⟨E,hE⟩:∃ E,E = listE T n:=⟨_,rfl⟩
 rw [<- hls] at HL HLE HNM HON hln
 rw [<- hE] at HL HLE HNM
 have HNB:=hid hln
 clear V2 hI hls hE HMD hln
 go_wp2_with fail
 refine HL.out.mono ?_
 rintro e w3 ⟨u,rfl,V3⟩
 by_cases h0:E = 0
 ·subst h0
  obtain ⟨k,hk⟩:∃ k,k = ls.length:=⟨_,rfl⟩
  have HK:=hid hk
  obtain ⟨a2,c2,rfl⟩:=row_any (TV.row V3)
  rw [<- hk] at V3
  have hkb:k <= 148:=by rw [hk];exact HNB.out
  have HV3:=hid V3
  rw [<- hk]
  clear V3 hk
  go_wp2_with fail
  go_loopw [9] (fun s9 wr=>∃ i:Nat,i <= k /\ s9 = .int .i64 i /\ Hid (TV (-1) Nob w1 t v b d 88 T (Star (rowA tStr 1 (.slice a2 k c2) k (strsT ls)) Emp) wr)) (fun s9 _=>k - (intOf s9).toNat)
  case atStart=>exact ⟨0,Nat.zero_le _,rfl,HV3⟩
  case round =>
   obtain ⟨i,hi,rfl,HV⟩:=hrel
   clear HV3
   by_cases hlt:i < k
   ·have hlt2:(i:Int) < (k:Int):=by omega
    have hlen:i < ls.length:=by rw [<- HK.out];exact hlt
    obtain ⟨s,hs⟩:∃ s,ls[i]? = some s:=⟨_,List.getElem?_eq_getElem hlen⟩
    obtain ⟨g,hg⟩:∃ g,a2 = some ⟨g,0,none⟩:=by
     rcases row_form (TV.row HV.out) with ⟨_,h0⟩ | ⟨g,cap2,hv⟩
     ·omega
     ·simp only [Value.slice.injEq] at hv
      exact ⟨g,hv.1⟩
    subst hg
    have c0:=TV.name HV.out hs
    obtain ⟨hnm,hfd⟩:=HNM.out (by first | rfl | trivial) s (List.mem_of_getElem? hs)
    have hN:=dnamed_calls s wr
    rw [hnm] at hN
    have HN:=hid hN
    have hF:=tFind_calls HV.out (loc_star (loc_row _ _ _ _ _) loc_emp) HI.out n s
    rw [hfd] at hF
    obtain ⟨r1,hr1⟩:∃ r1,r1 = (findT T n s).1:=⟨_,rfl⟩
    rw [<- hr1] at hF
    have HF:=hid hF
    have HS:=hid hs
    clear hnm hfd hN hF hs hr1
    go_wp2_with fail
    refine HN.out.mono ?_
    rintro e w4 ⟨rfl,rfl⟩
    go_wp2_with fail
    refine HF.out.mono ?_
    rintro e w5 ⟨rfl,V5⟩
    have HV5:=hid V5
    clear V5 HF HN c0
    go_wp2_with fail
    go_loopw [13] (fun s13 wx=>∃ j:Nat,j <= i /\ s13 = .int .i64 j /\ Hid (TV (-1) Nob w1 t v b d 88 T (Star (rowA tStr 1 (.slice (some ⟨g,0,none⟩) k c2) k (strsT ls)) Emp) wx)) (fun s13 _=>i - (intOf s13).toNat)
    case atStart=>exact ⟨0,Nat.zero_le _,rfl,HV5⟩
    case round =>
     obtain ⟨j,hj,rfl,HX⟩:=hrel
     clear HV5
     by_cases hjl:j < i
     ·have hjl2:(j:Int) < (i:Int):=by omega
      have hjk2:(j:Int) < (k:Int):=by omega
      have hjk:j < k:=by omega
      have hlen2:j < ls.length:=by rw [<- HK.out];exact hjk
      obtain ⟨s2,hs2⟩:∃ s2,ls[j]? = some s2:=⟨_,List.getElem?_eq_getElem hlen2⟩
      have hne:=HON.out i j s s2 HS.out hs2 hjl
      have t0:(s2.toList == s.toList) = false:=by rw [bytes_beq];exact decide_eq_false hne
      have e0:=TV.name HX.out HS.out
      have e1:=TV.name HX.out hs2
      have HX2:=hid (VT.keep HX.out (loc_star (loc_blk _ _ _) (loc_star (loc_row _ _ _ _ _) loc_emp)) (Fr.refl _ _).drew)
      clear hne hs2 HX
      go_wp2_with fail
      go_region
      all_goals
       go_wp2_with fail
       go_roundw
       case rel=>exact ⟨j + 1,hjl,by go_num,HX2⟩
       case measure=>simp [intOf] <;> omega
     ·obtain rfl:j = i:=by omega
      have hjl2:¬ (j:Int) < (j:Int):=by omega
      go_wp2_with fail
      go_roundw
      case rel=>exact ⟨j + 1,hlt,by go_num,HX⟩
      case measure=>simp [intOf] <;> omega
   ·obtain rfl:i = k:=by omega
    have hlt2:¬ (i:Int) < (i:Int):=by omega
    have HFR:=hid (HF1.out.trans (VT.fr HV.out))
    go_wp2_with fail
    go_ret
    exact ⟨rfl,HFR.out⟩
 ·have hl:=HLE.out h0
  rw [hl] at V3
  obtain ⟨a2,c2,rfl⟩:=row_any (TV.row V3)
  have t0:(E != 0) = true:=bne_iff_ne.2 h0
  have HFR:=hid (HF1.out.trans (VT.fr V3))
  clear V3 hl h0
  go_wp2_with fail
  go_ret
  exact ⟨rfl,HFR.out⟩
end Go.Proofs.YtngalllaiphkhaaGreatDoor
