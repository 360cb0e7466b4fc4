import Derived.Test.YtngalllaiphkhaaGreatDoorZTfH
namespace Go.Proofs.YtngalllaiphkhaaGreatDoor
open Go.RowKit
open Go.Lib (hid)
set_option maxRecDepth 100000
set_option maxHeartbeats 16000000
set_option linter.unusedVariables false
set_option linter.unusedSimpArgs false
section
variable {S0:Nat -> Prop} {w0 w:World} {t v b d m:Nat} {p:Int} {T:Tr} {B R:Asr}
theorem TV.blk {x e:Nat} {cs:List Value} (h:TV p S0 w0 t v b d m T (Star (blkA x e cs) B) w):Blk w x e cs:=by
 obtain ⟨L,H,X,h1,_⟩:=h
 obtain ⟨S,hS⟩:=((VV.out h1).drop.drop.drop.drop).first
 exact hS.1
end
theorem treeLinks_calls {acts:List ActT} {ao:Option Addr} {cap:Nat} {w:World} (a b2 s:ByteArray) (hS:Srcs w (.slice ao acts.length cap) acts.length 9 (flat9 acts)) (hb:acts.length * 96 <= 140737488351232) :
 Calls Tryz.prog 4 #[.agg #[.slice ao acts.length cap,.string a,.string b2,.string s]] w fun e w'=>e = .returned (.bool true) /\ Fr Nob w w':=by
 have HSH:=hid (tshown_calls (w.alloc (.cells #[.slice ao acts.length cap,.string a,.string b2,.string s] 35)))
 have HM:Hid (∀ W,Fr Nob w W -> Calls Tryz.prog 12 #[.slice ao acts.length cap] W (MadeP W)):=hid fun W hf=>lmade_calls (hS.fr hf (fun _ _ _ _ h=>h)) hb
 generalize acts.length = an at *
 have HF0:Hid (Fr Nob w (w.alloc (.cells #[.slice ao an cap,.string a,.string b2,.string s] 35))):=hid ((Fr.refl _ _).alloc _)
 clear hS hb
 go_enter Tryz.func4,Tryz.ntmps4
 go_wp2_with fail
 refine HSH.out.mono ?_
 rintro e w1 ⟨rfl,hf1⟩
 have HF1:=hid (HF0.out.trans hf1)
 have HMD:=hid (HM.out w1 HF1.out)
 clear hf1 HM HSH HF0
 go_wp2_with fail
 refine HMD.out.mono ?_
 rintro e w2 ⟨d,t,b,v,T,rfl,hI,V2⟩
 have HI:=hid hI
 have HC:=hid ((tMake_calls V2 loc_emp hI 0 1 a).mono fun e w' h=>h.live)
 have HLAW:=hid (fun h h2=>links_law (m:=88) hI (a:=a) (b:=b2) (s:=s) h h2)
 have HI1:=hid (hI.makes (m:=88) (from_:=0) (kind:=1) (path:=a))
 obtain ⟨N,hN⟩:∃ N,N = makeN 88 T 0 a 1:=⟨_,rfl⟩
 obtain ⟨E1,hE1⟩:∃ E,E = (makeT 88 T 0 a 1).1:=⟨_,rfl⟩
 obtain ⟨U1,hU1⟩:∃ U,U = (makeT 88 T 0 a 1).2:=⟨_,rfl⟩
 rw [<- hN,<- hE1,<- hU1] at HC
 rw [<- hN,<- hE1,<- hU1] at HLAW
 rw [<- hU1] at HI1
 clear hN hE1 hU1 V2 hI HMD HI
 go_wp2_with fail
 refine HC.out.mono ?_
 rintro e w3 ⟨rfl,V3⟩
 clear HC
 by_cases h1:E1 = 0
 case neg =>
  have t1:(E1 != 0) = true:=bne_iff_ne.2 h1
  have HFR:=hid (HF1.out.trans (VT.fr V3))
  clear V3 h1 HLAW HI1
  go_wp2_with fail
  go_ret
  exact ⟨rfl,HFR.out⟩
 subst h1
 have HC:=hid ((tLink_calls V3 loc_emp HI1.out 0 a b2).mono fun e w' h=>h.live)
 have HLAW:=hid (HLAW.out rfl)
 have HI2:=hid (HI1.out.linkt (m:=88) (from_:=0) (old:=a) (path:=b2))
 obtain ⟨E2,hE2⟩:∃ E,E = (linkT 88 U1 0 a b2).1:=⟨_,rfl⟩
 obtain ⟨U2,hU2⟩:∃ U,U = (linkT 88 U1 0 a b2).2:=⟨_,rfl⟩
 rw [<- hE2,<- hU2] at HC
 rw [<- hE2,<- hU2] at HLAW
 rw [<- hU2] at HI2
 clear hE2 hU2 V3 HI1
 go_wp2_with fail
 refine HC.out.mono ?_
 rintro e w4 ⟨rfl,V4⟩
 clear HC
 by_cases h2:E2 = 0
 case neg =>
  have t1:(E2 != 0) = true:=bne_iff_ne.2 h2
  have HFR:=hid (HF1.out.trans (VT.fr V4))
  clear V4 h2 HLAW HI2
  go_wp2_with fail
  go_ret
  exact ⟨rfl,HFR.out⟩
 subst h2
 have hl:=HLAW.out rfl
 have hI3:=HI2.out.write (m:=88) (n:=(N:Int)) (off:=0) (s:=s)
 have HC:=hid ((twrite_calls V4 HI2.out loc_emp N 0 s).mono fun e w' h=>h.live)
 obtain ⟨E3,hE3⟩:∃ E,E = (writeT 88 U2 N 0 s).1:=⟨_,rfl⟩
 obtain ⟨U3,hU3⟩:∃ U,U = (writeT 88 U2 N 0 s).2:=⟨_,rfl⟩
 rw [<- hE3,<- hU3] at HC hl
 rw [<- hU3] at hI3
 obtain ⟨hn,hfd,hk3,hl3,hdat,hu4,hk4,hl4⟩:=hl
 obtain ⟨U4,hU4⟩:∃ U,U = (unlinkT U3 0 a).2:=⟨_,rfl⟩
 rw [<- hU4] at hk4 hl4
 have HI3:=hid hI3
 have HFD:Hid (∀ W,TV (-1) Nob w1 t v b d 88 U3 Emp W -> Calls Tryz.prog 13 #[.pointer (some ⟨t,0,none⟩),.int .i64 0,.string b2] W fun e w'=>e = .returned (.tuple #[.int .i64 N,.int .i64 0]) /\ TV (-1) Nob w1 t v b d 88 U3 Emp w'):=hid fun W h=>by
  have:=tFind_calls h loc_emp HI3.out 0 b2;rw [hfd] at this;exact this
 obtain ⟨hs0,x1,x2,hs1,hx1,_⟩:=stat_at (T:=U3) hn (by omega)
 have hre:areadE (volT U3) N 0 600 = 0:=by unfold areadE;rw [hs0,if_neg (by decide),if_neg (by decide)]
 have hrs:E3 = 0 -> areadB (volT U3) N 0 600 = s:=fun h=>read_all hn hk3 (hdat h).1 (hdat h).2
 obtain ⟨u,hu⟩:∃ u,u = areadB (volT U3) N 0 600:=⟨_,rfl⟩
 rw [<- hu] at hrs
 have HRD:Hid (∀ W,TV (-1) Nob w1 t v b d 88 U3 Emp W -> Calls Tryz.prog 18 #[.pointer (some ⟨t,0,none⟩),.int .i64 N,.int .i64 0,.int .i64 600] W fun e w'=>e = .returned (.tuple #[.string u,.int .i64 0]) /\ TV (-1) Nob w1 t v b d 88 U3 Emp w'):=hid fun W h=>by
  have:=tread_calls h loc_emp (N:Int) 0 600;rw [hre,<- hu] at this;exact this
 rw [hl3] at hx1
 rw [hx1,hk3] at hs1
 have HST:Hid (∀ W,TV (-1) Nob w1 t v b d 88 U3 Emp W -> Calls Tryz.prog 14 #[.pointer (some ⟨t,0,none⟩),.int .i64 N] W fun e w'=>e = .returned (.tuple #[.agg #[.int .i64 1,.int .i64 2,.int .i64 x2],.int .i64 0]) /\ TV (-1) Nob w1 t v b d 88 U3 Emp w'):=hid fun W h=>by
  have:=tstat_calls h loc_emp (N:Int);rw [hs0,hs1] at this;exact this
 have HUN:Hid (∀ W B,Loc B -> TV (-1) Nob w1 t v b d 88 U3 B W -> Calls Tryz.prog 19 #[.pointer (some ⟨t,0,none⟩),.int .i64 0,.string a] W fun e w'=>e = .returned (.int .i64 0) /\ TV (-1) Nob w1 t v b d 88 U4 B w'):=hid fun W B hB h=>by
  have:=(tUnlink_calls h hB HI3.out 0 a).mono fun e w' h=>h.live
  rw [hu4,<- hU4] at this;exact this
 obtain ⟨hr0,y1,y2,hr1,hy1,_⟩:=stat_at (T:=U4) hn (by omega)
 rw [hl4] at hy1
 rw [hy1,hk4] at hr1
 have HSU:Hid (∀ W B,Loc B -> TV (-1) Nob w1 t v b d 88 U4 B W -> Calls Tryz.prog 14 #[.pointer (some ⟨t,0,none⟩),.int .i64 N] W fun e w'=>e = .returned (.tuple #[.agg #[.int .i64 1,.int .i64 1,.int .i64 y2],.int .i64 0]) /\ TV (-1) Nob w1 t v b d 88 U4 B w'):=hid fun W B hB h=>by
  have:=tstat_calls h hB (N:Int);rw [hr0,hr1] at this;exact this
 have HRS:=hid hrs
 clear HLAW hI3 hfd hk3 hl3 hdat hu4 hk4 hl4 hs0 hs1 hx1 hre hrs hu hr0 hr1 hy1 hE3 hU3 hU4 V4 hn HI2 HI3 x1 y1
 go_wp2_with fail
 refine HC.out.mono ?_
 rintro e w5 ⟨rfl,V5⟩
 have HF:=hid (HFD.out _ V5)
 clear V5 HFD HC
 go_wp2_with fail
 refine HF.out.mono ?_
 rintro e w6 ⟨rfl,V6⟩
 have HR:=hid (HRD.out _ V6)
 clear V6 HRD HF
 go_wp2_with fail
 refine HR.out.mono ?_
 rintro e w7 ⟨rfl,V7⟩
 have HS:=hid (HST.out _ V7)
 clear V7 HST HR
 go_wp2_with fail
 refine HS.out.mono ?_
 rintro e w8 ⟨rfl,V8⟩
 have VA:=(VT.box V8 (loc_star (loc_blk _ _ _) loc_emp) tStat9 [.int .i64 1,.int .i64 2,.int .i64 x2]).flip
 have HU:=hid (HUN.out _ _ (loc_star (loc_blk _ _ _) loc_emp) VA)
 clear HUN V8 VA HS
 go_wp2_with fail
 refine HU.out.mono ?_
 rintro e w9 ⟨rfl,V9⟩
 have HV:=hid (HSU.out _ _ (loc_star (loc_blk _ _ _) loc_emp) V9)
 clear HSU V9 HU
 go_wp2_with fail
 refine HV.out.mono ?_
 rintro e wA ⟨rfl,VA⟩
 have hbk:=TV.blk VA
 obtain ⟨bx,hbx⟩:∃ bx,bx = w8.heap.size:=⟨_,rfl⟩
 rw [<- hbx] at hbk
 have c1:(wA.alloc (.cells #[.int .i64 1,.int .i64 1,.int .i64 y2] tStat9)).cell? ⟨bx,1,none⟩ = some (.int .i64 2):=(hbk.fr ((Fr.refl Nob _).alloc _) (fun h=>h)).cell rfl
 rw [hbx] at c1
 have HFR:=hid ((HF1.out.trans (VT.fr VA)).alloc (.cells #[.int .i64 1,.int .i64 1,.int .i64 y2] tStat9))
 clear VA HV hbk hbx
 by_cases h3:E3 = 0
 ·have hu:=HRS.out h3
  subst hu
  subst h3
  clear HRS
  go_wp2_with fail
  go_ret
  exact ⟨rfl,HFR.out⟩
 ·have t3:(E3 != 0) = true:=bne_iff_ne.2 h3
  clear HRS h3
  go_wp2_with fail
  go_ret
  exact ⟨rfl,HFR.out⟩
end Go.Proofs.YtngalllaiphkhaaGreatDoor
