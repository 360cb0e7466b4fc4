import Derived.Test.YtngalllaiphkhaaGreatDoorZTfG
namespace Go.Proofs.YtngalllaiphkhaaGreatDoor
open Go.RowKit
open Go.Lib (hid)
set_option maxRecDepth 100000
set_option maxHeartbeats 16000000
set_option linter.unusedVariables false
set_option linter.unusedSimpArgs false
theorem find_at {T:Tr} (hI:TInv T) {from_:Int} {path:ByteArray} (h:(findT T from_ path).2 = 0):(findT T from_ path).1 < 32 /\ (T (findT T from_ path).1).kind ≠ 0:=by
 obtain ⟨e1,e2⟩:=walk_find (T:=T) from_ path
 have:=walk_ok hI (from_:=from_) (path:=path) (left:=0) (by rw [e2];exact h)
 rw [e1] at this
 exact this
theorem stat_at {T:Tr} {n:Nat} (hn:n < 32) (hk:(T n).kind ≠ 0):afindE (volT T) (n:Int) = 0 /\ ∃ x1 x2:Int,astatV (volT T) (n:Int) = .agg #[.int .i64 (T n).kind,.int .i64 x1,.int .i64 x2] /\ x1 = (T n).links /\ ((T n).kind = 1 -> x2 = (T n).data.length):=by
 have e0:afindE (volT T) (n:Int) = 0:=by rw [find_vol];exact tfind_ok hn hk
 refine ⟨e0,(T n).links,(dataT (T n)).length,?_,rfl,fun h=>by unfold dataT;rw [if_neg (by omega)]⟩
 unfold astatV
 rw [if_pos e0,Int.toNat_natCast,show volT T n = _ from nodeT_some hk]
 rfl
theorem cat_list (a b:ByteArray):(a ++ b).data.toList = a.data.toList ++ b.data.toList:=by
 rw [ByteArray.data_append,Array.toList_append]
theorem treePaths_calls {acts:List ActT} {ao:Option Addr} {cap:Nat} {w:World} (from_:Int) (path:ByteArray) (hS:Srcs w (.slice ao acts.length cap) acts.length 9 (flat9 acts)) (hb:acts.length * 96 <= 140737488351232) :
 Calls Tryz.prog 3 #[.slice ao acts.length cap,.int .i64 from_,.string path] w fun e w'=>e = .returned (.bool true) /\ Fr Nob w w':=by
 have HSH:=hid (tshown_calls w)
 have HM:Hid (∀ W,Fr Nob w W -> Calls Tryz.prog 12 #[.slice ao acts.length cap] W (MadeP W)):=hid fun W hf=>lmade_calls (hS.fr hf (fun _ _ _ _ h=>h)) hb
 generalize acts.length = an at *
 clear hS hb
 go_enter Tryz.func3,Tryz.ntmps3
 go_wp2_with fail
 refine HSH.out.mono ?_
 rintro e w1 ⟨rfl,hf1⟩
 have HF1:=hid hf1
 have HMD:=hid (HM.out w1 hf1)
 clear hf1 HM HSH
 go_wp2_with fail
 refine HMD.out.mono ?_
 rintro e w2 ⟨d,t,b,v,T,rfl,hI,V2⟩
 by_cases hz:path.size = 0 \/ 100 < path.size
 ·have HFR:=hid (HF1.out.trans (VT.fr V2))
  clear V2 hI HMD
  rcases hz with hz | hz
  ·have t0:((path.size:Int) == 0) = true:=by rw [beq_iff_eq];omega
   clear hz
   go_wp2_with fail
   go_ret
   exact ⟨rfl,HFR.out⟩
  ·have t0:((path.size:Int) == 0) = false:=by rw [beq_eq_false_iff_ne];omega
   have e1:(100:Int) < (path.size:Int):=by omega
   clear hz
   go_wp2_with fail
   go_ret
   exact ⟨rfl,HFR.out⟩
 have hz0:1 <= path.size:=by omega
 have hz1:path.size <= 100:=by omega
 have t0:((path.size:Int) == 0) = false:=by rw [beq_eq_false_iff_ne];omega
 have e1:¬ (100:Int) < (path.size:Int):=by omega
 have HI:=hid hI
 have HZ0:=hid hz0
 have HZ1:=hid hz1
 have hb0:byteAt path 0 = byteAt path 0:=rfl
 have hlt:0 < path.size:=by omega
 have hix:∀ W:World,(Instr.index 9 (.string path) (.int .i64 0)).run Tryz.prog W = .ok (.int .u8 (byteAt path 0:Int)) W:=fun W=>by
  rw [byteAt_get hlt];exact run_index_at (by rfl) hlt
 obtain ⟨N,hN⟩:∃ N,N = (findT T from_ path).1:=⟨_,rfl⟩
 obtain ⟨E,hE⟩:∃ E,E = (findT T from_ path).2:=⟨_,rfl⟩
 have hf0:findT T from_ path = (N,E):=by rw [hN,hE]
 have HK:=hid (find_at hI (from_:=from_) (path:=path))
 rw [hf0] at HK
 have HL:Hid (∀ W,TV (-1) Nob w1 t v b d 88 T Emp W -> Calls Tryz.prog 13 #[.pointer (some ⟨t,0,none⟩),.int .i64 from_,.string path] W fun e w'=>e = .returned (.tuple #[.int .i64 N,.int .i64 E]) /\ TV (-1) Nob w1 t v b d 88 T Emp w'):=hid fun W h=>by
  have:=tFind_calls h loc_emp hI from_ path;rw [hf0] at this;exact this
 have HL2:Hid (∀ W,TV (-1) Nob w1 t v b d 88 T Emp W -> Calls Tryz.prog 13 #[.pointer (some ⟨t,0,none⟩),.int .i64 from_,.string (path ++ ⟨#[47]⟩)] W fun e w'=>e = .returned (.tuple #[.int .i64 N,.int .i64 E]) /\ TV (-1) Nob w1 t v b d 88 T Emp w'):=hid fun W h=>by
  have:=tFind_calls h loc_emp hI from_ (path ++ ⟨#[47]⟩)
  rw [find_stroke hz0 hz1 (cat_list _ _),hf0] at this;exact this
 obtain ⟨N3,hN3⟩:∃ N3,N3 = (findT T from_ (path ++ ⟨#[47,46]⟩)).1:=⟨_,rfl⟩
 obtain ⟨E3,hE3⟩:∃ E3,E3 = (findT T from_ (path ++ ⟨#[47,46]⟩)).2:=⟨_,rfl⟩
 have hf3:findT T from_ (path ++ ⟨#[47,46]⟩) = (N3,E3):=by rw [hN3,hE3]
 have hd:=find_dot (T:=T) (from_:=from_) hz0 hz1 (cat_list path ⟨#[47,46]⟩)
 rw [hf3,hf0] at hd
 have HD:=hid hd
 have HL3:Hid (∀ W,TV (-1) Nob w1 t v b d 88 T Emp W -> Calls Tryz.prog 13 #[.pointer (some ⟨t,0,none⟩),.int .i64 from_,.string (path ++ ⟨#[47,46]⟩)] W fun e w'=>e = .returned (.tuple #[.int .i64 N3,.int .i64 E3]) /\ TV (-1) Nob w1 t v b d 88 T Emp w'):=hid fun W h=>by
  have:=tFind_calls h loc_emp hI from_ (path ++ ⟨#[47,46]⟩);rw [hf3] at this;exact this
 obtain ⟨by0,hby0⟩:∃ by0,by0 = byteAt path 0:=⟨_,rfl⟩
 rw [<- hby0] at hix
 have hb47:path.data.toList.getD 0 0 = 47 ↔ by0 = 47:=by
  rw [hby0]
  unfold byteAt
  constructor
  ·intro h;rw [h];rfl
  ·intro h;exact UInt8.toNat_inj.1 h
 have HL4:Hid (∀ W q,(by0 = 47 /\ q = (⟨#[47,47,46]⟩ ++ path:ByteArray) \/ ¬ by0 = 47 /\ q = (⟨#[46,47]⟩ ++ path:ByteArray)) -> TV (-1) Nob w1 t v b d 88 T Emp W -> Calls Tryz.prog 13 #[.pointer (some ⟨t,0,none⟩),.int .i64 from_,.string q] W fun e w'=>e = .returned (.tuple #[.int .i64 N,.int .i64 E]) /\ TV (-1) Nob w1 t v b d 88 T Emp w'):=hid fun W q hq h=>by
  have:=tFind_calls h loc_emp hI from_ q
  rw [find_front hI hz0 hz1 (by
   rcases hq with ⟨h1,h2⟩ | ⟨h1,h2⟩
   ·rw [if_pos (hb47.2 h1),h2];exact cat_list _ _
   ·rw [if_neg (fun h=>h1 (hb47.1 h)),h2];exact cat_list _ _),hf0] at this
  exact this
 have HL1:=hid (HL.out _ V2)
 clear V2 hI HMD hz hz0 hz1 hb0 hlt hN hE hf0 hN3 hE3 hf3 hd hby0 hb47
 go_wp2_with fail
 refine HL1.out.mono ?_
 rintro e w3 ⟨rfl,V3⟩
 have HLB:=hid (HL2.out _ V3)
 clear HL1 HL V3 HL2
 go_wp2_with fail
 refine HLB.out.mono ?_
 rintro e w4 ⟨rfl,V4⟩
 have HLC:=hid (HL3.out _ V4)
 clear HLB V4 HL3
 go_wp2_with fail
 refine HLC.out.mono ?_
 rintro e w5 ⟨rfl,V5⟩
 have HLE:=hid (fun q hq=>HL4.out _ q hq V5)
 clear HLC V5 HL4
 by_cases h47:by0 = 47
 all_goals
  have H47:=hid h47
  first
  | have b47:((by0:Int) == 47) = true:=by rw [beq_iff_eq];omega
  | have b47:((by0:Int) == 47) = false:=by rw [beq_eq_false_iff_ne];omega
  clear h47
  go_wp2_with fail
  refine (HLE.out _ (by first | exact .inl ⟨H47.out,rfl⟩ | exact .inr ⟨H47.out,rfl⟩)).mono ?_
  rintro e w6 ⟨rfl,V6⟩
  clear HLE H47
  have HFR:=hid (HF1.out.trans (VT.fr V6))
  by_cases hE0:E = 0
  ·subst hE0
   obtain ⟨hn,hk⟩:=HK.out rfl
   obtain ⟨hs0,x1,x2,hs1,_⟩:=stat_at hn hk
   have hst:=tstat_calls V6 loc_emp (N:Int)
   rw [hs0,hs1] at hst
   have HST:=hid hst
   have hd:=HD.out
   rw [if_neg (fun h=>h rfl)] at hd
   by_cases hk2:(T N).kind = 2
   ·rw [if_neg (fun h=>h hk2),Prod.mk.injEq] at hd
    obtain ⟨rfl,rfl⟩:=hd
    rw [hk2] at HST
    clear hst hs0 hs1 hn hk HK HD V6 hk2
    go_wp2_with fail
    refine HST.out.mono ?_
    rintro e w7 ⟨rfl,V7⟩
    have HFS:=hid (HF1.out.trans (VT.fr V7))
    clear V7 HST
    go_wp2_with fail
    go_ret
    exact ⟨rfl,HFS.out.alloc _⟩
   ·rw [if_pos hk2,Prod.mk.injEq] at hd
    obtain ⟨rfl,rfl⟩:=hd
    obtain ⟨kd,hkd⟩:∃ kd,kd = (T N).kind:=⟨_,rfl⟩
    rw [<- hkd] at HST hk2
    have t2:((kd:Int) == 2) = false:=by rw [beq_eq_false_iff_ne];omega
    clear hst hs0 hs1 hn hk HK HD V6 hk2 hkd
    go_wp2_with fail
    refine HST.out.mono ?_
    rintro e w7 ⟨rfl,V7⟩
    have HFS:=hid (HF1.out.trans (VT.fr V7))
    clear V7 HST
    go_wp2_with fail
    go_ret
    exact ⟨rfl,HFS.out.alloc _⟩
  ·have hd:=HD.out
   rw [if_pos hE0,Prod.mk.injEq] at hd
   obtain ⟨rfl,rfl⟩:=hd
   have t0:(E3 != 0) = true:=bne_iff_ne.2 hE0
   clear HK HD V6 hE0
   go_wp2_with fail
   go_ret
   exact ⟨rfl,HFR.out⟩
end Go.Proofs.YtngalllaiphkhaaGreatDoor
