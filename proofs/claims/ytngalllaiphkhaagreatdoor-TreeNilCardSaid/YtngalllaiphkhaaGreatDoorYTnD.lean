import Derived.Test.YtngalllaiphkhaaGreatDoorYTnR
namespace Go.Proofs.YtngalllaiphkhaaGreatDoor
open Go.RowKit
open Go.Lib (hid)
set_option maxRecDepth 100000
set_option maxHeartbeats 16000000
set_option linter.unusedVariables false
set_option linter.unusedSimpArgs false
theorem treeNil_calls (path:ByteArray) (n:Int) (head:ByteArray) (w:World) (hs:head.size <= 1000000000000000) :
 Calls Tryz.prog 8 #[.string path,.int .i64 n,.string head] w fun e w'=>e = .returned (.bool true) /\ Fr Nob w w':=by
 have HSH:=hid (tshown_calls w)
 have HNEW:=hid (fun W=>new_ok 48 W (by decide) (by decide))
 have hsz:(head ++ nought).size = head.size + 64:=by rw [ByteArray.size_append,nought_size]
 have hz:=nought_size
 have h64:((head ++ nought).extract 0 64).size = 64:=by rw [ByteArray.size_extract];omega
 have HH:=hid (fun W=>rhomes_calls h64 16 W)
 have HBL:Hid (Blank ((DSt.fresh 48).write 1 ((head ++ nought).extract 0 64)) 1):=hid (blank_fresh.write fun e=>absurd rfl e)
 have hop:=blank_open h64
 have HOP:Hid (homesP ((head ++ nought).extract 0 64) 16 = none -> ((DSt.fresh 48).write 1 ((head ++ nought).extract 0 64)).openE = 6):=hid fun h=>by
  unfold DSt.openE
  rw [if_neg (by rw [hop.1];decide),hop.2.1,hop.2.2,show (((48:Nat):Int) - 32) = 16 from rfl,h]
 clear hop h64
 go_enter Tryz.func8,Tryz.ntmps8
 go_wp2_with fail
 refine HSH.out.mono ?_
 rintro e w1 ⟨rfl,hf⟩
 have HC:=hid ((nt_find n path w1).mono fun e w' h=>(⟨h.1,hf.trans h.2⟩:_ /\ Fr Nob w w'))
 clear hf HSH
 go_wp2_with fail
 refine HC.out.mono ?_
 rintro e w2 ⟨rfl,hf⟩
 have HC:=hid ((nt_make n 1 path w2).mono fun e w' h=>(⟨h.1,hf.trans h.2⟩:_ /\ Fr Nob w w'))
 clear hf
 go_wp2_with fail
 refine HC.out.mono ?_
 rintro e w3 ⟨rfl,hf⟩
 have HC:=hid ((nt_link n path path w3).mono fun e w' h=>(⟨h.1,hf.trans h.2⟩:_ /\ Fr Nob w w'))
 clear hf
 go_wp2_with fail
 refine HC.out.mono ?_
 rintro e w4 ⟨rfl,hf⟩
 have HC:=hid ((nt_unlink n path w4).mono fun e w' h=>(⟨h.1,hf.trans h.2⟩:_ /\ Fr Nob w w'))
 clear hf
 go_wp2_with fail
 refine HC.out.mono ?_
 rintro e w5 ⟨rfl,hf⟩
 have HC:=hid ((nt_stat n w5).mono fun e w' h=>(⟨h.1,hf.trans h.2⟩:_ /\ Fr Nob w w'))
 clear hf
 go_wp2_with fail
 refine HC.out.mono ?_
 rintro e w6 ⟨rfl,hf⟩
 have HC:=hid ((nt_cut n _).mono fun e w' h=>(⟨h.1,(hf.alloc (.cells #[.int .i64 0,.int .i64 0,.int .i64 0] tStat9)).trans h.2⟩:_ /\ Fr Nob w w'))
 clear hf
 go_wp2_with fail
 refine HC.out.mono ?_
 rintro e w7 ⟨rfl,hf⟩
 have HC:=hid ((nt_drop n w7).mono fun e w' h=>(⟨h.1,hf.trans h.2⟩:_ /\ Fr Nob w w'))
 clear hf
 go_wp2_with fail
 refine HC.out.mono ?_
 rintro e w8 ⟨rfl,hf⟩
 have HC:=hid ((nt_format w8).mono fun e w' h=>(⟨h.1,hf.trans h.2⟩:_ /\ Fr Nob w w'))
 clear hf
 go_wp2_with fail
 refine HC.out.mono ?_
 rintro e w9 ⟨rfl,hf⟩
 have HC:=hid ((nt_mount w9).mono fun e w' h=>(⟨h.1,hf.trans h.2⟩:_ /\ Fr Nob w w'))
 clear hf
 go_wp2_with fail
 refine HC.out.mono ?_
 rintro e wA ⟨rfl,hf⟩
 have HF:=hid hf
 clear hf HC
 go_wp2_with fail
 refine (HNEW.out wA).mono ?_
 rintro e wB ⟨d,rfl,hd,hf⟩
 have L0:Lv Nob w Emp wA:=(Live.start w).lv.keep loc_emp HF.out
 have L1:=Lv.new (B:=dskA kD d (DSt.fresh 48)) L0 loc_emp hf hd
 have HL:=hid L1
 clear hd hf L0 L1 HNEW HF
 go_wp2_with fail
 refine (noughts_calls _).mono ?_
 rintro e wC ⟨rfl,hf⟩
 have L2:=HL.out.keep (loc_star (loc_dsk _ _ _) loc_emp) hf
 have hW:=L2.op ((d_write 1 ((head ++ nought).extract 0 64) (by decide)).left loc_emp)
 have HW:=hid hW
 clear hf L2 HL hW
 go_wp2_with fail
 refine HW.out.mono ?_
 rintro e wD ⟨he,L3⟩
 obtain rfl:=he
 have HL3:=hid L3
 clear L3 HW
 go_wp2_with fail
 refine (HH.out wD).mono ?_
 rintro e wE ⟨hf,u,rfl,_⟩
 have L4:=HL3.out.keep (loc_star (loc_dsk _ _ _) loc_emp) hf
 have HM:=hid (blank_mount L4 loc_emp HBL.out (by decide))
 obtain ⟨is,his⟩:∃ is,is = (homesP ((head ++ nought).extract 0 64) 16).isSome:=⟨_,rfl⟩
 rw [<- his]
 have HIS:=hid his
 clear hf L4 HL3 HH his
 go_wp2_with fail
 refine HM.out.mono ?_
 rintro e wF ⟨⟨k,rfl,hk⟩,hf⟩
 have HFR:=hid hf
 cases is with
 | true =>
  clear hk hf HM
  go_wp2_with fail
  all_goals first
   | (go_ret;exact ⟨rfl,HFR.out⟩)
   | (rename_i h1 h2;cases h1)
 | false =>
  have h6:=HOP.out (by have:=HIS.out;cases h:homesP ((head ++ nought).extract 0 64) 16 with | none=>rfl | some l=>rw [h] at this;cases this)
  have hk6:k = 6:=by rw [hk (by rw [h6];decide),h6]
  subst hk6
  clear hk hf HM h6
  go_wp2_with fail
  go_ret
  exact ⟨rfl,HFR.out⟩
end Go.Proofs.YtngalllaiphkhaaGreatDoor
