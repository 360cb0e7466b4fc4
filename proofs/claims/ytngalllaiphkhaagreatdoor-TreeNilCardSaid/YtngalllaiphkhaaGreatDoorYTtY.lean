import Derived.Test.YtngalllaiphkhaaGreatDoorYTE
import Derived.BigQuiet
namespace Go.Proofs.YtngalllaiphkhaaGreatDoor
open Go.RowKit
open Go.Lib (hid)
set_option maxRecDepth 100000
set_option maxHeartbeats 16000000
set_option linter.unusedVariables false
set_option linter.unusedSimpArgs false
section
open Go.RowKit Go.Shelf
section
variable {S0:Nat -> Prop} {w0 w w':World} {t v b d m c bt bn:Nat} {p:Int} {A A0:Nat -> Node} {T U:Tr} {B R C C':Asr}
theorem empty_tree {k:Nat} (h:DirOk T k) {s:ByteArray} (hs:areadB (volT T) k 0 2368 = s):emptyB s (s.size / 16) = emptyT (T k):=by
 have h1:=dir_read h
 have h2:=dir_size h
 rw [hs] at h1 h2
 rw [h2,Nat.mul_div_cancel_left _ (by omega)]
 exact empty_dir h1 h.slots
theorem unlink_is {from_:Int} {path:ByteArray} {r1:Nat} {r2:ByteArray} {r3:Int} (hr:lastT T from_ path = (r1,r2,r3)) :
 unlinkT T from_ path = if r3 ≠ 0 then (r3,T) else match entryT (T r1) r2 with
  | none=>(5,T)
  | some k=>if (T (inoT (T r1) k)).kind = 2 /\ (emptyT (T (inoT (T r1) k)) = false \/ 0 < (T (inoT (T r1) k)).held) then (12,T) else (0,unlinkU T r1 k (inoT (T r1) k)):=by
 unfold unlinkT
 rw [hr]
 rfl
theorem tUnlink_calls (h:TV p S0 w0 t v b d m T B w) (hB:Loc B) (hI:TInv T) (from_:Int) (path:ByteArray) :
 Calls Tryz.prog 19 #[.pointer (some ⟨t,0,none⟩),.int .i64 from_,.string path] w (Done p S0 w0 t v b d m T (unlinkT T from_ path) B):=by
 have HA:=talive_calls h hB
 obtain ⟨mk,hmk⟩:∃ mk,mk = unlinkT T from_ path:=⟨_,rfl⟩
 rw [<- hmk]
 have hlok:=lastT_ok hI (from_:=from_) (path:=path)
 have HA:=hid HA
 have HB:=hid hB
 have HI:=hid hI
 obtain ⟨r,hr⟩:∃ r,r = lastT T from_ path:=⟨_,rfl⟩
 obtain ⟨r1,r2,r3⟩:=r
 rw [unlink_is hr.symm] at hmk
 rw [<- hr] at hlok
 have HMK:=hid hmk
 have HR:=hid hr
 have HLOK:=hid hlok
 clear h hB hI hmk hr hlok
 go_enter Tryz.func19,Tryz.ntmps19
 go_wp2_with fail
 refine HA.out.mono ?_
 rintro e w1 ⟨rfl,V1⟩
 have HL:=tlast_calls V1 HB.out HI.out from_ path
 rw [<- HR.out] at HL
 have HL:Hid (Calls Tryz.prog 55 #[.pointer (some ⟨t,0,none⟩),.int .i64 from_,.string path] w1 fun e w'=>e = .returned (.tuple #[.int .i64 r1,.string r2,.int .i64 r3]) /\ TV p S0 w0 t v b d m T B w'):=hid HL
 clear V1 HA
 by_cases h3:r3 = 0
 ·subst h3
  obtain ⟨o1,o2,o3⟩:=HLOK.out rfl
  have o1:r1 < 32:=o1
  have o2:(T r1).kind = 2:=o2
  have hdk:=HI.out.toTShape.dirOk o1 o2
  obtain ⟨s,hs⟩:∃ s,areadB (volT T) r1 0 2368 = s:=⟨_,rfl⟩
  obtain ⟨va,vb⟩:=fnd_vals hdk hs r2
  have HM2:Hid (mk = match entryT (T r1) r2 with
   | none=>(5,T)
   | some k=>if (T (inoT (T r1) k)).kind = 2 /\ (emptyT (T (inoT (T r1) k)) = false \/ 0 < (T (inoT (T r1) k)).held) then (12,T) else (0,unlinkU T r1 k (inoT (T r1) k))):=hid (by rw [HMK.out,if_neg (fun h=>h rfl)])
  have HS:=hid hs
  have O1:=hid o1
  have O2:=hid o2
  have HDK:=hid hdk
  go_wp2_with fail
  refine HL.out.mono ?_
  rintro e w2 ⟨rfl,V2⟩
  have hf:=tfind_calls V2 HB.out HS.out r2
  cases he:entryT (T r1) r2 with
  | none =>
   have hm1:mk = (5,T):=by rw [HM2.out,he]
   subst hm1
   obtain ⟨a1,a2,a3⟩:=va he
   rw [a1,a2,a3] at hf
   have HF:=hid hf
   clear V2 hf HL he va vb a1 a2 a3 o1 o2 o3 hdk hs
   go_wp2_with fail
   refine HF.out.mono ?_
   rintro e w3 ⟨rfl,V3⟩
   have HV:=hid V3
   clear V3 HF
   go_wp2_with fail
   go_ret
   exact .inl ⟨rfl,p,id,HV.out.keep (loc_star (loc_blk _ _ _) HB.out) ((Fr.refl _ _).alloc _)⟩
  | some j =>
   obtain ⟨a1,a2,a3⟩:=vb j he
   rw [a1,a2,a3] at hf
   obtain ⟨at_,hat⟩:∃ at_:Nat,at_ = 16 * (j + 1):=⟨_,rfl⟩
   obtain ⟨n,hn⟩:∃ n:Nat,n = inoT (T r1) j:=⟨_,rfl⟩
   rw [<- hat,<- hn] at hf
   have HM3:Hid (mk = if (T n).kind = 2 /\ (emptyT (T n) = false \/ 0 < (T n).held) then (12,T) else (0,unlinkU T r1 j n)):=hid (by rw [HM2.out,he,hn])
   have hes:=entry_some he
   rw [<- hn] at hes
   obtain ⟨hn32,hn0,_,_⟩:=HI.out.slot r1 o1 o2 j n r2 hes.2
   have HF:=hid hf
   have HAT:=hid hat
   have HES:=hid hes
   have HN32:=hid hn32
   have HN0:=hid hn0
   have hat0:¬ (at_:Int) < 0:=by omega
   have hn31:(n:Int) < 32:=by omega
   clear V2 hf HL he va vb a1 a2 a3 o1 o2 o3 hdk hs hat hn HM2 hes hn32 hn0
   go_wp2_with fail
   refine HF.out.mono ?_
   rintro e w3 ⟨rfl,V3⟩
   go_wp2_with fail
   have V4:=(V3.box (loc_star (loc_blk _ _ _) HB.out) tEnt [.int .i64 n,.string r2]).flip
   obtain ⟨q,hq⟩:∃ q,q = w3.heap.size:=⟨_,rfl⟩
   obtain ⟨W4,hW4⟩:∃ W4,W4 = w3.alloc (.cells #[.int .i64 n,.string r2] tEnt):=⟨_,rfl⟩
   have V4:TV p S0 w0 t v b d m T (Star (blkA q tEnt [.int .i64 n,.string r2]) B) W4:=by rw [hq,hW4];exact V4
   rw [<- hW4]
   rw [<- hq]
   have lQ:Loc (Star (blkA q tEnt [.int .i64 n,.string r2]) B):=loc_star (loc_blk _ _ _) HB.out
   have HLQ:=hid lQ
   have hcell:∀ (c':Nat) (A' A1:Nat -> Node) (U:Tr) (W':World),VT c' p S0 w0 v b d m A' A1 (Star (trA t b v U) (Star (blkA q tEnt [.int .i64 n,.string r2]) B)) W' ->
    W'.cell? ⟨t,1,none⟩ = some (.pointer (some ⟨v,0,none⟩)) /\ W'.cell? ⟨q,0,none⟩ = some (.int .i64 n) /\ W'.cell? ⟨t,2 + n,none⟩ = some (.int .i64 (U n).held):=fun _ _ _ U _ hv =>
    ⟨hv.blk.cell (j:=1) rfl,(VT.flip hv).blk.cell (j:=0) rfl,hv.blk.cell (treeL_held b v U false HN32.out)⟩
   have HCE:=hid hcell
   have V4d:=V4.keep (loc_star (loc_blk _ _ _) lQ) (Fr.refl _ _).drew
   obtain ⟨c1,c2,c3⟩:=hcell _ _ _ _ _ V4
   have HV4:=hid V4d
   obtain ⟨isd,hisd⟩:∃ isd,isd = decide ((T n).kind = 2):=⟨_,rfl⟩
   have HISD:Hid (∀ W,TV p S0 w0 t v b d m T (Star (blkA q tEnt [.int .i64 n,.string r2]) B) W -> Calls Tryz.prog 52 #[.pointer (some ⟨t,0,none⟩),.int .i64 n] W fun e w'=>e = .returned (.bool isd) /\ TV p S0 w0 t v b d m T (Star (blkA q tEnt [.int .i64 n,.string r2]) B) w'):=hid fun W hW=>by
    have h:=tisdir_calls hW HLQ.out n
    rw [adir_vol] at h
    have e1:isDirT T n = isd:=by
     rw [hisd]
     unfold isDirT
     rw [decide_eq_decide]
     have:=HN32.out
     constructor
     ·rintro ⟨_,_,h⟩;exact h
     ·intro h;exact ⟨by omega,by omega,h⟩
    rw [e1] at h
    exact h
   have HID:=hid hisd
   have HEMP:Hid ((T n).kind = 2 -> ∀ W,TV p S0 w0 t v b d m T (Star (blkA q tEnt [.int .i64 n,.string r2]) B) W -> Calls Tryz.prog 57 #[.pointer (some ⟨t,0,none⟩),.int .i64 n] W fun e w'=>e = .returned (.bool (emptyT (T n))) /\ TV p S0 w0 t v b d m T (Star (blkA q tEnt [.int .i64 n,.string r2]) B) w'):=hid fun hk W hW=>by
    obtain ⟨s2,hs2⟩:∃ s2,areadB (volT T) n 0 2368 = s2:=⟨_,rfl⟩
    have h:=tempty_calls hW HLQ.out hs2
    rw [empty_tree (HI.out.toTShape.dirOk HN32.out hk) hs2] at h
    exact h
   obtain ⟨hd,hhd⟩:∃ hd:Nat,hd = (T n).held:=⟨_,rfl⟩
   have HHD:=hid hhd
   rw [<- hhd] at c3
   have kk1:∀ x:Wd (TV p S0 w0 t v b d m T (Star (blkA q tEnt [.int .i64 n,.string r2]) B)),x.w.cell? ⟨t,1,none⟩ = some (.pointer (some ⟨v,0,none⟩)):=fun x=>(hcell _ _ _ _ _ x.h).1
   have kk2:∀ x:Wd (TV p S0 w0 t v b d m T (Star (blkA q tEnt [.int .i64 n,.string r2]) B)),x.w.cell? ⟨q,0,none⟩ = some (.int .i64 n):=fun x=>(hcell _ _ _ _ _ x.h).2.1
   have kk3:∀ x:Wd (TV p S0 w0 t v b d m T (Star (blkA q tEnt [.int .i64 n,.string r2]) B)),x.w.cell? ⟨t,2 + n,none⟩ = some (.int .i64 hd):=fun x=>by rw [HHD.out];exact (hcell _ _ _ _ _ x.h).2.2
   haveI hin:Inhabited (Wd (TV p S0 w0 t v b d m T (Star (blkA q tEnt [.int .i64 n,.string r2]) B))):=⟨⟨_,V4d⟩⟩
   have HISW:Hid (∀ x:Wd (TV p S0 w0 t v b d m T (Star (blkA q tEnt [.int .i64 n,.string r2]) B)),Calls Tryz.prog 52 #[.pointer (some ⟨t,0,none⟩),.int .i64 n] x.w fun e w'=>e = .returned (.bool isd) /\ (TV p S0 w0 t v b d m T (Star (blkA q tEnt [.int .i64 n,.string r2]) B)) w'):=hid fun x=>HISD.out x.w x.h
   clear V3 V4 V4d HF hq hW4 lQ hcell hisd hhd c1 c2 c3
   cases isd with
   | false =>
    refine wp_region_wd (TV p S0 w0 t v b d m T (Star (blkA q tEnt [.int .i64 n,.string r2]) B)) HV4.out (by kernel_rfl) (by kernel_rfl) ?_
    repeat (go_big_quiet_step (first | (go_at_call 52;exact Calls.wd (HISW.out _))))
    refine wpQuiet_nil ?_
    rintro w5 ⟨⟨_,V5⟩,rfl⟩
    have V5:TV p S0 w0 t v b d m T (Star (blkA q tEnt [.int .i64 n,.string r2]) B) w5:=V5
    have HV5:=hid V5
    clear V5 kk1 kk2 kk3
    have HK2:Hid (¬ ((T n).kind = 2 /\ (emptyT (T n) = false \/ 0 < (T n).held))):=hid fun ⟨h,_⟩=>by have:=HID.out;rw [h] at this;cases this
    go_wp2_with fail
    have hjl:j < (T r1).slots.length:=HES.out.1
    obtain ⟨U,hU⟩:∃ U,U = setT T r1 { T r1 with slots:=(T r1).slots.set j none }:=⟨_,rfl⟩
    obtain ⟨x1,x2⟩:=wipe_goes (m:=m) HDK.out hjl
    rw [<- hU] at x2
    have hm1:mk = (0,unlinkU T r1 j n):=by rw [HM3.out,if_neg HK2.out]
    subst hm1
    have HRP:Hid (∀ W:World,Calls Tryz.prog 58 #[.string ⟨#[0]⟩,.int .i64 16] W fun e w'=>e = .returned (.string noughtB) /\ Fr Nob W w'):=hid fun W =>
     (Tryz.strings_Repeat (⟨#[0]⟩:ByteArray) 16 W (by omega) (by decide)).mono fun _ _ ⟨e1,e2⟩=>⟨e1,Fr.of_below e2 (fun _ h _=>h)⟩
    have HWR:Hid (∀ W,TV p S0 w0 t v b d m T (Star (blkA q tEnt [.int .i64 n,.string r2]) B) W -> Calls Tryz.prog 48 #[.pointer (some ⟨v,0,none⟩),.int .i64 r1,.int .i64 at_,.string noughtB] W fun e w'=>e = .returned (.int .i64 0) /\ VT 7 p S0 w0 v b d m (volT U) (volT T) (Star (trA t b v T) (Star (blkA q tEnt [.int .i64 n,.string r2]) B)) w'):=hid fun W hW=>by
     have h:=t_patch hW (loc_star (loc_blk _ _ _) HLQ.out) (by omega) r1 at_ noughtB (by rw [HAT.out];show (16 * (j + 1)) % 64 + 16 <= 64;omega)
     rw [HAT.out,x1,x2] at h
     rw [HAT.out]
     exact h
    have HU:=hid hU
    have hcV:=HCE.out _ _ _ _ _ HV5.out
    obtain ⟨c1,c2,_⟩:=hcV
    have HV5d:=hid (HV5.out.keep (loc_star (loc_blk _ _ _) HLQ.out) (Fr.refl _ _).drew)
    clear hjl hU x1 x2 HISD HISW HEMP
    go_region_held3 (fun w'=>w'.cell? ⟨t,1,none⟩ = some (.pointer (some ⟨v,0,none⟩)) /\ w'.cell? ⟨q,0,none⟩ = some (.int .i64 n))
     (first | go_keep | exact ⟨c1,c2⟩ | exact ⟨c15,c25⟩ | exact ⟨c16,c26⟩)
     (first
      | (go_at_call 58;refine (HRP.out _).mono ?_;rintro e w6 ⟨rfl,hf6⟩;have V6:=HV5d.out.keep (loc_star (loc_blk _ _ _) HLQ.out) hf6;obtain ⟨c15,c25,_⟩:=HCE.out _ _ _ _ _ V6;have HV6:=hid V6;clear V6 hf6)
      | (go_at_call 48;refine (HWR.out _ HV6.out).mono ?_;rintro e w7 ⟨rfl,V7⟩;obtain ⟨c16,c26,_⟩:=HCE.out _ _ _ _ _ V7;have HV7:=hid V7;clear V7))
    clear c1 c2 c15 c25 c16 c26 HRP HWR HV5 HV5d HV6
    go_wp2_with fail
    obtain ⟨U2,hU2⟩:∃ U2,U2 = setT U n { U n with links:=(U n).links - 1 }:=⟨_,rfl⟩
    have hUk:(U n).kind = (T n).kind:=by rw [HU.out];exact setT_proj (fun x:TN=>x.kind) (by rfl) n
    have hUl:(U n).links = (T n).links:=by rw [HU.out];exact setT_proj (fun x:TN=>x.links) (by rfl) n
    have hUh:(U n).held = (T n).held:=by rw [HU.out];exact setT_proj (fun x:TN=>x.held) (by rfl) n
    have hpos:=HI.out.named_pos O1.out O2.out HES.out.2
    have hsm:=HI.out.small n HN32.out
    obtain ⟨y1,y2⟩:=link_vol (T:=U) HN32.out (by rw [hUk];exact HN0.out) (by_:=-1) (by omega) (by omega) (by rw [hUl];omega) (by rw [hUl];omega)
    rw [show ((U n).links + (-1:Int)).toNat = (U n).links - 1 by omega,<- hU2] at y2
    have HLK:Hid (∀ W,VT 7 p S0 w0 v b d m (volT U) (volT T) (Star (trA t b v T) (Star (blkA q tEnt [.int .i64 n,.string r2]) B)) W -> Calls Tryz.prog 47 #[.pointer (some ⟨v,0,none⟩),.int .i64 n,.int .i64 (-1)] W fun e w'=>e = .returned (.int .i64 0) /\ VT 8 p S0 w0 v b d m (volT U2) (volT T) (Star (trA t b v T) (Star (blkA q tEnt [.int .i64 n,.string r2]) B)) w'):=hid fun W hW=>by
     have h:=t_link hW (loc_star (loc_blk _ _ _) HLQ.out) (by omega) n (-1)
     rw [y1,y2] at h
     exact h
    have HU2:=hid hU2
    have HUK:=hid hUk
    have HUH:=hid hUh
    obtain ⟨c1,c2,_⟩:=HCE.out _ _ _ _ _ HV7.out
    have HV7d:=hid (HV7.out.keep (loc_star (loc_blk _ _ _) HLQ.out) (Fr.refl _ _).drew)
    clear hU2 hUk hUl hUh hpos hsm y1 y2 HV7
    go_region_held3 (fun w'=>w'.cell? ⟨t,1,none⟩ = some (.pointer (some ⟨v,0,none⟩)) /\ w'.cell? ⟨q,0,none⟩ = some (.int .i64 n))
     (first | go_keep | exact ⟨c1,c2⟩ | exact ⟨c18,c28⟩)
     (first
      | (go_at_call 47;refine (HLK.out _ HV7d.out).mono ?_;rintro e w8 ⟨rfl,V8⟩;obtain ⟨c18,c28,_⟩:=HCE.out _ _ _ _ _ V8;have HV8:=hid V8;clear V8))
    clear c1 c2 c18 c28 HLK HV7d
    obtain ⟨z0,z1,z2,hz,hz0⟩:=astat_is (volT U2) n
    have hU2n:U2 n = { U n with links:=(U n).links - 1 }:=by rw [HU2.out,setT_same]
    have hfnd:afindE (volT U2) n = 0:=by
     rw [find_vol]
     exact tfind_ok HN32.out (by rw [hU2n];show (U n).kind ≠ 0;rw [HUK.out];exact HN0.out)
    have hz1:z1 = (U2 n).links:=by
     rw [(hz0 hfnd).2.1]
     show ((nodeT (U2 n)).links:Int) = _
     rw [nodeT_some (by rw [hU2n];show (U n).kind ≠ 0;rw [HUK.out];exact HN0.out)]
    obtain ⟨lk,hlk⟩:∃ lk:Nat,lk = (U2 n).links:=⟨_,rfl⟩
    rw [<- hlk] at hz1
    subst hz1
    have HLKN:=hid hlk
    have HU2N:=hid hU2n
    have HFND:=hid hfnd
    have HZ9:=hid hz
    clear hz hz0 hU2n hfnd hlk
    go_wp2_with fail
    have HSTG:Hid (∀ B':Asr,Loc B' -> ∀ W,VT 8 p S0 w0 v b d m (volT U2) (volT T) (Star (trA t b v T) B') W -> Calls Tryz.prog 44 #[.pointer (some ⟨v,0,none⟩),.int .i64 n] W fun e w'=>e = .returned (.tuple #[.agg #[.int .i64 z0,.int .i64 lk,.int .i64 z2],.int .i64 0]) /\ VT 8 p S0 w0 v b d m (volT U2) (volT T) (Star (trA t b v T) B') w'):=hid fun B' hB' W hW=>by
     have h:=t_stat hW (loc_star (loc_blk _ _ _) hB') n
     rw [HFND.out] at h
     have e1:(if (0:Int) = 0 then nstatV ((volT U2) ((n:Int).toNat)) else nstatV Node.free) = .agg #[.int .i64 z0,.int .i64 lk,.int .i64 z2]:=by
      rw [<- HZ9.out]
      unfold astatV
      rw [HFND.out]
     rw [e1] at h
     exact h
    obtain ⟨c1,c2,_⟩:=HCE.out _ _ _ _ _ HV8.out
    have V8d:=HV8.out.keep (loc_star (loc_blk _ _ _) HLQ.out) (Fr.refl _ _).drew
    have V8b:VT 8 p S0 w0 v b d m (volT U2) (volT T) (Star (trA t b v T) (Star (blkA w8.heap.size tStat9 [.int .i64 0,.int .i64 0,.int .i64 0]) (Star (blkA q tEnt [.int .i64 n,.string r2]) B))) (w8.alloc (.cells #[.int .i64 0,.int .i64 0,.int .i64 0] tStat9)).drew:=((HV8.out.box (loc_star (loc_blk _ _ _) HLQ.out) tStat9 [.int .i64 0,.int .i64 0,.int .i64 0]).flip).keep (loc_star (loc_blk _ _ _) (loc_star (loc_blk _ _ _) HLQ.out)) (Fr.refl _ _).drew
    have HV8d:=hid V8d
    have HV8b:=hid V8b
    have HLZ:Hid (Loc (Star (blkA w8.heap.size tStat9 [.int .i64 0,.int .i64 0,.int .i64 0]) (Star (blkA q tEnt [.int .i64 n,.string r2]) B))):=hid (loc_star (loc_blk _ _ _) HLQ.out)
    have HCZ:Hid (∀ W',VT 8 p S0 w0 v b d m (volT U2) (volT T) (Star (trA t b v T) (Star (blkA w8.heap.size tStat9 [.int .i64 0,.int .i64 0,.int .i64 0]) (Star (blkA q tEnt [.int .i64 n,.string r2]) B))) W' -> W'.cell? ⟨t,1,none⟩ = some (.pointer (some ⟨v,0,none⟩)) /\ W'.cell? ⟨q,0,none⟩ = some (.int .i64 n)):=hid fun _ hv=>⟨hv.blk.cell (j:=1) rfl,(VT.flip (hv.map fun _ _ h=>star_right h fun _ h=>star_flip h)).blk.cell (j:=0) rfl⟩
    have hlt1:t < w8.heap.size:=World.block_lt_of_cell? _ _ c1
    have hlt2:q < w8.heap.size:=World.block_lt_of_cell? _ _ c2
    have hq1:¬ t = w8.heap.size:=by omega
    have hq2:¬ w8.heap.size = t:=by omega
    have hq3:¬ q = w8.heap.size:=by omega
    have hq4:¬ w8.heap.size = q:=by omega
    clear V8d V8b hlt1 hlt2
    go_region_held3 (fun w'=>w'.cell? ⟨t,1,none⟩ = some (.pointer (some ⟨v,0,none⟩)) /\ w'.cell? ⟨q,0,none⟩ = some (.int .i64 n))
     (first | go_keep | exact ⟨c1,c2⟩ | exact ⟨c19,c29⟩ | (simp [c19,c29,hq1,hq2,hq3,hq4]))
     (first
      | (go_at_call 44;refine (HSTG.out _ HLQ.out _ HV8d.out).mono ?_;rintro e w9 ⟨rfl,V9⟩;obtain ⟨c19,c29,_⟩:=HCE.out _ _ _ _ _ V9;have HV9:=hid V9;clear V9)
      | (go_at_call 44;refine (HSTG.out _ HLZ.out _ HV8b.out).mono ?_;rintro e w9 ⟨rfl,V9⟩;obtain ⟨c19,c29⟩:=HCZ.out _ V9;have hb9:=(VT.flip V9).blk;have s0:=hb9.cell (j:=0) rfl;have s1:=hb9.cell (j:=1) rfl;have s2:=hb9.cell (j:=2) rfl;have f0:=hb9.free 0;have f1:=hb9.free 1;have f2:=hb9.free 2;have HV9:=hid V9;clear V9 hb9))
    clear c1 c2 hq1 hq2 hq3 hq4
    all_goals
     have hVF:∃ g w10,w10 = w10:=⟨0,w9,rfl⟩
     clear hVF
     first
      | (have VA:=(HV9.out.box (loc_star (loc_blk _ _ _) HLQ.out) tStat9 [.int .i64 z0,.int .i64 lk,.int .i64 z2]).flip
         obtain ⟨w10,hw10⟩:∃ w10,w10 = w9.alloc (.cells #[.int .i64 z0,.int .i64 lk,.int .i64 z2] tStat9):=⟨_,rfl⟩
         obtain ⟨g,hg⟩:∃ g,g = w9.heap.size:=⟨_,rfl⟩
         rw [<- hw10]
         rw [<- hg]
         have VF:VT 8 p S0 w0 v b d m (volT U2) (volT T) (Star (trA t b v T) (Star (blkA g tStat9 [.int .i64 z0,.int .i64 lk,.int .i64 z2]) (Star (blkA q tEnt [.int .i64 n,.string r2]) B))) w10:=by rw [hw10,hg];exact VA
         clear VA hw10 hg)
      | (have VA:=((((VT.flip HV9.out).turn (loc_star (loc_blk _ _ _) HLQ.out) (turn_blk 0 (.int .i64 z0))).turn (loc_star (loc_blk _ _ _) HLQ.out) (turn_blk 1 (.int .i64 lk))).turn (loc_star (loc_blk _ _ _) HLQ.out) (turn_blk 2 (.int .i64 z2))).flip
         obtain ⟨g,hg⟩:∃ g,g = w8.heap.size:=⟨_,rfl⟩
         rw [<- hg] at VA ⊢
         obtain ⟨w10,hw10⟩:∃ w10,w10 = (((w9.setCell ⟨g,0,none⟩ (.int .i64 z0)).setCell ⟨g,1,none⟩ (.int .i64 lk)).setCell ⟨g,2,none⟩ (.int .i64 z2)):=⟨_,rfl⟩
         rw [<- hw10]
         have VF:VT 8 p S0 w0 v b d m (volT U2) (volT T) (Star (trA t b v T) (Star (blkA g tStat9 [.int .i64 z0,.int .i64 lk,.int .i64 z2]) (Star (blkA q tEnt [.int .i64 n,.string r2]) B))) w10:=by rw [hw10];exact VA
         clear VA hw10 hg)
     try clear c19 c29
     try clear s0 s1 s2 f0 f1 f2
     have hlg:Loc (Star (blkA g tStat9 [.int .i64 z0,.int .i64 lk,.int .i64 z2]) (Star (blkA q tEnt [.int .i64 n,.string r2]) B)):=loc_star (loc_blk _ _ _) HLQ.out
     have HLG:=hid hlg
     have hcg:∀ (c':Nat) (A' A1:Nat -> Node) (U:Tr) (W':World),VT c' p S0 w0 v b d m A' A1 (Star (trA t b v U) (Star (blkA g tStat9 [.int .i64 z0,.int .i64 lk,.int .i64 z2]) (Star (blkA q tEnt [.int .i64 n,.string r2]) B))) W' ->
      W'.cell? ⟨t,1,none⟩ = some (.pointer (some ⟨v,0,none⟩)) /\ W'.cell? ⟨q,0,none⟩ = some (.int .i64 n) /\ W'.cell? ⟨t,2 + n,none⟩ = some (.int .i64 (U n).held) /\ W'.cell? ⟨g,1,none⟩ = some (.int .i64 lk):=fun _ _ _ U _ hv =>
      ⟨hv.blk.cell (j:=1) rfl,(VT.flip (hv.map fun _ _ h=>star_right h fun _ h=>star_flip h)).blk.cell (j:=0) rfl,hv.blk.cell (treeL_held b v U false HN32.out),(VT.flip hv).blk.cell (j:=1) rfl⟩
     have HCG0:=hid hcg
     have HCG:Hid (∀ (c':Nat) (A' A1:Nat -> Node) (U:Tr) (W':World),VT c' p S0 w0 v b d m A' A1 (Star (trA t b v U) (Star (blkA g tStat9 [.int .i64 z0,.int .i64 lk,.int .i64 z2]) (Star (blkA q tEnt [.int .i64 n,.string r2]) B))) W' ->
      W'.cell? ⟨t,1,none⟩ = some (.pointer (some ⟨v,0,none⟩)) /\ W'.cell? ⟨q,0,none⟩ = some (.int .i64 n) /\ W'.cell? ⟨t,2 + n,none⟩ = some (.int .i64 (U n).held)):=hid fun a b c d e h=>⟨(HCG0.out a b c d e h).1,(HCG0.out a b c d e h).2.1,(HCG0.out a b c d e h).2.2.1⟩
     obtain ⟨d1,d2,d3,d4⟩:=hcg _ _ _ _ _ VF
     rw [<- HHD.out] at d3
     have d5:=hn31
     have HVF:=hid VF
     clear VF hcg hlg
     by_cases l0:lk = 0
     ·have bl:((lk:Int) == 0) = true:=by rw [beq_iff_eq];omega
      by_cases h0:hd = 0
      ·have bh:((hd:Int) == 0) = true:=by rw [beq_iff_eq];omega
       have L0:=hid l0
       have H0:=hid h0
       clear l0 h0
       go_wp2_with fail
       have HFV:=hid (free_vol (T:=U2) HN32.out (by rw [HU2N.out];show (U n).kind ≠ 0;rw [HUK.out];exact HN0.out))
       have hsw:unlinkU T r1 j n = setT U2 n TN.free:=by
        show sweepT (setT (setT T r1 { T r1 with slots:=(T r1).slots.set j none }) n _) n = _
        rw [<- HU.out,<- HU2.out]
        unfold sweepT
        rw [if_pos ⟨by rw [<- HLKN.out];exact L0.out,by rw [HU2N.out];show (U n).held = 0;rw [HUH.out,<- HHD.out];exact H0.out⟩]
       have HSW:=hid hsw
       have HHT:Hid (∀ k,k < 32 -> (setT U2 n TN.free k).held = (T k).held):=hid fun k _=>by
        by_cases hkn:k = n
        ·subst hkn
         rw [setT_same,<- HHD.out,H0.out]
         rfl
        ·rw [setT_other U2 _ hkn,HU2.out,setT_proj (fun x:TN=>x.held) (by rfl) k,HU.out]
         exact setT_proj (fun x:TN=>x.held) (by rfl) k
       go_big_quiet (fail)
       have VX:VT 8 p S0 w0 v b d m (volT U2) (volT T) (Star (trA t b v T) (Star (blkA g tStat9 [.int .i64 z0,.int .i64 lk,.int .i64 z2]) (Star (blkA q tEnt [.int .i64 n,.string r2]) B))) (w10.drewN nq):=HVF.out.keep (loc_star (loc_blk _ _ _) HLG.out) ((Fr.refl _ _).drewN _)
       have HFR:Hid (∀ W,VT 8 p S0 w0 v b d m (volT U2) (volT T) (Star (trA t b v T) (Star (blkA g tStat9 [.int .i64 z0,.int .i64 lk,.int .i64 z2]) (Star (blkA q tEnt [.int .i64 n,.string r2]) B))) W -> Calls Tryz.prog 59 #[.pointer (some ⟨v,0,none⟩),.int .i64 n] W fun e w'=>e = .returned (.int .i64 0) /\ ∃ c',VT c' p S0 w0 v b d m (volT (setT U2 n TN.free)) (volT T) (Star (trA t b v T) (Star (blkA g tStat9 [.int .i64 z0,.int .i64 lk,.int .i64 z2]) (Star (blkA q tEnt [.int .i64 n,.string r2]) B))) w'):=hid fun W hW=>by
        have h:=t_free hW (loc_star (loc_blk _ _ _) HLG.out) (by omega) n
        rw [HFV.out.1,HFV.out.2] at h
        exact h
       have HVX:=hid (VX.keep (loc_star (loc_blk _ _ _) HLG.out) (Fr.refl _ _).drew)
       obtain ⟨e1,e2,_⟩:=HCG.out _ _ _ _ _ HVX.out
       clear VX d1 d2 d3 d4 d5 HFV hsw
       go_wp2_with fail
       go_region_held3 (fun w'=>w'.cell? ⟨t,1,none⟩ = some (.pointer (some ⟨v,0,none⟩)) /\ w'.cell? ⟨q,0,none⟩ = some (.int .i64 n))
        (first | exact ⟨e1,e2⟩ | exact ⟨e18,e28⟩ | go_keep)
        (first
         | (go_at_call 59;refine (HFR.out _ HVX.out).mono ?_;rintro e w12 ⟨rfl,c',V12⟩;obtain ⟨e18,e28,_⟩:=HCG.out _ _ _ _ _ V12;have HV12:=hid V12;clear V12))
       have VX:=HV12.out
       clear e1 e2 e18 e28 HFR HVX
       go_wp2_with fail
       have HE:=hid (tends_ok VX HLG.out)
       clear VX
       go_wp2_with fail
       refine HE.out.mono ?_
       intro e w13 hE
       have hD:=(hE.done (U:=T) (T':=setT U2 n TN.free) HHT.out).less.less
       obtain ⟨x,rfl⟩:=hD.val
       have HD9:=hid hD
       clear hE hD HE
       go_wp2_with fail
       go_ret
       rw [HSW.out]
       exact HD9.out
      ·have bh:((hd:Int) == 0) = false:=by rw [beq_eq_false_iff_ne];omega
       have H0:=hid h0
       clear l0 h0
       go_wp2_with fail
       have HSW:Hid (unlinkU T r1 j n = U2):=hid (by
        show sweepT (setT (setT T r1 { T r1 with slots:=(T r1).slots.set j none }) n _) n = U2
        rw [<- HU.out,<- HU2.out]
        unfold sweepT
        rw [if_neg (fun h=>H0.out (by rw [HHD.out,<- HUH.out];have:=h.2;rw [HU2N.out] at this;exact this))])
       have HHT:Hid (∀ k,k < 32 -> (U2 k).held = (T k).held):=hid fun k _=>by
        rw [HU2.out,setT_proj (fun x:TN=>x.held) (by rfl) k,HU.out]
        exact setT_proj (fun x:TN=>x.held) (by rfl) k
       go_big_quiet (fail)
       have VX:VT 8 p S0 w0 v b d m (volT U2) (volT T) (Star (trA t b v T) (Star (blkA g tStat9 [.int .i64 z0,.int .i64 lk,.int .i64 z2]) (Star (blkA q tEnt [.int .i64 n,.string r2]) B))) (w10.drewN nq):=HVF.out.keep (loc_star (loc_blk _ _ _) HLG.out) ((Fr.refl _ _).drewN _)
       clear d1 d2 d3 d4 d5
       go_wp2_with fail
       have HE:=hid (tends_ok VX HLG.out)
       clear VX
       go_wp2_with fail
       refine HE.out.mono ?_
       intro e w13 hE
       have hD:=(hE.done (U:=T) (T':=U2) HHT.out).less.less
       obtain ⟨x,rfl⟩:=hD.val
       have HD9:=hid hD
       clear hE hD HE
       go_wp2_with fail
       go_ret
       rw [HSW.out]
       exact HD9.out
     ·have bl:((lk:Int) == 0) = false:=by rw [beq_eq_false_iff_ne];omega
      have L0:=hid l0
      clear l0
      go_wp2_with fail
      have HSW:Hid (unlinkU T r1 j n = U2):=hid (by
       show sweepT (setT (setT T r1 { T r1 with slots:=(T r1).slots.set j none }) n _) n = U2
       rw [<- HU.out,<- HU2.out]
       unfold sweepT
       rw [if_neg (fun h=>L0.out (by rw [HLKN.out];exact h.1))])
      have HHT:Hid (∀ k,k < 32 -> (U2 k).held = (T k).held):=hid fun k _=>by
       rw [HU2.out,setT_proj (fun x:TN=>x.held) (by rfl) k,HU.out]
       exact setT_proj (fun x:TN=>x.held) (by rfl) k
      go_big_quiet (fail)
      have VX:VT 8 p S0 w0 v b d m (volT U2) (volT T) (Star (trA t b v T) (Star (blkA g tStat9 [.int .i64 z0,.int .i64 lk,.int .i64 z2]) (Star (blkA q tEnt [.int .i64 n,.string r2]) B))) (w10.drewN nq):=HVF.out.keep (loc_star (loc_blk _ _ _) HLG.out) ((Fr.refl _ _).drewN _)
      clear d1 d2 d3 d4 d5
      go_wp2_with fail
      have HE:=hid (tends_ok VX HLG.out)
      clear VX
      go_wp2_with fail
      refine HE.out.mono ?_
      intro e w13 hE
      have hD:=(hE.done (U:=T) (T':=U2) HHT.out).less.less
      obtain ⟨x,rfl⟩:=hD.val
      have HD9:=hid hD
      clear hE hD HE
      go_wp2_with fail
      go_ret
      rw [HSW.out]
      exact HD9.out
   | true =>
    have hk2:(T n).kind = 2:=of_decide_eq_true HID.out.symm
    obtain ⟨emp,hemp⟩:∃ emp,emp = emptyT (T n):=⟨_,rfl⟩
    have HEW:Hid (∀ x:Wd (TV p S0 w0 t v b d m T (Star (blkA q tEnt [.int .i64 n,.string r2]) B)),Calls Tryz.prog 57 #[.pointer (some ⟨t,0,none⟩),.int .i64 n] x.w fun e w'=>e = .returned (.bool emp) /\ (TV p S0 w0 t v b d m T (Star (blkA q tEnt [.int .i64 n,.string r2]) B)) w'):=hid fun x=>by rw [hemp];exact HEMP.out hk2 x.w x.h
    have HEM9:=hid hemp
    have HK9:=hid hk2
    clear hemp hk2
    cases emp with
    | false =>
     have hm1:mk = (12,T):=by rw [HM3.out,if_pos ⟨HK9.out,.inl HEM9.out.symm⟩]
     subst hm1
     refine wp_region_wd (TV p S0 w0 t v b d m T (Star (blkA q tEnt [.int .i64 n,.string r2]) B)) HV4.out (by kernel_rfl) (by kernel_rfl) ?_
     repeat (go_big_quiet_step (first | (go_at_call 52;exact Calls.wd (HISW.out _)) | (go_at_call 57;exact Calls.wd (HEW.out _))))
     refine wpQuiet_nil ?_
     rintro w5 ⟨⟨_,V5⟩,rfl⟩
     have V5:TV p S0 w0 t v b d m T (Star (blkA q tEnt [.int .i64 n,.string r2]) B) w5:=V5
     have HV5:=hid V5
     clear V5 kk1 kk2 kk3
     go_wp2_with fail
     go_ret
     exact .inl ⟨rfl,p,id,HV5.out.map fun _ _ h=>star_less h⟩
    | true =>
     by_cases h0:hd = 0
     ·have HK2:Hid (¬ ((T n).kind = 2 /\ (emptyT (T n) = false \/ 0 < (T n).held))):=hid fun ⟨_,h⟩=>by
       rcases h with h | h
       ·rw [<- HEM9.out] at h;cases h
       ·rw [<- HHD.out,h0] at h;omega
      have bh:¬ (0:Int) < (hd:Int):=by omega
      have bh2:decide ((0:Int) < (hd:Int)) = false:=decide_eq_false bh
      clear h0
      refine wp_region_wd (TV p S0 w0 t v b d m T (Star (blkA q tEnt [.int .i64 n,.string r2]) B)) HV4.out (by kernel_rfl) (by kernel_rfl) ?_
      repeat (go_big_quiet_step (first | (go_at_call 52;exact Calls.wd (HISW.out _)) | (go_at_call 57;exact Calls.wd (HEW.out _))))
      refine wpQuiet_nil ?_
      rintro w5 ⟨⟨_,V5⟩,rfl⟩
      have V5:TV p S0 w0 t v b d m T (Star (blkA q tEnt [.int .i64 n,.string r2]) B) w5:=V5
      have HV5:=hid V5
      clear V5 kk1 kk2 kk3
      go_wp2_with fail
      have hjl:j < (T r1).slots.length:=HES.out.1
      obtain ⟨U,hU⟩:∃ U,U = setT T r1 { T r1 with slots:=(T r1).slots.set j none }:=⟨_,rfl⟩
      obtain ⟨x1,x2⟩:=wipe_goes (m:=m) HDK.out hjl
      rw [<- hU] at x2
      have hm1:mk = (0,unlinkU T r1 j n):=by rw [HM3.out,if_neg HK2.out]
      subst hm1
      have HRP:Hid (∀ W:World,Calls Tryz.prog 58 #[.string ⟨#[0]⟩,.int .i64 16] W fun e w'=>e = .returned (.string noughtB) /\ Fr Nob W w'):=hid fun W =>
       (Tryz.strings_Repeat (⟨#[0]⟩:ByteArray) 16 W (by omega) (by decide)).mono fun _ _ ⟨e1,e2⟩=>⟨e1,Fr.of_below e2 (fun _ h _=>h)⟩
      have HWR:Hid (∀ W,TV p S0 w0 t v b d m T (Star (blkA q tEnt [.int .i64 n,.string r2]) B) W -> Calls Tryz.prog 48 #[.pointer (some ⟨v,0,none⟩),.int .i64 r1,.int .i64 at_,.string noughtB] W fun e w'=>e = .returned (.int .i64 0) /\ VT 7 p S0 w0 v b d m (volT U) (volT T) (Star (trA t b v T) (Star (blkA q tEnt [.int .i64 n,.string r2]) B)) w'):=hid fun W hW=>by
       have h:=t_patch hW (loc_star (loc_blk _ _ _) HLQ.out) (by omega) r1 at_ noughtB (by rw [HAT.out];show (16 * (j + 1)) % 64 + 16 <= 64;omega)
       rw [HAT.out,x1,x2] at h
       rw [HAT.out]
       exact h
      have HU:=hid hU
      have hcV:=HCE.out _ _ _ _ _ HV5.out
      obtain ⟨c1,c2,_⟩:=hcV
      have HV5d:=hid (HV5.out.keep (loc_star (loc_blk _ _ _) HLQ.out) (Fr.refl _ _).drew)
      clear hjl hU x1 x2 HISD HISW HEMP
      go_region_held3 (fun w'=>w'.cell? ⟨t,1,none⟩ = some (.pointer (some ⟨v,0,none⟩)) /\ w'.cell? ⟨q,0,none⟩ = some (.int .i64 n))
       (first | go_keep | exact ⟨c1,c2⟩ | exact ⟨c15,c25⟩ | exact ⟨c16,c26⟩)
       (first
        | (go_at_call 58;refine (HRP.out _).mono ?_;rintro e w6 ⟨rfl,hf6⟩;have V6:=HV5d.out.keep (loc_star (loc_blk _ _ _) HLQ.out) hf6;obtain ⟨c15,c25,_⟩:=HCE.out _ _ _ _ _ V6;have HV6:=hid V6;clear V6 hf6)
        | (go_at_call 48;refine (HWR.out _ HV6.out).mono ?_;rintro e w7 ⟨rfl,V7⟩;obtain ⟨c16,c26,_⟩:=HCE.out _ _ _ _ _ V7;have HV7:=hid V7;clear V7))
      clear c1 c2 c15 c25 c16 c26 HRP HWR HV5 HV5d HV6
      go_wp2_with fail
      obtain ⟨U2,hU2⟩:∃ U2,U2 = setT U n { U n with links:=(U n).links - 1 }:=⟨_,rfl⟩
      have hUk:(U n).kind = (T n).kind:=by rw [HU.out];exact setT_proj (fun x:TN=>x.kind) (by rfl) n
      have hUl:(U n).links = (T n).links:=by rw [HU.out];exact setT_proj (fun x:TN=>x.links) (by rfl) n
      have hUh:(U n).held = (T n).held:=by rw [HU.out];exact setT_proj (fun x:TN=>x.held) (by rfl) n
      have hpos:=HI.out.named_pos O1.out O2.out HES.out.2
      have hsm:=HI.out.small n HN32.out
      obtain ⟨y1,y2⟩:=link_vol (T:=U) HN32.out (by rw [hUk];exact HN0.out) (by_:=-1) (by omega) (by omega) (by rw [hUl];omega) (by rw [hUl];omega)
      rw [show ((U n).links + (-1:Int)).toNat = (U n).links - 1 by omega,<- hU2] at y2
      have HLK:Hid (∀ W,VT 7 p S0 w0 v b d m (volT U) (volT T) (Star (trA t b v T) (Star (blkA q tEnt [.int .i64 n,.string r2]) B)) W -> Calls Tryz.prog 47 #[.pointer (some ⟨v,0,none⟩),.int .i64 n,.int .i64 (-1)] W fun e w'=>e = .returned (.int .i64 0) /\ VT 8 p S0 w0 v b d m (volT U2) (volT T) (Star (trA t b v T) (Star (blkA q tEnt [.int .i64 n,.string r2]) B)) w'):=hid fun W hW=>by
       have h:=t_link hW (loc_star (loc_blk _ _ _) HLQ.out) (by omega) n (-1)
       rw [y1,y2] at h
       exact h
      have HU2:=hid hU2
      have HUK:=hid hUk
      have HUH:=hid hUh
      obtain ⟨c1,c2,_⟩:=HCE.out _ _ _ _ _ HV7.out
      have HV7d:=hid (HV7.out.keep (loc_star (loc_blk _ _ _) HLQ.out) (Fr.refl _ _).drew)
      clear hU2 hUk hUl hUh hpos hsm y1 y2 HV7
      go_region_held3 (fun w'=>w'.cell? ⟨t,1,none⟩ = some (.pointer (some ⟨v,0,none⟩)) /\ w'.cell? ⟨q,0,none⟩ = some (.int .i64 n))
       (first | go_keep | exact ⟨c1,c2⟩ | exact ⟨c18,c28⟩)
       (first
        | (go_at_call 47;refine (HLK.out _ HV7d.out).mono ?_;rintro e w8 ⟨rfl,V8⟩;obtain ⟨c18,c28,_⟩:=HCE.out _ _ _ _ _ V8;have HV8:=hid V8;clear V8))
      clear c1 c2 c18 c28 HLK HV7d
      obtain ⟨z0,z1,z2,hz,hz0⟩:=astat_is (volT U2) n
      have hU2n:U2 n = { U n with links:=(U n).links - 1 }:=by rw [HU2.out,setT_same]
      have hfnd:afindE (volT U2) n = 0:=by
       rw [find_vol]
       exact tfind_ok HN32.out (by rw [hU2n];show (U n).kind ≠ 0;rw [HUK.out];exact HN0.out)
      have hz1:z1 = (U2 n).links:=by
       rw [(hz0 hfnd).2.1]
       show ((nodeT (U2 n)).links:Int) = _
       rw [nodeT_some (by rw [hU2n];show (U n).kind ≠ 0;rw [HUK.out];exact HN0.out)]
      obtain ⟨lk,hlk⟩:∃ lk:Nat,lk = (U2 n).links:=⟨_,rfl⟩
      rw [<- hlk] at hz1
      subst hz1
      have HLKN:=hid hlk
      have HU2N:=hid hU2n
      have HFND:=hid hfnd
      have HZ9:=hid hz
      clear hz hz0 hU2n hfnd hlk
      go_wp2_with fail
      have HSTG:Hid (∀ B':Asr,Loc B' -> ∀ W,VT 8 p S0 w0 v b d m (volT U2) (volT T) (Star (trA t b v T) B') W -> Calls Tryz.prog 44 #[.pointer (some ⟨v,0,none⟩),.int .i64 n] W fun e w'=>e = .returned (.tuple #[.agg #[.int .i64 z0,.int .i64 lk,.int .i64 z2],.int .i64 0]) /\ VT 8 p S0 w0 v b d m (volT U2) (volT T) (Star (trA t b v T) B') w'):=hid fun B' hB' W hW=>by
       have h:=t_stat hW (loc_star (loc_blk _ _ _) hB') n
       rw [HFND.out] at h
       have e1:(if (0:Int) = 0 then nstatV ((volT U2) ((n:Int).toNat)) else nstatV Node.free) = .agg #[.int .i64 z0,.int .i64 lk,.int .i64 z2]:=by
        rw [<- HZ9.out]
        unfold astatV
        rw [HFND.out]
       rw [e1] at h
       exact h
      obtain ⟨c1,c2,_⟩:=HCE.out _ _ _ _ _ HV8.out
      have V8d:=HV8.out.keep (loc_star (loc_blk _ _ _) HLQ.out) (Fr.refl _ _).drew
      have V8b:VT 8 p S0 w0 v b d m (volT U2) (volT T) (Star (trA t b v T) (Star (blkA w8.heap.size tStat9 [.int .i64 0,.int .i64 0,.int .i64 0]) (Star (blkA q tEnt [.int .i64 n,.string r2]) B))) (w8.alloc (.cells #[.int .i64 0,.int .i64 0,.int .i64 0] tStat9)).drew:=((HV8.out.box (loc_star (loc_blk _ _ _) HLQ.out) tStat9 [.int .i64 0,.int .i64 0,.int .i64 0]).flip).keep (loc_star (loc_blk _ _ _) (loc_star (loc_blk _ _ _) HLQ.out)) (Fr.refl _ _).drew
      have HV8d:=hid V8d
      have HV8b:=hid V8b
      have HLZ:Hid (Loc (Star (blkA w8.heap.size tStat9 [.int .i64 0,.int .i64 0,.int .i64 0]) (Star (blkA q tEnt [.int .i64 n,.string r2]) B))):=hid (loc_star (loc_blk _ _ _) HLQ.out)
      have HCZ:Hid (∀ W',VT 8 p S0 w0 v b d m (volT U2) (volT T) (Star (trA t b v T) (Star (blkA w8.heap.size tStat9 [.int .i64 0,.int .i64 0,.int .i64 0]) (Star (blkA q tEnt [.int .i64 n,.string r2]) B))) W' -> W'.cell? ⟨t,1,none⟩ = some (.pointer (some ⟨v,0,none⟩)) /\ W'.cell? ⟨q,0,none⟩ = some (.int .i64 n)):=hid fun _ hv=>⟨hv.blk.cell (j:=1) rfl,(VT.flip (hv.map fun _ _ h=>star_right h fun _ h=>star_flip h)).blk.cell (j:=0) rfl⟩
      have hlt1:t < w8.heap.size:=World.block_lt_of_cell? _ _ c1
      have hlt2:q < w8.heap.size:=World.block_lt_of_cell? _ _ c2
      have hq1:¬ t = w8.heap.size:=by omega
      have hq2:¬ w8.heap.size = t:=by omega
      have hq3:¬ q = w8.heap.size:=by omega
      have hq4:¬ w8.heap.size = q:=by omega
      clear V8d V8b hlt1 hlt2
      go_region_held3 (fun w'=>w'.cell? ⟨t,1,none⟩ = some (.pointer (some ⟨v,0,none⟩)) /\ w'.cell? ⟨q,0,none⟩ = some (.int .i64 n))
       (first | go_keep | exact ⟨c1,c2⟩ | exact ⟨c19,c29⟩ | (simp [c19,c29,hq1,hq2,hq3,hq4]))
       (first
        | (go_at_call 44;refine (HSTG.out _ HLQ.out _ HV8d.out).mono ?_;rintro e w9 ⟨rfl,V9⟩;obtain ⟨c19,c29,_⟩:=HCE.out _ _ _ _ _ V9;have HV9:=hid V9;clear V9)
        | (go_at_call 44;refine (HSTG.out _ HLZ.out _ HV8b.out).mono ?_;rintro e w9 ⟨rfl,V9⟩;obtain ⟨c19,c29⟩:=HCZ.out _ V9;have hb9:=(VT.flip V9).blk;have s0:=hb9.cell (j:=0) rfl;have s1:=hb9.cell (j:=1) rfl;have s2:=hb9.cell (j:=2) rfl;have f0:=hb9.free 0;have f1:=hb9.free 1;have f2:=hb9.free 2;have HV9:=hid V9;clear V9 hb9))
      clear c1 c2 hq1 hq2 hq3 hq4
      all_goals
       have hVF:∃ g w10,w10 = w10:=⟨0,w9,rfl⟩
       clear hVF
       first
        | (have VA:=(HV9.out.box (loc_star (loc_blk _ _ _) HLQ.out) tStat9 [.int .i64 z0,.int .i64 lk,.int .i64 z2]).flip
           obtain ⟨w10,hw10⟩:∃ w10,w10 = w9.alloc (.cells #[.int .i64 z0,.int .i64 lk,.int .i64 z2] tStat9):=⟨_,rfl⟩
           obtain ⟨g,hg⟩:∃ g,g = w9.heap.size:=⟨_,rfl⟩
           rw [<- hw10]
           rw [<- hg]
           have VF:VT 8 p S0 w0 v b d m (volT U2) (volT T) (Star (trA t b v T) (Star (blkA g tStat9 [.int .i64 z0,.int .i64 lk,.int .i64 z2]) (Star (blkA q tEnt [.int .i64 n,.string r2]) B))) w10:=by rw [hw10,hg];exact VA
           clear VA hw10 hg)
        | (have VA:=((((VT.flip HV9.out).turn (loc_star (loc_blk _ _ _) HLQ.out) (turn_blk 0 (.int .i64 z0))).turn (loc_star (loc_blk _ _ _) HLQ.out) (turn_blk 1 (.int .i64 lk))).turn (loc_star (loc_blk _ _ _) HLQ.out) (turn_blk 2 (.int .i64 z2))).flip
           obtain ⟨g,hg⟩:∃ g,g = w8.heap.size:=⟨_,rfl⟩
           rw [<- hg] at VA ⊢
           obtain ⟨w10,hw10⟩:∃ w10,w10 = (((w9.setCell ⟨g,0,none⟩ (.int .i64 z0)).setCell ⟨g,1,none⟩ (.int .i64 lk)).setCell ⟨g,2,none⟩ (.int .i64 z2)):=⟨_,rfl⟩
           rw [<- hw10]
           have VF:VT 8 p S0 w0 v b d m (volT U2) (volT T) (Star (trA t b v T) (Star (blkA g tStat9 [.int .i64 z0,.int .i64 lk,.int .i64 z2]) (Star (blkA q tEnt [.int .i64 n,.string r2]) B))) w10:=by rw [hw10];exact VA
           clear VA hw10 hg)
       try clear c19 c29
       try clear s0 s1 s2 f0 f1 f2
       have hlg:Loc (Star (blkA g tStat9 [.int .i64 z0,.int .i64 lk,.int .i64 z2]) (Star (blkA q tEnt [.int .i64 n,.string r2]) B)):=loc_star (loc_blk _ _ _) HLQ.out
       have HLG:=hid hlg
       have hcg:∀ (c':Nat) (A' A1:Nat -> Node) (U:Tr) (W':World),VT c' p S0 w0 v b d m A' A1 (Star (trA t b v U) (Star (blkA g tStat9 [.int .i64 z0,.int .i64 lk,.int .i64 z2]) (Star (blkA q tEnt [.int .i64 n,.string r2]) B))) W' ->
        W'.cell? ⟨t,1,none⟩ = some (.pointer (some ⟨v,0,none⟩)) /\ W'.cell? ⟨q,0,none⟩ = some (.int .i64 n) /\ W'.cell? ⟨t,2 + n,none⟩ = some (.int .i64 (U n).held) /\ W'.cell? ⟨g,1,none⟩ = some (.int .i64 lk):=fun _ _ _ U _ hv =>
        ⟨hv.blk.cell (j:=1) rfl,(VT.flip (hv.map fun _ _ h=>star_right h fun _ h=>star_flip h)).blk.cell (j:=0) rfl,hv.blk.cell (treeL_held b v U false HN32.out),(VT.flip hv).blk.cell (j:=1) rfl⟩
       have HCG0:=hid hcg
       have HCG:Hid (∀ (c':Nat) (A' A1:Nat -> Node) (U:Tr) (W':World),VT c' p S0 w0 v b d m A' A1 (Star (trA t b v U) (Star (blkA g tStat9 [.int .i64 z0,.int .i64 lk,.int .i64 z2]) (Star (blkA q tEnt [.int .i64 n,.string r2]) B))) W' ->
        W'.cell? ⟨t,1,none⟩ = some (.pointer (some ⟨v,0,none⟩)) /\ W'.cell? ⟨q,0,none⟩ = some (.int .i64 n) /\ W'.cell? ⟨t,2 + n,none⟩ = some (.int .i64 (U n).held)):=hid fun a b c d e h=>⟨(HCG0.out a b c d e h).1,(HCG0.out a b c d e h).2.1,(HCG0.out a b c d e h).2.2.1⟩
       obtain ⟨d1,d2,d3,d4⟩:=hcg _ _ _ _ _ VF
       rw [<- HHD.out] at d3
       have d5:=hn31
       have HVF:=hid VF
       clear VF hcg hlg
       by_cases l0:lk = 0
       ·have bl:((lk:Int) == 0) = true:=by rw [beq_iff_eq];omega
        by_cases h0:hd = 0
        ·have bh:((hd:Int) == 0) = true:=by rw [beq_iff_eq];omega
         have L0:=hid l0
         have H0:=hid h0
         clear l0 h0
         go_wp2_with fail
         have HFV:=hid (free_vol (T:=U2) HN32.out (by rw [HU2N.out];show (U n).kind ≠ 0;rw [HUK.out];exact HN0.out))
         have hsw:unlinkU T r1 j n = setT U2 n TN.free:=by
          show sweepT (setT (setT T r1 { T r1 with slots:=(T r1).slots.set j none }) n _) n = _
          rw [<- HU.out,<- HU2.out]
          unfold sweepT
          rw [if_pos ⟨by rw [<- HLKN.out];exact L0.out,by rw [HU2N.out];show (U n).held = 0;rw [HUH.out,<- HHD.out];exact H0.out⟩]
         have HSW:=hid hsw
         have HHT:Hid (∀ k,k < 32 -> (setT U2 n TN.free k).held = (T k).held):=hid fun k _=>by
          by_cases hkn:k = n
          ·subst hkn
           rw [setT_same,<- HHD.out,H0.out]
           rfl
          ·rw [setT_other U2 _ hkn,HU2.out,setT_proj (fun x:TN=>x.held) (by rfl) k,HU.out]
           exact setT_proj (fun x:TN=>x.held) (by rfl) k
         go_big_quiet (fail)
         have VX:VT 8 p S0 w0 v b d m (volT U2) (volT T) (Star (trA t b v T) (Star (blkA g tStat9 [.int .i64 z0,.int .i64 lk,.int .i64 z2]) (Star (blkA q tEnt [.int .i64 n,.string r2]) B))) (w10.drewN nq):=HVF.out.keep (loc_star (loc_blk _ _ _) HLG.out) ((Fr.refl _ _).drewN _)
         have HFR:Hid (∀ W,VT 8 p S0 w0 v b d m (volT U2) (volT T) (Star (trA t b v T) (Star (blkA g tStat9 [.int .i64 z0,.int .i64 lk,.int .i64 z2]) (Star (blkA q tEnt [.int .i64 n,.string r2]) B))) W -> Calls Tryz.prog 59 #[.pointer (some ⟨v,0,none⟩),.int .i64 n] W fun e w'=>e = .returned (.int .i64 0) /\ ∃ c',VT c' p S0 w0 v b d m (volT (setT U2 n TN.free)) (volT T) (Star (trA t b v T) (Star (blkA g tStat9 [.int .i64 z0,.int .i64 lk,.int .i64 z2]) (Star (blkA q tEnt [.int .i64 n,.string r2]) B))) w'):=hid fun W hW=>by
          have h:=t_free hW (loc_star (loc_blk _ _ _) HLG.out) (by omega) n
          rw [HFV.out.1,HFV.out.2] at h
          exact h
         have HVX:=hid (VX.keep (loc_star (loc_blk _ _ _) HLG.out) (Fr.refl _ _).drew)
         obtain ⟨e1,e2,_⟩:=HCG.out _ _ _ _ _ HVX.out
         clear VX d1 d2 d3 d4 d5 HFV hsw
         go_wp2_with fail
         go_region_held3 (fun w'=>w'.cell? ⟨t,1,none⟩ = some (.pointer (some ⟨v,0,none⟩)) /\ w'.cell? ⟨q,0,none⟩ = some (.int .i64 n))
          (first | exact ⟨e1,e2⟩ | exact ⟨e18,e28⟩ | go_keep)
          (first
           | (go_at_call 59;refine (HFR.out _ HVX.out).mono ?_;rintro e w12 ⟨rfl,c',V12⟩;obtain ⟨e18,e28,_⟩:=HCG.out _ _ _ _ _ V12;have HV12:=hid V12;clear V12))
         have VX:=HV12.out
         clear e1 e2 e18 e28 HFR HVX
         go_wp2_with fail
         have HE:=hid (tends_ok VX HLG.out)
         clear VX
         go_wp2_with fail
         refine HE.out.mono ?_
         intro e w13 hE
         have hD:=(hE.done (U:=T) (T':=setT U2 n TN.free) HHT.out).less.less
         obtain ⟨x,rfl⟩:=hD.val
         have HD9:=hid hD
         clear hE hD HE
         go_wp2_with fail
         go_ret
         rw [HSW.out]
         exact HD9.out
        ·have bh:((hd:Int) == 0) = false:=by rw [beq_eq_false_iff_ne];omega
         have H0:=hid h0
         clear l0 h0
         go_wp2_with fail
         have HSW:Hid (unlinkU T r1 j n = U2):=hid (by
          show sweepT (setT (setT T r1 { T r1 with slots:=(T r1).slots.set j none }) n _) n = U2
          rw [<- HU.out,<- HU2.out]
          unfold sweepT
          rw [if_neg (fun h=>H0.out (by rw [HHD.out,<- HUH.out];have:=h.2;rw [HU2N.out] at this;exact this))])
         have HHT:Hid (∀ k,k < 32 -> (U2 k).held = (T k).held):=hid fun k _=>by
          rw [HU2.out,setT_proj (fun x:TN=>x.held) (by rfl) k,HU.out]
          exact setT_proj (fun x:TN=>x.held) (by rfl) k
         go_big_quiet (fail)
         have VX:VT 8 p S0 w0 v b d m (volT U2) (volT T) (Star (trA t b v T) (Star (blkA g tStat9 [.int .i64 z0,.int .i64 lk,.int .i64 z2]) (Star (blkA q tEnt [.int .i64 n,.string r2]) B))) (w10.drewN nq):=HVF.out.keep (loc_star (loc_blk _ _ _) HLG.out) ((Fr.refl _ _).drewN _)
         clear d1 d2 d3 d4 d5
         go_wp2_with fail
         have HE:=hid (tends_ok VX HLG.out)
         clear VX
         go_wp2_with fail
         refine HE.out.mono ?_
         intro e w13 hE
         have hD:=(hE.done (U:=T) (T':=U2) HHT.out).less.less
         obtain ⟨x,rfl⟩:=hD.val
         have HD9:=hid hD
         clear hE hD HE
         go_wp2_with fail
         go_ret
         rw [HSW.out]
         exact HD9.out
       ·have bl:((lk:Int) == 0) = false:=by rw [beq_eq_false_iff_ne];omega
        have L0:=hid l0
        clear l0
        go_wp2_with fail
        have HSW:Hid (unlinkU T r1 j n = U2):=hid (by
         show sweepT (setT (setT T r1 { T r1 with slots:=(T r1).slots.set j none }) n _) n = U2
         rw [<- HU.out,<- HU2.out]
         unfold sweepT
         rw [if_neg (fun h=>L0.out (by rw [HLKN.out];exact h.1))])
        have HHT:Hid (∀ k,k < 32 -> (U2 k).held = (T k).held):=hid fun k _=>by
         rw [HU2.out,setT_proj (fun x:TN=>x.held) (by rfl) k,HU.out]
         exact setT_proj (fun x:TN=>x.held) (by rfl) k
        go_big_quiet (fail)
        have VX:VT 8 p S0 w0 v b d m (volT U2) (volT T) (Star (trA t b v T) (Star (blkA g tStat9 [.int .i64 z0,.int .i64 lk,.int .i64 z2]) (Star (blkA q tEnt [.int .i64 n,.string r2]) B))) (w10.drewN nq):=HVF.out.keep (loc_star (loc_blk _ _ _) HLG.out) ((Fr.refl _ _).drewN _)
        clear d1 d2 d3 d4 d5
        go_wp2_with fail
        have HE:=hid (tends_ok VX HLG.out)
        clear VX
        go_wp2_with fail
        refine HE.out.mono ?_
        intro e w13 hE
        have hD:=(hE.done (U:=T) (T':=U2) HHT.out).less.less
        obtain ⟨x,rfl⟩:=hD.val
        have HD9:=hid hD
        clear hE hD HE
        go_wp2_with fail
        go_ret
        rw [HSW.out]
        exact HD9.out
     ·have hm1:mk = (12,T):=by rw [HM3.out,if_pos ⟨HK9.out,.inr (by rw [<- HHD.out];omega)⟩]
      have bh:(0:Int) < (hd:Int):=by omega
      have bh2:decide ((0:Int) < (hd:Int)) = true:=decide_eq_true bh
      clear h0
      subst hm1
      refine wp_region_wd (TV p S0 w0 t v b d m T (Star (blkA q tEnt [.int .i64 n,.string r2]) B)) HV4.out (by kernel_rfl) (by kernel_rfl) ?_
      repeat (go_big_quiet_step (first | (go_at_call 52;exact Calls.wd (HISW.out _)) | (go_at_call 57;exact Calls.wd (HEW.out _))))
      refine wpQuiet_nil ?_
      rintro w5 ⟨⟨_,V5⟩,rfl⟩
      have V5:TV p S0 w0 t v b d m T (Star (blkA q tEnt [.int .i64 n,.string r2]) B) w5:=V5
      have HV5:=hid V5
      clear V5 kk1 kk2 kk3
      go_wp2_with fail
      go_ret
      exact .inl ⟨rfl,p,id,HV5.out.map fun _ _ h=>star_less h⟩
 ·have hm1:mk = (r3,T):=by rw [HMK.out,if_pos h3]
  subst hm1
  have b0:(r3 != 0) = true:=by simpa using h3
  clear h3
  go_wp2_with fail
  refine HL.out.mono ?_
  rintro e w2 ⟨rfl,V2⟩
  have HV:=hid V2
  clear V2 HL
  go_wp2_with fail
  go_ret
  exact .inl ⟨rfl,p,id,HV.out⟩
end
end
end Go.Proofs.YtngalllaiphkhaaGreatDoor
