/- The document's example of layer 8: its walk. -/
import Derived.Test.YtfldhmeenbdkiaaGreatDoorWB
namespace Go.Proofs.YtfldhmeenbdkiaaGreatDoor
open Go.RowKit

section
variable {S0 : Nat → Prop} {w0 w : World} {v b d : Nat} {L : LSt} {B R : Asr}
theorem LV.vok (h : LV S0 w0 b d L B w) (hs : L.stg = []) (hw : L.D.wait.length ≤ 70) : VOk L := by
  obtain ⟨_, _, _, _, _, h1⟩ := h.parts
  exact ⟨by unfold LSt.Ok; rw [hs]; exact good_nil _, hw, h1⟩
theorem vok_new {L : LSt} (h : VOk L) (kind : Int) : VOk (vnew L kind) := by
  unfold vnew
  split
  · exact vok_keep h _ _
  · exact h
theorem vok_format {L : LSt} (h : VOk L) : VOk (vformat L) := vok_fmtB (vok_fmtA h 9) 9
theorem vok_put (x : Ino) : ∀ (f : Nat) {L : LSt} (o : Nat) (s : ByteArray), VOk L → VOk (vput x f L o s)
  | 0, _, _, _, h => h
  | f + 1, L, o, s, h => by
    unfold vput
    split
    · exact h
    · exact vok_put x f _ _ (vok_patch h _ _ _)
theorem vok_grown {L : LSt} (h : VOk L) {x : Ino} (hx : x.Fits) (size : Nat) : VOk (vgrown L x size).1 := by
  rw [vgrown_eq]
  exact (growF_keeps (vok_indirect h x size).1 (indirect_fits h hx size) _ _).1
theorem vok_write {L : LSt} (h : VOk L) (n off : Int) (s : ByteArray) : VOk (vwrite L n off s) := by
  unfold vwrite
  split
  · exact vok_keep (vok_put _ _ _ _ (vok_grown h (vfindX_fits L n) _)) _ _
  · exact h
theorem vok_link {L : LSt} (h : VOk L) (n by_ : Int) : VOk (vlink L n by_) := by
  unfold vlink
  split
  · exact vok_keep h _ _
  · exact h
theorem vok_cutD {L : LSt} (h : VOk L) (n size : Int) : VOk (vcutD L n size) := by
  unfold vcutD
  split
  · exact vok_keep (vok_cut h _ _) _ _
  · exact h
theorem VV.commit (hL : VV S0 w0 v b d L B w) (hB : Loc B) (hk : VOk L) :
    Calls Tryz.prog 26 #[.pointer (some ⟨b, 0, none⟩)] w fun e w' => e = .returned (.int .i64 L.commitE) ∧ VV S0 w0 v b d L.commit B w' :=
  lv_commit hL (loc_star (loc_blk _ _ _) hB) hk.ok (by have := hk.wait; omega)
end

theorem sh_stg : sh5.stg = [] := by decide +kernel

set_option maxRecDepth 100000 in
set_option maxHeartbeats 4000000 in
theorem vshown_calls (w : World) : Calls Tryz.prog 6 #[] w fun e w' => e = .returned (.bool true) ∧ Fr Nob w w' := by
  have F1 := Lib.hid sh_facts1
  have F2 := Lib.hid sh_facts2
  have F3 := Lib.hid sh_facts3
  have F4 := Lib.hid sh_facts4
  have FW := Lib.hid sh_wait
  have HST : Hid (sh0.stg = [] ∧ sh5.stg = []) := Lib.hid ⟨rfl, sh_stg⟩
  have LS : Lv Nob w Emp w := (Live.start w).lv
  have HF := Lib.hid (fresh_calls loc_emp LS 48)
  have HT := Lib.hid text_calls
  clear LS
  go_enter Tryz.func6, Tryz.ntmps6
  go_wp2_with fail
  refine HF.out.mono ?_
  rintro e w1 ⟨d, b, rfl, L0⟩
  have L0 : LV Nob w b d sh0 Emp w1 := L0
  have k0 := L0.vok HST.out.1 (by rw [FW.out.1]; omega)
  have K1 := Lib.hid (vok_format k0)
  have HFO := Lib.hid (vformat_calls L0 loc_emp k0 F1.out.1 F1.out.2.1)
  clear L0 k0 HF
  go_wp2_with fail
  refine HFO.out.mono ?_
  rintro e w2 ⟨v, rfl, L1⟩
  have L1 : VV Nob w v b d sh1 Emp w2 := L1
  have hR := vRoom_calls L1 loc_emp K1.out
  rw [F1.out.2.2.1, if_pos rfl, F1.out.2.2.2.1] at hR
  have HR := Lib.hid hR
  clear L1 hR HFO
  go_wp2_with fail
  refine HR.out.mono ?_
  rintro e w3 ⟨rfl, L1⟩
  have hN := vnew_calls L1 loc_emp K1.out 1
  rw [F1.out.2.2.2.2.1, F1.out.2.2.2.2.2] at hN
  have HN := Lib.hid hN
  clear L1 hN HR
  go_wp2_with fail
  refine HN.out.mono ?_
  rintro e w4 ⟨rfl, L2⟩
  have L2 : VV Nob w v b d sh2 Emp w4 := L2
  have K2 : Hid (VOk sh2) := Lib.hid (vok_new K1.out 1)
  have HT2 := Lib.hid (Lv.calls L2 (VV.loc loc_emp) (HT.out 65 (by omega) w4))
  clear L2 HN
  go_wp2_with fail
  refine HT2.out.mono ?_
  rintro e w5 ⟨rfl, L2⟩
  have L2 : VV Nob w v b d sh2 Emp w5 := L2
  have HW := Lib.hid (vwrite_calls L2 loc_emp K2.out 0 0 (textP 65))
  clear L2 HT2
  go_wp2_with fail
  refine HW.out.mono ?_
  rintro e w6 ⟨rfl, L3⟩
  have L3 : VV Nob w v b d sh3 Emp w6 := L3
  have K3 : Hid (VOk sh3) := Lib.hid (vok_write K2.out _ _ _)
  have hR := vRoom_calls L3 loc_emp K3.out
  rw [F2.out.1, if_pos rfl, F2.out.2] at hR
  have HR := Lib.hid hR
  clear L3 hR HW
  go_wp2_with fail
  refine HR.out.mono ?_
  rintro e w7 ⟨rfl, L3⟩
  have HT3 := Lib.hid (Lv.calls L3 (VV.loc loc_emp) (HT.out 255 (by omega) w7))
  clear L3 HR
  go_wp2_with fail
  refine HT3.out.mono ?_
  rintro e w8 ⟨rfl, L3⟩
  have L3 : VV Nob w v b d sh3 Emp w8 := L3
  have HW := Lib.hid (vwrite_calls L3 loc_emp K3.out 0 65 (textP 255))
  clear L3 HT3
  go_wp2_with fail
  refine HW.out.mono ?_
  rintro e w9 ⟨rfl, L4⟩
  have L4 : VV Nob w v b d sh4 Emp w9 := L4
  have K4 : Hid (VOk sh4) := Lib.hid (vok_write K3.out _ _ _)
  have HC := Lib.hid (VV.commit L4 loc_emp K4.out)
  clear L4 HW
  go_wp2_with fail
  refine HC.out.mono ?_
  rintro e w10 ⟨rfl, L5⟩
  have L5 : VV Nob w v b d sh5 Emp w10 := L5
  have K5 : Hid (VOk sh5) := Lib.hid ((VV.gone L5).vok HST.out.2 (by rw [FW.out.2.2]; omega))
  have HW := Lib.hid (vwrite_calls L5 loc_emp K5.out 0 320 shX)
  clear L5 HC
  go_wp2_with fail
  refine HW.out.mono ?_
  rintro e w11 ⟨rfl, L6⟩
  have L6 : VV Nob w v b d sh6 Emp w11 := L6
  have K6 : Hid (VOk sh6) := Lib.hid (vok_write K5.out _ _ _)
  have hR := vRoom_calls L6 loc_emp K6.out
  rw [F3.out.1, if_pos rfl, F3.out.2] at hR
  have HR := Lib.hid hR
  clear L6 hR HW
  go_wp2_with fail
  refine HR.out.mono ?_
  rintro e w12 ⟨rfl, L6⟩
  have hW := vwrite_calls L6 loc_emp K6.out 0 384 shX
  rw [F4.out.1] at hW
  have HW := Lib.hid hW
  clear L6 hW HR
  go_wp2_with fail
  refine HW.out.mono ?_
  rintro e w13 ⟨rfl, L7⟩
  have L7 : VV Nob w v b d sh7 Emp w13 := L7
  have K7 : Hid (VOk sh7) := Lib.hid (vok_write K6.out _ _ _)
  have hC := vCut_calls L7 loc_emp K7.out 0 320 (fun _ => sh_cut)
  rw [F4.out.2.1] at hC
  have HC := Lib.hid hC
  clear L7 hC HW
  go_wp2_with fail
  refine HC.out.mono ?_
  rintro e w14 ⟨rfl, L8⟩
  have L8 : VV Nob w v b d sh8 Emp w14 := L8
  have K8 : Hid (VOk sh8) := Lib.hid (vok_cutD K7.out _ _)
  have hR := vRoom_calls L8 loc_emp K8.out
  rw [F4.out.2.2.1, if_pos rfl, F4.out.2.2.2] at hR
  have HR := Lib.hid hR
  clear L8 hR HC
  go_wp2_with fail
  refine HR.out.mono ?_
  rintro e w15 ⟨rfl, L8⟩
  have HFR := Lib.hid (Lv.fr L8)
  clear L8 HR
  go_wp2_with fail
  go_ret
  exact ⟨rfl, HFR.out⟩
end Go.Proofs.YtfldhmeenbdkiaaGreatDoor
