/- VolMounts: its walk. -/
import Derived.Test.YtfldhmeenbdkiaaGreatDoorVmO
import Derived.Test.YtfldhmeenbdkiaaGreatDoorRvV
namespace Go.Proofs.YtfldhmeenbdkiaaGreatDoor
open Go.RowKit

def secsOf (l : List ByteArray) : Sec := fun j => l.getD (32 + j) ⟨#[]⟩
theorem secsOf_at {l : List ByteArray} {j : Nat} (h : 32 + j < l.length) : l[32 + j]? = some (secsOf l j) := by
  unfold secsOf
  rw [List.getD, List.getElem?_eq_getElem h]; rfl
theorem of_calm {l : List ByteArray} {m : Nat} (hl : l.length = 32 + m) (h1 : l[1]? = some nought) : Calm m (secsOf l) (DSt.of l) where
  len := hl
  st := ⟨by rw [head_nil_nought]; exact h1, fun j hj => secsOf_at (l := l) (by rw [hl]; exact Nat.add_lt_add_left hj 32), fun y hy => by simp [DSt.of, DSt.sw] at hy⟩
  wait := rfl
  off := rfl
theorem secs_srcs {w : World} {g off n c m : Nat} {l : List ByteArray} (hs : Srcs w (.slice (some ⟨g, off, none⟩) n c) l.length 1 (strs l)) (hl : l.length = 32 + m) (c' : Nat) : Srcs w (.slice (some ⟨g, off + 32, none⟩) m c') m 1 (secL (secsOf l) m) := by
  refine ⟨by simp [secL], fun u hu => ?_, .inr ⟨⟨g, off + 32, none⟩, c', rfl, fun j u hj => ?_⟩⟩
  · unfold secL at hu
    obtain ⟨i, _, rfl⟩ := List.mem_map.1 hu
    rfl
  · have hjm : j < m := by
      have := (List.getElem?_eq_some_iff.1 hj).1
      simpa [secL] using this
    rw [secL_get _ hjm] at hj
    obtain rfl := Option.some.inj hj
    obtain ⟨g1, o1, e1, c1⟩ := hs.at (j := 32 + j) (u := .string (secsOf l j)) (by unfold strs; rw [List.getElem?_map, secsOf_at (by omega)]; rfl)
    simp only [Option.some.injEq, Addr.mk.injEq, and_true] at e1
    obtain ⟨rfl, rfl⟩ := e1
    simp only [Addr.add_lit]
    rw [show off + 32 + j = off + (32 + j) by omega]
    exact c1

theorem vl_newr {S0 : Nat → Prop} {w0 w w1 : World} {v b d m r : Nat} {A A0 A1 : Nat → Node} {L : LSt} {B : Asr} (h : VL S0 w0 v b d m A A0 L B w) (hB : Loc B) (hn : Lv Nob w (rvX r m A1) w1) : VL S0 w0 v b d m A A0 L (Star (rvX r m A1) B) w1 := by
  obtain ⟨h1, h2⟩ := hn.fin (mon_rvX _ _ _)
  exact ⟨VV.inn (Lv.new h.1 (VV.loc hB) h2 h1), h.2⟩
theorem vl_box {S0 : Nat → Prop} {w0 w : World} {v b d m r : Nat} {A A0 A1 : Nat → Node} {L : LSt} {B : Asr} (h : VL S0 w0 v b d m A A0 L (Star (rvX r m A1) B) w) (hB : Loc B) (cs : List Value) :
    VL S0 w0 v b d m A A0 L (Star (rvX r m A1) (Star (blkA w.heap.size tStat cs) B)) (w.alloc (.cells cs.toArray tStat)) :=
  VL.flip ⟨VV.box h.1 (loc_star (loc_rvX _ _ _) hB) tStat cs, h.2⟩
theorem VL.fr {S0 : Nat → Prop} {w0 w : World} {v b d m : Nat} {A A0 : Nat → Node} {L : LSt} {B : Asr} (h : VL S0 w0 v b d m A A0 L B w) : Fr S0 w0 w := Lv.fr h.1
theorem vl_blk {S0 : Nat → Prop} {w0 w : World} {v b d m : Nat} {A A0 : Nat → Node} {L : LSt} {B R : Asr} {b1 e : Nat} {cs : List Value} (h : VL S0 w0 v b d m A A0 L (Star R (Star (blkA b1 e cs) B)) w) : Blk w b1 e cs := by
  obtain ⟨_, ⟨_, _, _, ⟨_, _, _, ⟨_, _, _, ⟨_, _, _, ⟨_, _, h1, _⟩, _⟩, _⟩, _⟩, _⟩, _⟩ := h.1
  exact h1.1
theorem vl_second {S0 : Nat → Prop} {w0 w : World} {v b d m : Nat} {A A0 : Nat → Node} {L : LSt} {B R : Asr} {b1 b2 e : Nat} {cs ds : List Value} (h : VL S0 w0 v b d m A A0 L (Star R (Star (blkA b1 e cs) (Star (blkA b2 e ds) B))) w) : Blk w b1 e cs ∧ Blk w b2 e ds := by
  obtain ⟨_, ⟨_, _, _, ⟨_, _, _, ⟨_, _, _, ⟨_, _, _, ⟨_, _, h1, ⟨_, _, h2, _⟩, _⟩, _⟩, _⟩, _⟩, _⟩, _⟩ := h.1
  exact ⟨h1.1, h2.1⟩

set_option maxRecDepth 100000 in
set_option maxHeartbeats 8000000 in
theorem mounts_calls {w : World} {ao : Option Addr} {cap : Nat} {l : List ByteArray} (hs : Srcs w (.slice ao l.length cap) l.length 1 (strs l)) (hb : l.length * 16 ≤ 140737488351232) (hcap : l.length ≤ cap) (n off : Int) :
    Calls Tryz.prog 3 #[.slice ao l.length cap, .int .i64 n, .int .i64 off] w fun e w' => e = .returned (.bool true) ∧ Fr Nob w w' := by
  have LS : Lv Nob w Emp w := (Live.start w).lv
  have HH := Lib.hid (Lv.calls LS loc_emp (vshown_calls w))
  have HS := Lib.hid hs
  obtain ⟨ln, hln⟩ : ∃ ln, ln = l.length := ⟨_, rfl⟩
  have HLN := Lib.hid hln
  have HCAP := Lib.hid hcap
  have HLB : Hid (l.length ≤ 9223372036854775807) := Lib.hid (by omega)
  clear hs LS hb hcap
  rw [← hln]
  clear hln
  go_enter Tryz.func3, Tryz.ntmps3
  go_wp2_with fail
  refine HH.out.mono ?_
  rintro e w0 ⟨rfl, LS⟩
  have hs0 := HS.out.fr LS.fr (fun _ _ _ _ h => h)
  have HO := roimg_calls hs0 HLB.out
  rw [← HLN.out] at HO
  have HO := Lib.hid HO
  have HLS := Lib.hid LS
  clear hs0 LS HH
  go_wp2_with fail
  refine HO.out.mono ?_
  rintro e w1 ⟨hf1, hpost⟩
  have HL1 := Lib.hid (HLS.out.keep loc_emp hf1)
  clear HO HLS hf1
  rcases hpost with ⟨hbad, rfl⟩ | ⟨him, s, rfl, _⟩
  · clear hbad
    go_wp2_with fail
    go_quiet (fail)
    go_wp2_with fail
    go_ret
    exact ⟨rfl, by first | exact HL1.out.fr | exact HL1.out.fr.drewN _⟩
  · obtain ⟨m, hm⟩ : ∃ m, ln = 32 + m := ⟨ln - 32, by have := him.1; have := HLN.out; omega⟩
    have h48 : 48 ≤ ln := by rw [HLN.out]; exact him.1
    have h544 : ln ≤ 544 := by rw [HLN.out]; exact him.2.1
    have HIM := Lib.hid him
    have HM := Lib.hid hm
    obtain ⟨s1, hs1⟩ : ∃ s1, l[1]? = some s1 := ⟨_, List.getElem?_eq_getElem (by rw [← HLN.out]; omega)⟩
    have hsl := HS.out
    rw [← HLN.out] at hsl
    obtain ⟨g, o, hao, hc1⟩ := hsl.at (j := 1) (u := .string s1) (by unfold strs; rw [List.getElem?_map, hs1]; rfl)
    subst hao
    have HC1 := Lib.hid hc1
    have HSL := Lib.hid hsl
    have HS1 := Lib.hid hs1
    have H48 := Lib.hid h48
    have H544 := Lib.hid h544
    have cw := HL1.out.fr.cell hc1 (fun h => h)
    have h1n : (1 : Int) < (ln : Int) := by omega
    have hcmp := bytes_beq s1 nought
    clear him hm hs1 hsl hc1 h48 h544
    have LD := HL1.out.drew loc_emp
    go_wp2_with fail
    go_region_held3 (fun w' => w'.cell? ⟨g, o + 1, none⟩ = some (.string s1))
      (first | go_keep | exact t0)
      (first | (go_at_call 8; refine (LD.calls loc_emp (noughts_calls _)).mono ?_; rintro e w2 ⟨rfl, L2⟩; have t0 := L2.fr.cell HC1.out (fun h => h)))
    have HSD : Hid (Srcs w2 (.slice (some ⟨g, o, none⟩) l.length cap) l.length 1 (strs l)) := Lib.hid (HS.out.fr L2.fr (fun _ _ _ _ h => h))
    have HL2 := Lib.hid L2
    clear L2 t0 cw LD
    by_cases hz : s1 = nought
    · subst hz
      have hd : decide (nought = nought) = true := by simp
      simp only [hd]
      clear hd hcmp
      have HOF := of_calls HSD.out HLB.out
      rw [← HLN.out] at HOF
      have HOF := Lib.hid HOF
      go_wp2_with fail
      refine HOF.out.mono ?_
      rintro e w3 ⟨hf3, hpost⟩
      rcases hpost with ⟨hbad, rfl⟩ | ⟨_, d, rfl, hdk⟩
      · exact absurd HIM.out hbad
      have hcalm : Calm m (secsOf l) (DSt.of l) := of_calm (by rw [← HLN.out]; exact HM.out) HS1.out
      have L3 : Lv Nob w (Star (dskA kD d (DSt.of l)) Emp) w3 := Lv.new HL2.out loc_emp hf3 hdk
      have HOP := Lib.hid (lv_opens L3 loc_emp hcalm.opens.1 (by simp [DSt.of]))
      have HSE : Hid (Srcs w3 (.slice (some ⟨g, o, none⟩) l.length cap) l.length 1 (strs l)) := Lib.hid (HS.out.fr L3.fr (fun _ _ _ _ h => h))
      clear hf3 hdk L3 HOF HSD HL2
      have HCA := Lib.hid hcalm
      clear hcalm
      go_wp2_with fail
      refine HOP.out.mono ?_
      rintro e w4 ⟨b, rfl, V4⟩
      rw [HCA.out.opens.2] at V4
      have hsz : ∀ i, i < m → (secsOf l i).size = 64 := fun i hi => HIM.out.2.2 _ (List.mem_of_getElem? (secsOf_at (l := l) (by have := HLN.out; have := HM.out; omega)))
      have hm16 : 16 ≤ m := by have := HM.out; have := H48.out; omega
      have hm512 : m ≤ 512 := by have := HM.out; have := H544.out; omega
      have hvok : VOk ⟨DSt.of l, [], false⟩ := LV.vok V4 rfl (by simp [DSt.of])
      have hov : over (secsOf l) [] = secsOf l := rfl
      have hav : Alv m (secsOf l) (secsOf l) (keys []) ⟨DSt.of l, [], false⟩ := ⟨HCA.out, rfl, rfl, hvok, hov, fun x hx => by cases hx⟩
      have HAV := Lib.hid hav
      have HSZ := Lib.hid hsz
      have HM16 := Lib.hid hm16
      have HM512 := Lib.hid hm512
      have HMT := Lib.hid (vmount_calls V4 loc_emp hav)
      clear V4 hsz hm16 hm512 hvok hov hav HOP
      go_wp2_with fail
      refine HMT.out.mono ?_
      clear HMT
      intro e w5 hpost
      have hfr : Fr Nob w w5 := by
        rcases hpost with ⟨_, v, _, h⟩ | ⟨_, _, h⟩
        · exact Lv.fr h
        · exact Lv.fr h
      have HSF := HS.out.fr hfr (fun _ _ _ _ h => h)
      have hcc : 32 < cap := by have := HCAP.out; have := HLN.out; have := H48.out; omega
      have HRO := Lib.hid (rof_calls (secs_srcs HSF (by rw [← HLN.out]; exact HM.out) (cap - 32)) HSZ.out HM16.out HM512.out)
      have f1 : ¬ cap = 32 := by omega
      have f2 : 32 ≤ cap := by omega
      have f3 : 32 ≤ ln := by have := H48.out; omega
      have f4 : (32 : Int) ≤ (ln : Int) := by omega
      have f5 : ln - 32 = m := by have := HM.out; omega
      have f6 : ln ≤ cap := by have := HCAP.out; have := HLN.out; omega
      clear HSF hcc
      rcases hpost with ⟨hwh, v, rfl, V5⟩ | ⟨hnw, rfl, V5⟩
      · have HWH := Lib.hid hwh
        have HV5 := Lib.hid V5
        clear hwh V5 hfr
        go_wp2_with fail
        refine HRO.out.mono ?_
        clear HRO
        intro e w6 h6
        obtain ⟨r, rfl, hrv⟩ : ∃ r, e = .returned (.tuple #[.pointer (some ⟨r, 0, none⟩), .bool true]) ∧ Lv Nob w5 (rvX r m (nodesX (secsOf l))) w6 := by
          rcases h6 with ⟨_, h⟩ | ⟨hno, _⟩
          · exact h
          · exact absurd HWH.out hno
        clear h6
        have hiv : IsVol m (secsOf l) (nodesX (secsOf l)) := HWH.out.vol HM16.out HM512.out HSZ.out
        have V6 : VL Nob w v b d m (nodesX (secsOf l)) (nodesX (secsOf l)) ⟨DSt.of l, [], false⟩ (Star (rvX r m (nodesX (secsOf l))) Emp) w6 :=
          vl_newr ⟨HV5.out, secsOf l, secsOf l, ⟨HAV.out, hiv⟩, hiv⟩ loc_emp hrv
        obtain ⟨A, hA⟩ : ∃ A, A = nodesX (secsOf l) := ⟨_, rfl⟩
        rw [← hA] at V6
        have HOK := Lib.hid V6.ok
        have HST := l_stat V6 (loc_star (loc_rvX _ _ _) loc_emp) n
        obtain ⟨x0, x1, x2, hx⟩ : ∃ x0 x1 x2 : Int, (if afindE A n = 0 then nstatV (A n.toNat) else nstatV Node.free) = .agg #[.int .i64 x0, .int .i64 x1, .int .i64 x2] := by
          split
          · exact ⟨_, _, _, rfl⟩
          · exact ⟨_, _, _, rfl⟩
        rw [hx] at HST
        have HXX := Lib.hid hx
        obtain ⟨gE, hgE⟩ : ∃ x, x = afindE A n := ⟨_, rfl⟩
        rw [← hgE] at HST
        have HGE := Lib.hid hgE
        have bE : (gE == gE) = true := by simp
        have HST := Lib.hid HST
        clear hx hgE V6 hrv HV5 hiv hA f1 f2 f3 f4 f5 f6
        go_wp2_with fail
        refine HST.out.mono ?_
        clear HST
        rintro e w7 ⟨rfl, V7⟩
        have V8 := vl_box V7 loc_emp [.int .i64 x0, .int .i64 x1, .int .i64 x2]
        obtain ⟨nA, hnA⟩ : ∃ nA, nA = w7.heap.size := ⟨_, rfl⟩
        rw [← hnA] at V8
        have HNA := Lib.hid hnA
        have HRS := lr_stat V8 (loc_star (loc_blk _ _ _) loc_emp) n
        rw [HXX.out, ← HGE.out] at HRS
        have HRS := Lib.hid HRS
        clear V7 V8 hnA
        go_wp2_with fail
        refine HRS.out.mono ?_
        clear HRS
        rintro e w9 ⟨rfl, V9⟩
        have V10 := vl_box V9 (loc_star (loc_blk _ _ _) loc_emp) [.int .i64 x0, .int .i64 x1, .int .i64 x2]
        have hlt := World.block_lt_of_cell? _ _ ((vl_blk V9).cell (j := 0) rfl)
        obtain ⟨nB, hnB⟩ : ∃ nB, nB = w9.heap.size := ⟨_, rfl⟩
        rw [← hnB] at V10
        have HNB := Lib.hid hnB
        have HLR := l_read V10 (loc_star (loc_rvX _ _ _) (loc_star (loc_blk _ _ _) (loc_star (loc_blk _ _ _) loc_emp))) n off 3000
        obtain ⟨gS, hgS⟩ : ∃ x, x = areadB A n off 3000 := ⟨_, rfl⟩
        rw [← hgS] at HLR
        have HGS := Lib.hid hgS
        have bS : (gS.toList == gS.toList) = true := by simp
        obtain ⟨gF, hgF⟩ : ∃ x, x = areadE A n off 3000 := ⟨_, rfl⟩
        rw [← hgF] at HLR
        have HGF := Lib.hid hgF
        have bF : (gF == gF) = true := by simp
        have HLR := Lib.hid HLR
        clear V9 V10 hnB hgS hgF
        go_wp2_with fail
        refine HLR.out.mono ?_
        clear HLR
        rintro e w11 ⟨rfl, V11⟩
        have hbb := vl_second V11
        have a0 := hbb.2.cell (j := 0) rfl
        have a1 := hbb.2.cell (j := 1) rfl
        have a2 := hbb.2.cell (j := 2) rfl
        have b0 := hbb.1.cell (j := 0) rfl
        have b1 := hbb.1.cell (j := 1) rfl
        have b2 := hbb.1.cell (j := 2) rfl
        rw [HNA.out] at a0 a1 a2
        rw [HNB.out] at b0 b1 b2
        have HRR := lr_read V11 n off 3000
        rw [← HGS.out] at HRR
        rw [← HGF.out] at HRR
        have HRR := Lib.hid HRR
        have hl3 : Loc (Star (rvX r m A) (Star (blkA nB tStat [.int .i64 x0, .int .i64 x1, .int .i64 x2]) (Star (blkA nA tStat [.int .i64 x0, .int .i64 x1, .int .i64 x2]) Emp))) := loc_star (loc_rvX _ _ _) (loc_star (loc_blk _ _ _) (loc_star (loc_blk _ _ _) loc_emp))
        have HRM := Lib.hid (l_room V11 hl3)
        have HL3 := Lib.hid hl3
        clear V11 hbb hl3
        obtain ⟨gR, hgR⟩ : ∃ x : Int, x = (aroom m A : Nat) := ⟨_, rfl⟩
        rw [← hgR] at HRM
        have HGR := Lib.hid hgR
        have bR : (gR == gR) = true := by simp
        clear hgR
        go_wp2_with fail
        refine HRR.out.mono ?_
        clear HRR
        rintro e w12 ⟨rfl, rfl⟩
        go_wp2_with fail
        refine HRM.out.mono ?_
        clear HRM a0 a1 a2 b0 b1 b2
        rintro e w13 ⟨rfl, V13⟩
        have hbb := vl_second V13
        have a0 := hbb.2.cell (j := 0) rfl
        have a1 := hbb.2.cell (j := 1) rfl
        have a2 := hbb.2.cell (j := 2) rfl
        have b0 := hbb.1.cell (j := 0) rfl
        have b1 := hbb.1.cell (j := 1) rfl
        have b2 := hbb.1.cell (j := 2) rfl
        rw [HNA.out] at a0 a1 a2
        rw [HNB.out] at b0 b1 b2
        have HFF := Lib.hid V13.fr
        have HRR := lr_room V13 HOK.out.1 HOK.out.2.1 HOK.out.2.2.1
        rw [← HGR.out] at HRR
        have HRR := Lib.hid HRR
        clear V13 hbb
        go_wp2_with fail
        refine HRR.out.mono ?_
        clear HRR
        rintro e w14 ⟨rfl, rfl⟩
        go_wp2_with fail
        go_ret
        exact ⟨by first | rfl | simp, by first | exact HFF.out | exact HFF.out.drewN _ | exact HFF.out.drew⟩
      · have HNW := Lib.hid hnw
        have HF5 := Lib.hid hfr
        clear hnw hfr V5 HAV HSZ
        go_wp2_with fail
        refine HRO.out.mono ?_
        clear HRO
        rintro e w6 (⟨hyes, _⟩ | ⟨_, rfl, hf6⟩)
        · exact absurd hyes HNW.out
        have HF6 := Lib.hid (HF5.out.trans' hf6 (fun _ _ h => h))
        clear hf6 f1 f2 f3 f4 f5 f6
        go_wp2_with fail
        go_ret
        exact ⟨by first | rfl | simp, by first | exact HF6.out | exact HF6.out.drewN _ | exact HF6.out.drew⟩
    · have hd : decide (s1 = nought) = false := by simp [hz]
      simp only [hd]
      clear hd hcmp
      go_wp2_with fail
      go_ret
      exact ⟨rfl, HL2.out.fr⟩
end Go.Proofs.YtfldhmeenbdkiaaGreatDoor
