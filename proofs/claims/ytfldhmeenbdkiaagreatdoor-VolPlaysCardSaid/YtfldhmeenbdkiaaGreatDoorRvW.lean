/- VolPlays: its walk. -/
import Derived.Test.YtfldhmeenbdkiaaGreatDoorRvV
namespace Go.Proofs.YtfldhmeenbdkiaaGreatDoor
open Go.RowKit

section
variable {S0 : Nat → Prop} {w0 w w1 : World} {v b d m r q : Nat} {A A0 A1 A2 : Nat → Node} {L : LSt} {B R R' : Asr}
theorem VL.fr (h : VL S0 w0 v b d m A A0 L B w) : Fr S0 w0 w := Lv.fr h.1
theorem l_mount (h : VL S0 w0 v b d m A A0 L B w) (hB : Loc B) :
    Calls Tryz.prog 11 #[.pointer (some ⟨b, 0, none⟩)] w fun e w' => ∃ v', e = .returned (.tuple #[.pointer (some ⟨v', 0, none⟩), .int .i64 0]) ∧ VL S0 w0 v' b d m A A0 L B w' := by
  obtain ⟨h1, H, X, h2, h3⟩ := h
  refine (vmount_calls (VV.gone h1) hB h2.alv).mono ?_
  rintro e w' (⟨_, v', rfl, h4⟩ | ⟨hbad, _⟩)
  · exact ⟨v', rfl, h4, H, X, h2, h3⟩
  · exact absurd h2.vol.whole hbad
theorem VL.newr (h : VL S0 w0 v b d m A A0 L B w) (hB : Loc B) (hn : Lv Nob w (rvX r m A1) w1) : VL S0 w0 v b d m A A0 L (Star (rvX r m A1) B) w1 := by
  obtain ⟨h1, h2⟩ := hn.fin (mon_rvX _ _ _)
  exact ⟨VV.inn (Lv.new h.1 (VV.loc hB) h2 h1), h.2⟩
theorem VL.keep (h : VL S0 w0 v b d m A A0 L B w) (hB : Loc B) (hf : Fr Nob w w1) : VL S0 w0 v b d m A A0 L B w1 := ⟨Lv.keep h.1 (VV.loc hB) hf, h.2⟩
theorem VL.drop3 (h : VL S0 w0 v b d m A A0 L (Star R (Star R' (Star (rvX r m A1) B))) w) : VL S0 w0 v b d m A A0 L (Star R (Star R' B)) w :=
  ⟨h.1.map fun _ h => star_right h fun _ h => star_right h fun _ h => star_right h fun _ h => star_right h fun _ h => star_less h, h.2⟩
theorem VL.drop2 (h : VL S0 w0 v b d m A A0 L (Star R (Star (rvX r m A1) B)) w) : VL S0 w0 v b d m A A0 L (Star R B) w :=
  ⟨h.1.map fun _ h => star_right h fun _ h => star_right h fun _ h => star_right h fun _ h => star_less h, h.2⟩
theorem VL.nodes (h : VL S0 w0 v b d m A A0 L (Star (rvX r m A1) B) w) (e : A1 = A2) : VL S0 w0 v b d m A A0 L (Star (rvX r m A2) B) w := by rw [← e]; exact h
theorem full_int (L : LSt) : vfullB L = decide ((16 : Int) < (L.count : Int)) := by unfold vfullB; rw [decide_eq_decide]; omega
end

set_option maxRecDepth 100000 in
set_option maxHeartbeats 16000000 in
theorem plays_calls {w : World} {ao : Option Addr} {cap : Nat} {acts : List ActV} (sectors : Int) (hs : Srcs w (.slice ao acts.length cap) acts.length 5 (flatV acts)) (hb : acts.length * 48 ≤ 140737488351232) :
    Calls Tryz.prog 5 #[.int .i64 sectors, .slice ao acts.length cap] w fun e w' => e = .returned (.bool true) ∧ Fr Nob w w' := by
  have LS : Lv Nob w Emp w := (Live.start w).lv
  have HH := Lib.hid (Lv.calls LS loc_emp (vshown_calls w))
  have HS := Lib.hid hs
  clear hs LS
  obtain ⟨n, hn⟩ : ∃ n, n = acts.length := ⟨_, rfl⟩
  rw [← hn]
  have HNN := Lib.hid hn
  have HBN : Hid (n ≤ 140737488351232) := Lib.hid (by omega)
  clear hn hb
  go_enter Tryz.func5, Tryz.ntmps5
  go_wp2_with fail
  refine HH.out.mono ?_
  rintro e w0 ⟨rfl, LS⟩
  have HF := Lib.hid (fresh_calls loc_emp LS sectors)
  clear LS HH
  go_wp2_with fail
  refine HF.out.mono ?_
  rintro e w1 ⟨d, b, rfl, L0⟩
  have HFO := Lib.hid (w_format L0 loc_emp)
  clear L0 HF
  obtain ⟨m, hm⟩ : ∃ m, m = freshN sectors - 32 := ⟨_, rfl⟩
  rw [← hm] at HFO
  clear hm
  go_wp2_with fail
  obtain ⟨c, HFO⟩ := HFO.out
  refine HFO.mono ?_
  rintro e w2 ⟨v, rfl, L1⟩
  have HC := Lib.hid (VW.l_commit L1 loc_emp)
  clear L1 HFO
  go_wp2_with fail
  refine HC.out.mono ?_
  rintro e w3 ⟨rfl, L, _, V3⟩
  have HHM := Lib.hid V3.vw.home
  have HV3 := Lib.hid V3
  clear V3 HC
  go_wp2_with fail
  refine HHM.out.mono ?_
  rintro e w4 ⟨rfl, rfl⟩
  go_wp2_with fail
  refine (rnew_calls m _).mono ?_
  rintro e w4 ⟨r, rfl, LR⟩
  have V4 := HV3.out.newr (r := r) (A1 := fun _ => Node.free) loc_emp (LR.map fun _ h => ⟨_, _, _, h⟩)
  have HCP := Lib.hid (lr_copy V4 loc_emp)
  clear LR V4 HV3 HHM
  go_wp2_with fail
  refine HCP.out.mono ?_
  rintro e w5 ⟨q, rfl, V5⟩
  have HL := Lib.hid V5.flip
  clear V5 HCP
  go_wp2_with fail
  go_loopw [8, 10, 11, 12] (fun s8 s10 s11 s12 wr => ∃ (k v r q : Nat) (A A0 : Nat → Node) (L : LSt), k ≤ n ∧ s8 = .pointer (some ⟨v, 0, none⟩) ∧ s10 = .pointer (some ⟨r, 0, none⟩) ∧ s11 = .pointer (some ⟨q, 0, none⟩) ∧ s12 = .int .i64 k ∧ Hid (VL Nob w v b d m A A0 L (Star (rvX r m A) (Star (rvX q m A0) Emp)) wr)) (fun _ _ _ s12 _ => n - (intOf s12).toNat)
  case atStart => exact ⟨0, v, r, q, _, _, L, Nat.zero_le _, rfl, rfl, rfl, rfl, HL⟩
  case round =>
    clear HL
    obtain ⟨k, v, r, q, A, A0, L, hk, rfl, rfl, rfl, rfl, HL⟩ := hrel
    by_cases hlt : k < n
    · have hlt' : k < acts.length := by have := HNN.out; omega
      have hlt2 : (k : Int) < (n : Int) := by omega
      obtain ⟨a, ha⟩ : ∃ a, acts[k]? = some a := ⟨_, List.getElem?_eq_getElem hlt'⟩
      have HACT := Lib.hid (fun wr (hf : Fr Nob w wr) => actv_cells HS.out hf ha)
      obtain ⟨g, off, hao, q0, q1, q2, q3, q4⟩ := HACT.out _ HL.out.fr
      have l2 : Loc (Star (rvX q m A0) Emp) := loc_star (loc_rvX _ _ _) loc_emp
      have HST := Lib.hid (l_staged HL.out)
      have hD := does_calls a HL.out l2
      rw [full_int] at hD
      have HD := Lib.hid hD
      cases hao
      clear ha hD l2 HL hlt'
      have HACT2 : Hid (∀ wr, Fr Nob w wr → wr.cell? ⟨g, off + k * 5, none⟩ = some (.int .i64 a.kind)) := Lib.hid fun wr hf => by
        obtain ⟨g', off', e, h, _⟩ := HACT.out wr hf
        cases e; exact h
      clear HACT
      go_wp2_with fail
      refine HST.out.mono ?_
      rintro e w6 ⟨rfl, rfl⟩
      go_wp2_with fail
      refine HD.out.mono ?_
      rintro e w6 ⟨rfl, A', L', V6⟩
      have hwk : IntKind.i64.wrap ((k : Int) + 1) = (k : Int) + 1 := by have := HBN.out; rw [IntKind.wrap_i64] <;> omega
      have HWK := Lib.hid hwk
      have qk := HACT2.out _ V6.fr
      have HV6 := Lib.hid V6
      clear V6 HST HD q0 q1 q2 q3 q4 hwk
      by_cases k9 : a.kind = 9
      · have t9 : (a.kind == 9) = true := by rw [beq_iff_eq]; exact k9
        have t8 : (a.kind == 8) = false := by rw [beq_eq_false_iff_ne]; omega
        have t10 : (a.kind == 10) = false := by rw [beq_eq_false_iff_ne]; omega
        have HAB := Lib.hid (l_abort HV6.out (loc_star (loc_rvX _ _ _) (loc_star (loc_rvX _ _ _) loc_emp)))
        clear k9
        go_wp2_with fail
        refine HAB.out.mono ?_
        rintro e w7 ⟨rfl, L7, V7⟩
        have HCP := Lib.hid (lr_copy V7.flip (loc_star (loc_rvX _ _ _) loc_emp))
        clear V7 HAB
        go_wp2_with fail
        refine HCP.out.mono ?_
        rintro e w8 ⟨r2, rfl, V8⟩
        have HV8 := Lib.hid V8.drop3
        have qk := HACT2.out _ V8.fr
        clear V8 HCP
        obtain ⟨r, hr⟩ : ∃ r, r = r2 := ⟨_, rfl⟩
        rw [← hr] at HV8 ⊢
        clear hr
        have hok := HV8.out.ok
        have HRM := Lib.hid (l_room HV8.out (loc_star (loc_rvX _ _ _) (loc_star (loc_rvX _ _ _) loc_emp)))
        have HOK := Lib.hid hok
        clear hok HV8
        go_wp2_with fail
        refine HRM.out.mono ?_
        rintro e w20 ⟨rfl, V20⟩
        have HRR := lr_room V20 HOK.out.1 HOK.out.2.1 HOK.out.2.2.1
        have HV20 := Lib.hid V20
        have hbn : ((aroom m A0 : Int) != (aroom m A0 : Int)) = false := by simp
        have HRR := Lib.hid HRR
        clear V20 HRM HOK
        generalize aroom m A0 = rm at *
        go_wp2_with fail
        refine HRR.out.mono ?_
        rintro e w21 ⟨rfl, rfl⟩
        have hwk := HWK.out
        go_wp2_with fail
        go_roundw
        case rel => first | exact ⟨k + 1, _, _, _, _, _, _, hlt, rfl, rfl, rfl, by go_num, HV20⟩ | ((repeat apply Exists.intro); exact ⟨⟨_, _, _, _, _, _, _, hlt, rfl, rfl, rfl, by go_num, HV20⟩, rfl⟩)
        case measure => simp [intOf]; omega
      have t9 : (a.kind == 9) = false := by rw [beq_eq_false_iff_ne]; exact k9
      by_cases k8 : a.kind = 8 ∨ a.kind = 10
      · have HCM := Lib.hid (l_commit HV6.out (loc_star (loc_rvX _ _ _) (loc_star (loc_rvX _ _ _) loc_emp)))
        have ht : ((a.kind == 8) = true ∧ (a.kind == 10) = false) ∨ ((a.kind == 8) = false ∧ (a.kind == 10) = true) := by
          rcases k8 with h | h
          · exact .inl ⟨by rw [beq_iff_eq]; exact h, by rw [beq_eq_false_iff_ne]; omega⟩
          · exact .inr ⟨by rw [beq_eq_false_iff_ne]; omega, by rw [beq_iff_eq]; exact h⟩
        clear k8 k9
        rcases ht with ⟨t8, t10⟩ | ⟨t8, t10⟩
        · go_wp2_with fail
          refine HCM.out.mono ?_
          rintro e w7 ⟨rfl, L7, _, V7⟩
          have HHO := Lib.hid (l_home V7)
          have HV7 := Lib.hid V7
          clear V7 HCM
          go_wp2_with fail
          refine HHO.out.mono ?_
          rintro e w8 ⟨g8, hc8, X8, rfl, hs8, hv8, hf8⟩
          have HOF := rof_calls hs8 (fun i hi => hv8.inv.size i hi) hv8.inv.m16 hv8.inv.m512
          have HV8a := Lib.hid (HV7.out.keep (loc_star (loc_rvX _ _ _) (loc_star (loc_rvX _ _ _) loc_emp)) hf8)
          have HIV := Lib.hid hv8
          have HOF := Lib.hid HOF
          clear HV7 HHO hs8 hv8 hf8
          go_wp2_with fail
          refine HOF.out.mono ?_
          rintro e w9 (⟨_, x9, rfl, L9⟩ | ⟨hbad, _⟩)
          case inr => exact absurd HIV.out.whole hbad
          have V9 := HV8a.out.newr (r := x9) (loc_star (loc_rvX _ _ _) (loc_star (loc_rvX _ _ _) loc_emp)) L9
          have HSA := Lib.hid (rsame_calls (Lv.map V9.lv fun _ h => star_right h fun _ h => star_flip (star_right h fun _ h => star_flip (star_right h fun _ h => star_flip (star_right h fun _ h => h)))) (loc_star (loc_lg _ _ _ _) (loc_star (loc_dsk _ _ _) (loc_star (loc_blk _ _ _) (loc_star (loc_rvX _ _ _) loc_emp)))) (fun i hi => (HIV.out.node i hi).symm))
          have HV9 := Lib.hid V9
          clear L9 V9 HOF HV8a
          go_wp2_with fail
          refine HSA.out.mono ?_
          rintro e w10 ⟨rfl, hf10⟩
          have V10 := (HV9.out.keep (loc_star (loc_rvX _ _ _) (loc_star (loc_rvX _ _ _) (loc_star (loc_rvX _ _ _) loc_emp))) hf10).less
          have HCP := Lib.hid (lr_copy V10 (loc_star (loc_rvX _ _ _) loc_emp))
          clear V10 HV9 HSA hf10
          go_wp2_with fail
          refine HCP.out.mono ?_
          rintro e w12 ⟨q2, rfl, V12⟩
          have HV12 := Lib.hid V12.drop3.flip
          have qk := HACT2.out _ V12.fr
          clear V12 HCP
          obtain ⟨q, hq⟩ : ∃ q, q = q2 := ⟨_, rfl⟩
          rw [← hq] at HV12 ⊢
          clear hq
          have HV8 := HV12
          clear HV12
          have hok := HV8.out.ok
          have HRM := Lib.hid (l_room HV8.out (loc_star (loc_rvX _ _ _) (loc_star (loc_rvX _ _ _) loc_emp)))
          have HOK := Lib.hid hok
          clear hok HV8
          go_wp2_with fail
          refine HRM.out.mono ?_
          rintro e w20 ⟨rfl, V20⟩
          have HRR := lr_room V20 HOK.out.1 HOK.out.2.1 HOK.out.2.2.1
          have HV20 := Lib.hid V20
          have hbn : ((aroom m A' : Int) != (aroom m A' : Int)) = false := by simp
          have HRR := Lib.hid HRR
          clear V20 HRM HOK
          generalize aroom m A' = rm at *
          go_wp2_with fail
          refine HRR.out.mono ?_
          rintro e w21 ⟨rfl, rfl⟩
          have hwk := HWK.out
          go_wp2_with fail
          go_roundw
          case rel => first | exact ⟨k + 1, _, _, _, _, _, _, hlt, rfl, rfl, rfl, by go_num, HV20⟩ | ((repeat apply Exists.intro); exact ⟨⟨_, _, _, _, _, _, _, hlt, rfl, rfl, rfl, by go_num, HV20⟩, rfl⟩)
          case measure => simp [intOf]; omega
        · go_wp2_with fail
          refine HCM.out.mono ?_
          rintro e w7 ⟨rfl, L7, _, V7⟩
          have HHO := Lib.hid (l_home V7)
          have HV7 := Lib.hid V7
          clear V7 HCM
          go_wp2_with fail
          refine HHO.out.mono ?_
          rintro e w8 ⟨g8, hc8, X8, rfl, hs8, hv8, hf8⟩
          have HOF := rof_calls hs8 (fun i hi => hv8.inv.size i hi) hv8.inv.m16 hv8.inv.m512
          have HV8a := Lib.hid (HV7.out.keep (loc_star (loc_rvX _ _ _) (loc_star (loc_rvX _ _ _) loc_emp)) hf8)
          have HIV := Lib.hid hv8
          have HOF := Lib.hid HOF
          clear HV7 HHO hs8 hv8 hf8
          go_wp2_with fail
          refine HOF.out.mono ?_
          rintro e w9 (⟨_, x9, rfl, L9⟩ | ⟨hbad, _⟩)
          case inr => exact absurd HIV.out.whole hbad
          have V9 := HV8a.out.newr (r := x9) (loc_star (loc_rvX _ _ _) (loc_star (loc_rvX _ _ _) loc_emp)) L9
          have HSA := Lib.hid (rsame_calls (Lv.map V9.lv fun _ h => star_right h fun _ h => star_flip (star_right h fun _ h => star_flip (star_right h fun _ h => star_flip (star_right h fun _ h => h)))) (loc_star (loc_lg _ _ _ _) (loc_star (loc_dsk _ _ _) (loc_star (loc_blk _ _ _) (loc_star (loc_rvX _ _ _) loc_emp)))) (fun i hi => (HIV.out.node i hi).symm))
          have HV9 := Lib.hid V9
          clear L9 V9 HOF HV8a
          go_wp2_with fail
          refine HSA.out.mono ?_
          rintro e w10 ⟨rfl, hf10⟩
          have V10 := (HV9.out.keep (loc_star (loc_rvX _ _ _) (loc_star (loc_rvX _ _ _) (loc_star (loc_rvX _ _ _) loc_emp))) hf10).less
          have HCP := Lib.hid (lr_copy V10 (loc_star (loc_rvX _ _ _) loc_emp))
          clear V10 HV9 HSA hf10
          go_wp2_with fail
          refine HCP.out.mono ?_
          rintro e w12 ⟨q2, rfl, V12⟩
          have HV12 := Lib.hid V12.drop3.flip
          have qk := HACT2.out _ V12.fr
          clear V12 HCP
          obtain ⟨q, hq⟩ : ∃ q, q = q2 := ⟨_, rfl⟩
          rw [← hq] at HV12 ⊢
          clear hq
          have HMT := Lib.hid (l_mount HV12.out (loc_star (loc_rvX _ _ _) (loc_star (loc_rvX _ _ _) loc_emp)))
          clear HV12
          go_wp2_with fail
          refine HMT.out.mono ?_
          rintro e w13 ⟨v2, rfl, V13⟩
          have HV8 := Lib.hid V13
          have qk := HACT2.out _ V13.fr
          clear V13 HMT
          have hok := HV8.out.ok
          have HRM := Lib.hid (l_room HV8.out (loc_star (loc_rvX _ _ _) (loc_star (loc_rvX _ _ _) loc_emp)))
          have HOK := Lib.hid hok
          clear hok HV8
          go_wp2_with fail
          refine HRM.out.mono ?_
          rintro e w20 ⟨rfl, V20⟩
          have HRR := lr_room V20 HOK.out.1 HOK.out.2.1 HOK.out.2.2.1
          have HV20 := Lib.hid V20
          have hbn : ((aroom m A' : Int) != (aroom m A' : Int)) = false := by simp
          have HRR := Lib.hid HRR
          clear V20 HRM HOK
          generalize aroom m A' = rm at *
          go_wp2_with fail
          refine HRR.out.mono ?_
          rintro e w21 ⟨rfl, rfl⟩
          have hwk := HWK.out
          go_wp2_with fail
          go_roundw
          case rel => first | exact ⟨k + 1, _, _, _, _, _, _, hlt, rfl, rfl, rfl, by go_num, HV20⟩ | ((repeat apply Exists.intro); exact ⟨⟨_, _, _, _, _, _, _, hlt, rfl, rfl, rfl, by go_num, HV20⟩, rfl⟩)
          case measure => simp [intOf]; omega
      · have t8 : (a.kind == 8) = false := by rw [beq_eq_false_iff_ne]; omega
        have t10 : (a.kind == 10) = false := by rw [beq_eq_false_iff_ne]; omega
        have HV8 := HV6
        clear HV6 k8 k9
        have hok := HV8.out.ok
        have HRM := Lib.hid (l_room HV8.out (loc_star (loc_rvX _ _ _) (loc_star (loc_rvX _ _ _) loc_emp)))
        have HOK := Lib.hid hok
        clear hok HV8
        go_wp2_with fail
        refine HRM.out.mono ?_
        rintro e w20 ⟨rfl, V20⟩
        have HRR := lr_room V20 HOK.out.1 HOK.out.2.1 HOK.out.2.2.1
        have HV20 := Lib.hid V20
        have hbn : ((aroom m A' : Int) != (aroom m A' : Int)) = false := by simp
        have HRR := Lib.hid HRR
        clear V20 HRM HOK
        generalize aroom m A' = rm at *
        go_wp2_with fail
        refine HRR.out.mono ?_
        rintro e w21 ⟨rfl, rfl⟩
        have hwk := HWK.out
        go_wp2_with fail
        go_roundw
        case rel => first | exact ⟨k + 1, _, _, _, _, _, _, hlt, rfl, rfl, rfl, by go_num, HV20⟩ | ((repeat apply Exists.intro); exact ⟨⟨_, _, _, _, _, _, _, hlt, rfl, rfl, rfl, by go_num, HV20⟩, rfl⟩)
        case measure => simp [intOf]; omega
    · have hge : ¬ (k : Int) < (n : Int) := by omega
      have HFR := Lib.hid HL.out.fr
      clear HL
      go_wp2_with fail
      go_ret
      exact ⟨rfl, HFR.out⟩
end Go.Proofs.YtfldhmeenbdkiaaGreatDoor
