/- LogAgain's walk, LogHides' walk. -/
import Derived.Test.YtchilnjocnkodaaLogT
import Derived.Test.YtchilnjocnkodaaLwD
namespace Go.Proofs.Ytchilnjocnkodaa
open Go.RowKit

section
variable {S0 : Nat → Prop} {w0 w : World} {b d : Nat} {L : LSt} {B : Asr}
theorem LV.aside (hL : LV S0 w0 b d L B w) : Lv S0 w0 (Star (dskA kD d L.D) (Star (lgA b d L.stg L.dead) B)) w := hL.map fun _ h => star_flip h
theorem lv_waiting (hL : LV S0 w0 b d L B w) :
    Calls Try.prog 25 #[.pointer (some ⟨d, 0, none⟩)] w fun e w' => e = .returned (.int .i64 L.D.wait.length) ∧ w = w' := by
  obtain ⟨_, _, _, _, h, _⟩ := hL.parts
  exact waiting_calls h
end

set_option maxRecDepth 100000 in
set_option maxHeartbeats 8000000 in
theorem logAgain_calls {af : Option Addr} {cf : Nat} {first : List TxV} {w : World} (hF : TxsAt w af cf first) :
    Calls Try.prog 8 #[.slice af first.length cf] w fun e w' => e = .returned (.bool true) ∧ Fr Nob w w' := by
  have HF := Lib.hid hF
  obtain ⟨nF, hnF⟩ : ∃ n, n = first.length := ⟨_, rfl⟩
  rw [← hnF]
  have HNF := Lib.hid hnF
  have L2 := (Live.start w).lv
  have hlX := loc_emp
  clear hF hnF
  go_enter Try.func8, Try.ntmps8
  go_wp2_with fail
  refine (L2.calls hlX (shown_calls _)).mono ?_
  rintro e w1 ⟨rfl, L3⟩
  clear L2
  go_wp2_with fail
  refine (new_ok 60 w1 (by omega) (by omega)).mono ?_
  rintro e w2 ⟨d, rfl, hd, hf⟩
  have L4 : Lv Nob w (Star (dskA kD d (DSt.fresh 60)) Emp) w2 := L3.new hlX hf hd
  clear L3 hd hf
  have hOp := (calm_fresh 28).opens
  go_wp2_with fail
  refine (lv_opens L4 hlX hOp.1 (by simp [DSt.fresh])).mono ?_
  rintro e w3 ⟨b, rfl, L5⟩
  have hI0 := idle_fresh 28
  have hRel : ∃ (H : Nat → ByteArray) (L : LSt), Idle 28 H L ∧ LV Nob w b d L Emp w3 := ⟨_, _, hI0, L5⟩
  clear L4 L5 hOp hI0
  go_wp2_with fail
  go_loopw [8] (fun s8 wr => ∃ k : Nat, k ≤ nF ∧ s8 = .int .i64 k ∧ ∃ (H : Nat → ByteArray) (L : LSt), Idle 28 H L ∧ LV Nob w b d L Emp wr) (fun s8 _ => nF - (intOf s8).toNat)
  case atStart => exact ⟨0, Nat.zero_le _, rfl, hRel⟩
  case round =>
    obtain ⟨k, hk, rfl, H, L, hI, hL⟩ := hrel
    have HI := Lib.hid hI
    clear hRel hI
    have hgo : (k < nF ∧ k < 20) ∨ ¬ (k < nF ∧ k < 20) := Classical.em _
    rcases hgo with ⟨hlt, h20⟩ | hno
    · obtain ⟨x, hx⟩ : ∃ x, first[k]? = some x := ⟨_, List.getElem?_eq_getElem (by rw [← HNF.out]; exact hlt)⟩
      obtain ⟨g, off, rfl, q0, q1⟩ := txs_cells HF.out hL.fr hx
      have htx := HF.out.each x (List.mem_of_getElem? hx)
      have HTX := Lib.hid htx
      clear htx hx
      go_wp2_with fail
      refine (sets_calls HTX.out hL hlX HI.out.ok).mono ?_
      rintro e w5 ⟨rfl, L5⟩
      clear hL q0 q1
      have hn := HI.out.next x.t.pairs
      have HN := Lib.hid hn
      obtain ⟨e1, e2⟩ := setsL_D L x.t.pairs
      have hw5 : ((setsL L x.t.pairs).D.wait.length + 70) * 24 ≤ 140737488355328 := by rw [e1, HI.out.calm.wait]; simp
      have HW5 := Lib.hid hw5
      clear hn e1 e2 hw5
      go_wp2_with fail
      refine (lv_commit L5 hlX (setsL_good HI.out.ok _) HW5.out).mono ?_
      rintro e w6 ⟨he, L6⟩
      rw [HN.out.1] at he
      subst he
      clear L5
      go_wp2_with fail
      go_roundw
      case rel => exact ⟨k + 1, hlt, by go_num, _, _, HN.out.2, L6⟩
      case measure => simp [intOf]; omega
    · have hcases : (k < nF ∧ 20 ≤ k) ∨ nF ≤ k := by omega
      clear hno
      have e5 : over H L.stg = H := by rw [HI.out.stg, over_nil]
      have E5 := Lib.hid e5
      have hop := HI.out.calm.opens
      have HOP := Lib.hid hop
      have hcn : (LSt.mk L.D.opened [] false).count = 0 := rfl
      have HCN := Lib.hid hcn
      clear e5 hop hcn
      rcases hcases with ⟨hc1, hc2⟩ | hc1
      all_goals
        go_wp2_with fail
        refine (calm_homes hL hlX HI.out.calm HI.out.dead).mono ?_
        rintro e w5 ⟨ao5, c5, rfl, L5⟩
        rw [E5.out] at L5
        clear hL hc1
        have hl5 : Loc (Star (rowA tStr 1 (.slice ao5 28 c5) 28 (strs (mapH 28 H))) Emp) := loc_star (loc_row _ _ _ _ _) hlX
        go_wp2_with fail
        refine (lv_opens (LV.aside L5) (loc_star (loc_lg _ _ _ _) hl5) HOP.out.1 (by rw [HI.out.calm.wait]; decide)).mono ?_
        rintro e w6 ⟨h, rfl, L6⟩
        clear L5
        have hl6 : Loc (Star (lgA b d L.stg L.dead) (Star (rowA tStr 1 (.slice ao5 28 c5) 28 (strs (mapH 28 H))) Emp)) := loc_star (loc_lg _ _ _ _) hl5
        go_wp2_with fail
        refine (calm_homes (m := 28) (H := H) L6 hl6 (by show Calm 28 H L.D.opened; rw [HOP.out.2]; exact HI.out.calm) rfl).mono ?_
        rintro e w7 ⟨ao7, c7, rfl, L7⟩
        have e7 : over H (LSt.mk L.D.opened [] false).stg = H := over_nil H
        rw [e7] at L7
        clear L6 e7
        have hl7 := loc_star (loc_row tStr 1 (.slice ao7 28 c7) 28 (strs (mapH 28 H))) hl6
        have L7' := L7
        obtain ⟨_, ⟨_, _, _, ⟨_, _, _, ⟨_, _, r1, ⟨_, _, _, ⟨_, _, r2, _⟩, _⟩, _⟩, _⟩, _⟩, _⟩ := L7'
        go_wp2_with fail
        refine (L7.calls (LV.loc hl7) (same_n (mapH_length _ _) (mapH_length _ _) (by decide) r1.1 r2.1)).mono ?_
        rintro e w8 ⟨he, L8⟩
        have L8 : LV Nob w h d ⟨L.D.opened, [], false⟩ (Star (rowA tStr 1 (.slice ao7 28 c7) 28 (strs (mapH 28 H))) (Star (lgA b d L.stg L.dead) (Star (rowA tStr 1 (.slice ao5 28 c5) 28 (strs (mapH 28 H))) Emp))) w8 := L8
        rw [show decide (mapH 28 H = mapH 28 H) = true from decide_eq_true rfl] at he
        subst he
        clear r1 r2 L7
        go_wp2_with fail
        refine (lv_staged L8).mono ?_
        rw [HCN.out]
        rintro e w9 ⟨rfl, rfl⟩
        go_wp2_with fail
        refine (lv_waiting L8).mono ?_
        have hw0 : (LSt.mk L.D.opened [] false).D.wait.length = 0 := by
          show L.D.opened.wait.length = 0
          rw [HOP.out.2, HI.out.calm.wait]; rfl
        rw [hw0]
        rintro e w10 ⟨rfl, rfl⟩
        have HFR := Lib.hid L8.fr
        clear L8 hw0
        go_wp2_with fail
        go_ret
        exact ⟨rfl, HFR.out⟩
end Go.Proofs.Ytchilnjocnkodaa
