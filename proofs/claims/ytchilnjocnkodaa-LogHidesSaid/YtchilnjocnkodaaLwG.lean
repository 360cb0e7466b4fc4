/- LogHides' walk. -/
import Derived.Test.YtchilnjocnkodaaLwF
namespace Go.Proofs.Ytchilnjocnkodaa
open Go.RowKit

set_option maxRecDepth 100000 in
set_option maxHeartbeats 8000000 in
theorem logHides_calls {a1 a2 : Option Addr} {c1 c2 : Nat} {t : TxD} {i : Int} {w : World} (hT : TxAt w a1 a2 c1 c2 t) :
    Calls Try.prog 9 #[.agg #[.slice a1 t.I.length c1, .slice a2 t.S.length c2], .int .i64 i] w fun e w' => e = .returned (.bool true) ∧ Fr Nob w w' := by
  have HT := Lib.hid hT
  have L2 := ((Live.start w).box loc_emp tTx [.slice a1 t.I.length c1, .slice a2 t.S.length c2]).lv
  obtain ⟨X, hX⟩ : ∃ X, X = Star (blkA w.heap.size tTx [.slice a1 t.I.length c1, .slice a2 t.S.length c2]) Emp := ⟨_, rfl⟩
  have HXX := Lib.hid hX
  have hlX : Loc X := by rw [hX]; exact loc_star (loc_blk _ _ _) loc_emp
  rw [← hX] at L2
  clear hT hX
  go_enter Try.func9, Try.ntmps9
  go_wp2_with fail
  refine (L2.calls hlX (shown_calls _)).mono ?_
  rintro e w1 ⟨rfl, L3⟩
  clear L2
  go_wp2_with fail
  refine (new_ok 60 w1 (by omega) (by omega)).mono ?_
  rintro e w2 ⟨d, rfl, hd, hf⟩
  have L4 : Lv Nob w (Star (dskA kD d (DSt.fresh 60)) X) w2 := L3.new hlX hf hd
  clear L3 hd hf
  have hOp := (calm_fresh 28).opens
  go_wp2_with fail
  refine (lv_opens L4 hlX hOp.1 (by simp [DSt.fresh])).mono ?_
  rintro e w3 ⟨b, rfl, L5⟩
  have hI0 := idle_fresh 28
  have hRel : ∃ (H : Nat → ByteArray) (D : DSt), Idle 28 H ⟨D, [], false⟩ ∧ LV Nob w b d ⟨D, [], false⟩ X w3 := ⟨_, _, hI0, L5⟩
  clear L4 L5 hOp hI0
  obtain ⟨H, D, hI, hL⟩ := hRel
  have HI := Lib.hid hI
  have hwt : D.wait = [] := hI.calm.wait
  have hln : D.safe.length = 60 := hI.calm.len
  have HWT := Lib.hid hwt
  have HLN := Lib.hid hln
  clear hI hwt hln
  go_wp2_with fail
  obtain ⟨_, S5, _, _, h5, _⟩ := hL.parts
  refine (image_calls h5).mono ?_
  rw [HLN.out]
  rintro e w4 ⟨v, rfl, hrow, hnew, hf⟩
  obtain ⟨ao, c, rfl⟩ := row_any hrow
  have L5 := hL.new (B := rowA tStr 1 (.slice ao 60 c) 60 (strs D.safe)) (LV.loc hlX) hf ⟨hrow, fun k hk => .inr ⟨hnew k hk, (hrow.lt k hk).2⟩⟩
  have L6 : LV Nob w b d ⟨D, [], false⟩ (Star (rowA tStr 1 (.slice ao 60 c) 60 (strs D.safe)) X) w4 := LV.back L5
  have hl6 : Loc (Star (rowA tStr 1 (.slice ao 60 c) 60 (strs D.safe)) X) := loc_star (loc_row _ _ _ _ _) hlX
  clear hL h5 hrow hnew hf L5
  go_wp2_with fail
  refine (lv_get L6 hl6 (by show D.wait.length * 24 ≤ _; rw [HWT.out]; decide) i).mono ?_
  rintro e w5 ⟨rfl, L7⟩
  clear L6
  obtain ⟨gS, hgS⟩ : ∃ s, s = (LSt.mk D [] false).getS i := ⟨_, rfl⟩
  obtain ⟨gE, hgE⟩ : ∃ s, s = (LSt.mk D [] false).getE i := ⟨_, rfl⟩
  rw [← hgS, ← hgE]
  have HGS := Lib.hid hgS
  have HGE := Lib.hid hgE
  clear hgS hgE
  have L7X : Lv Nob w X w5 := (LV.gone L7).drop.drop
  rw [HXX.out] at L7X
  obtain ⟨S7, h7, _⟩ := L7X.first
  have q0 := h7.cell (j := 0) rfl
  have q1 := h7.cell (j := 1) rfl
  clear h7 L7X
  go_wp2_with fail
  refine (sets_calls HT.out L7 hl6 HI.out.ok).mono ?_
  rintro e w6 ⟨rfl, L8⟩
  clear L7 q0 q1
  obtain ⟨e1, e2⟩ := setsL_D (LSt.mk D [] false) t.pairs
  obtain ⟨M, hM⟩ : ∃ M, M = setsL (LSt.mk D [] false) t.pairs := ⟨_, rfl⟩
  rw [← hM] at L8 e1 e2
  have hab : M.abort = LSt.mk D [] false := by
    unfold LSt.abort
    obtain ⟨D', st, dv⟩ := M
    simp only at e1 e2
    subst e1 e2
    rfl
  have HAB := Lib.hid hab
  have E1 := Lib.hid e1
  clear hM hab e1 e2
  go_wp2_with fail
  obtain ⟨_, S8, _, _, h8, _⟩ := L8.parts
  rw [E1.out] at h8
  refine (image_calls h8).mono ?_
  rw [HLN.out]
  rintro e w7 ⟨v2, rfl, hrow, hnew, hf⟩
  obtain ⟨ao2, cc2, rfl⟩ := row_any hrow
  have L9 := L8.new (B := rowA tStr 1 (.slice ao2 60 cc2) 60 (strs D.safe)) (LV.loc hl6) hf ⟨hrow, fun k hk => .inr ⟨hnew k hk, (hrow.lt k hk).2⟩⟩
  have L10 : LV Nob w b d M (Star (rowA tStr 1 (.slice ao2 60 cc2) 60 (strs D.safe)) (Star (rowA tStr 1 (.slice ao 60 c) 60 (strs D.safe)) X)) w7 := LV.back L9
  have hl10 : Loc (Star (rowA tStr 1 (.slice ao2 60 cc2) 60 (strs D.safe)) (Star (rowA tStr 1 (.slice ao 60 c) 60 (strs D.safe)) X)) := loc_star (loc_row _ _ _ _ _) hl6
  clear L8 h8 hrow hnew hf L9
  have hw0 : M.D.wait.length = 0 := by rw [E1.out, HWT.out]; rfl
  have HW0 := Lib.hid hw0
  clear hw0
  go_wp2_with fail
  refine (lv_waiting L10).mono ?_
  rw [HW0.out]
  rintro e w8 ⟨rfl, rfl⟩
  go_wp2_with fail
  refine (lv_abort L10 hl10).mono ?_
  rw [HAB.out]
  rintro e w9 ⟨rfl, L11⟩
  clear L10
  go_wp2_with fail
  refine (lv_get L11 hl10 (by show D.wait.length * 24 ≤ _; rw [HWT.out]; decide) i).mono ?_
  rw [← HGS.out, ← HGE.out]
  rintro e w10 ⟨rfl, L12⟩
  clear L11
  go_wp2_with fail
  refine (lv_staged L12).mono ?_
  rw [show (LSt.mk D [] false).count = 0 from rfl]
  rintro e w11 ⟨rfl, rfl⟩
  go_wp2_with fail
  refine (lv_commit L12 hl10 HI.out.ok (by show (D.wait.length + 70) * 24 ≤ _; rw [HWT.out]; decide)).mono ?_
  rw [show (LSt.mk D [] false).commitE = 0 from rfl, show (LSt.mk D [] false).commit = LSt.mk D [] false from rfl]
  rintro e w12 ⟨rfl, L13⟩
  clear L12
  have L13' := L13
  obtain ⟨_, ⟨_, _, _, ⟨_, _, _, ⟨_, _, r1, ⟨_, _, r2, _⟩, _⟩, _⟩, _⟩, _⟩ := L13'
  go_wp2_with fail
  refine (L13.calls (LV.loc hl10) (same_n HLN.out HLN.out (by decide) r2.1 r1.1)).mono ?_
  rw [show decide (D.safe = D.safe) = true from decide_eq_true rfl]
  rintro e w13 ⟨rfl, L14⟩
  have L14 : LV Nob w b d ⟨D, [], false⟩ (Star (rowA tStr 1 (.slice ao2 60 cc2) 60 (strs D.safe)) (Star (rowA tStr 1 (.slice ao 60 c) 60 (strs D.safe)) X)) w13 := L14
  clear L13 r1 r2
  have b1 : (gS.toList == gS.toList) = true := by simp
  have b2 : (gE == gE) = true := by simp
  go_wp2_with fail
  refine (lv_waiting L14).mono ?_
  rw [show (LSt.mk D [] false).D.wait.length = 0 by rw [HWT.out]; rfl]
  rintro e w14 ⟨rfl, rfl⟩
  have HFR := Lib.hid L14.fr
  clear L14
  go_wp2_with fail
  go_ret
  exact ⟨rfl, HFR.out⟩
end Go.Proofs.Ytchilnjocnkodaa
