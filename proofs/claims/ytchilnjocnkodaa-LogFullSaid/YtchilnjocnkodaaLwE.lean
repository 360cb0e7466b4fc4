/- LogActs' walk. -/
import Derived.Test.YtchilnjocnkodaaLogT
namespace Go.Proofs.Ytchilnjocnkodaa
open Go.RowKit

theorem set_zero {m : Nat} {H : Nat → ByteArray} {L : LSt} (hc : Calm m H L.D) (hm : 0 < m) (hs : L.stg = []) (hd : L.dead = false) (s : ByteArray) : L.getE 0 = 0 ∧ L.setE 0 (secOf s) = 0 := by
  obtain ⟨D, stg, dead⟩ := L
  simp only at hc hs hd
  subst hs hd
  refine ⟨(hc.get [] (i := 0) hm).2, ?_⟩
  unfold LSt.setE
  have hmay : (LSt.mk D [] false).mayE 0 = 0 := by
    unfold LSt.mayE
    rw [if_neg (by simp), if_neg]
    rw [hc.len]; omega
  rw [if_neg (by simp [hmay]), if_neg (by simp [secOf_size]), if_neg (by simp)]
theorem dead_all {L : LSt} (hd : L.dead = true) (i : Int) (s : ByteArray) : L.getE i = 7 ∧ L.setE i s = 7 ∧ L.count = 0 := by
  have hmay : L.mayE i = 7 := by unfold LSt.mayE; rw [if_pos hd]
  refine ⟨?_, ?_, ?_⟩
  · unfold LSt.getE; rw [if_pos (by omega)]; exact hmay
  · unfold LSt.setE; rw [if_pos (by omega)]; exact hmay
  · unfold LSt.count; rw [if_pos hd]

theorem commit_stays {L : LSt} (h : L.commitE ≠ 0) : L.commit.stg = L.stg := by
  unfold LSt.commitE at h
  unfold LSt.commit
  split
  · rfl
  · rename_i h1
    rw [if_neg h1] at h
    split
    · rfl
    · rename_i h2
      rw [if_neg h2] at h
      rw [if_neg h]

set_option maxRecDepth 100000 in
set_option maxHeartbeats 8000000 in
theorem logActs_calls {a1 a2 : Option Addr} {c1 c2 : Nat} {t : TxD} {p : Int} {w : World} (hT : TxAt w a1 a2 c1 c2 t) :
    Calls Try.prog 5 #[.agg #[.slice a1 t.I.length c1, .slice a2 t.S.length c2], .int .i64 p] w fun e w' => e = .returned (.bool true) ∧ Fr Nob w w' := by
  have HT := Lib.hid hT
  have L2 := ((Live.start w).box loc_emp tTx [.slice a1 t.I.length c1, .slice a2 t.S.length c2]).lv
  obtain ⟨X, hX⟩ : ∃ X, X = Star (blkA w.heap.size tTx [.slice a1 t.I.length c1, .slice a2 t.S.length c2]) Emp := ⟨_, rfl⟩
  have HXX := Lib.hid hX
  have hlX : Loc X := by rw [hX]; exact loc_star (loc_blk _ _ _) loc_emp
  rw [← hX] at L2
  clear hT hX
  go_enter Try.func5, Try.ntmps5
  go_wp2_with fail
  refine (L2.calls hlX (shown_calls _)).mono ?_
  rintro e w1 ⟨rfl, L3⟩
  clear L2
  go_wp2_with fail
  refine (new_ok 60 w1 (by omega) (by omega)).mono ?_
  rintro e w2 ⟨d, rfl, hd, hf⟩
  have L4 : Lv Nob w (Star (dskA kD d (DSt.fresh 60)) X) w2 := L3.new hlX hf hd
  clear L3 hd hf
  have hOp := (calm_fresh 28).opens
  go_wp2_with fail
  refine (lv_opens L4 hlX hOp.1 (by simp [DSt.fresh])).mono ?_
  rintro e w3 ⟨b, rfl, L5⟩
  have hI0 := idle_fresh 28
  have hRel : ∃ (H : Nat → ByteArray) (L : LSt), Idle 28 H L ∧ LV Nob w b d L X w3 := ⟨_, _, hI0, L5⟩
  clear L4 L5 hOp hI0
  obtain ⟨H, L, hI, hL⟩ := hRel
  have HI := Lib.hid hI
  have L5X : Lv Nob w X w3 := (LV.gone hL).drop
  rw [HXX.out] at L5X
  obtain ⟨S5, h5, _⟩ := L5X.first
  have q0 := h5.cell (j := 0) rfl
  have q1 := h5.cell (j := 1) rfl
  clear h5 L5X hI
  go_wp2_with fail
  refine (sets_calls HT.out hL hlX HI.out.ok).mono ?_
  rintro e w6 ⟨rfl, L6⟩
  clear hL q0 q1
  obtain ⟨e1, e2⟩ := setsL_D L t.pairs
  have hk := setsL_good HI.out.ok t.pairs
  obtain ⟨M, hM⟩ : ∃ M, M = setsL L t.pairs := ⟨_, rfl⟩
  rw [← hM] at L6 e1 e2 hk
  have hMd : M.dead = false := e2.trans HI.out.dead
  have hMc : Calm 28 H M.D := by rw [e1]; exact HI.out.calm
  have HK := Lib.hid hk
  have HMD := Lib.hid hMd
  have HMC := Lib.hid hMc
  clear e1 e2 hk hM hMd hMc
  obtain ⟨n, hn⟩ : ∃ n, n = M.stg.length := ⟨_, rfl⟩
  have HN := Lib.hid hn
  have hn30 : n ≤ 30 := by rw [hn]; exact HK.out.len
  have hcnt : M.count = n := by unfold LSt.count; rw [if_neg (by simp [HMD.out]), hn]
  have HCNT := Lib.hid hcnt
  clear hn hcnt
  go_wp2_with fail
  refine (lv_staged L6).mono ?_
  rw [HCNT.out]
  rintro e w7 ⟨rfl, rfl⟩
  have hq : ∃ q : Nat, q ≤ 200 ∧ ((p < 0 ∧ q = 200) ∨ (¬ p < 0 ∧ 200 < p ∧ q = 200) ∨ p = (q : Int)) := by
    by_cases h : p < 0
    · exact ⟨200, by omega, .inl ⟨h, rfl⟩⟩
    · by_cases h2 : 200 < p
      · exact ⟨200, by omega, .inr (.inl ⟨h, h2, rfl⟩)⟩
      · exact ⟨p.toNat, by omega, .inr (.inr (by omega))⟩
  obtain ⟨q, hq200, hq⟩ := hq
  have hq3 : (q : Int) ≤ 9223372036854775807 := by omega
  have HQ3 := Lib.hid hq3
  clear hq3
  have hcw : ((M.D.setPower q).wait.length + 70) * 24 ≤ 140737488355328 := by
    show (M.D.wait.length + 70) * 24 ≤ _
    rw [HMC.out.wait]; simp
  have HCW := Lib.hid hcw
  obtain ⟨E, f, g, k, hE⟩ : ∃ E f g : Int, ∃ k : Nat, (LSt.mk (M.D.setPower q) M.stg M.dead).commitE = E ∧ (LSt.mk (M.D.setPower q) M.stg M.dead).commit.getE 0 = f ∧ (LSt.mk (M.D.setPower q) M.stg M.dead).commit.setE 0 (secOf ⟨#[120]⟩) = g ∧
      ((E = 7 ∧ f = 7 ∧ g = 7 ∧ n ≠ 0 ∧ ¬ (2 * n + 6 ≤ q) ∧ (LSt.mk (M.D.setPower q) M.stg M.dead).commit.dead = true) ∨ (E = 0 ∧ f = 0 ∧ g = 0 ∧ (n = 0 ∨ (n ≠ 0 ∧ 2 * n + 6 ≤ q)))) ∧ (LSt.mk (M.D.setPower q) M.stg M.dead).commit.D.wait.length = k ∧ k ≤ 70 ∧ (LSt.mk (M.D.setPower q) M.stg M.dead).commit.Ok := by
    have hc : Calm 28 H (M.D.setPower q) := HMC.out.power q
    have hpw : (M.D.setPower q).power = q := by show (if (q : Int) < 0 then -1 else (q : Int)) = q; rw [if_neg (by omega)]
    have hleft : (M.D.setPower q).left (2 * M.stg.length + 6) ↔ 2 * n + 6 ≤ q := by
      unfold DSt.left
      rw [hpw, HN.out]
      omega
    have hOk : ∀ e, (LSt.mk (M.D.setPower q) M.stg M.dead).commitE = e → (LSt.mk (M.D.setPower q) M.stg M.dead).commit.D.safe.length = 32 + 28 → ((LSt.mk (M.D.setPower q) M.stg M.dead).commit.stg = [] ∨ (LSt.mk (M.D.setPower q) M.stg M.dead).commit.stg = M.stg) → (LSt.mk (M.D.setPower q) M.stg M.dead).commit.Ok := by
      intro e _ h1 h2
      unfold LSt.Ok
      rw [h1]
      rcases h2 with h2 | h2
      · rw [h2]; exact good_nil _
      · rw [h2]
        have := HK.out
        unfold LSt.Ok at this
        rw [HMC.out.len] at this
        exact this
    by_cases hgo : M.stg = [] ∨ (M.D.setPower q).left (2 * M.stg.length + 6)
    · obtain ⟨k1, k2, k3, k4, _⟩ := commit_goes (L := LSt.mk (M.D.setPower q) M.stg M.dead) hc HMD.out HK.out hgo (by rw [hpw]; omega)
      obtain ⟨z1, z2⟩ := set_zero k2 (by omega) k3 k4 ⟨#[120]⟩
      refine ⟨0, 0, 0, 0, k1, z1, z2, .inr ⟨rfl, rfl, rfl, ?_⟩, by rw [k2.wait]; rfl, by omega, hOk _ k1 k2.len (.inl k3)⟩
      rcases hgo with h | h
      · left; rw [HN.out, h]; rfl
      · by_cases hz : n = 0
        · exact .inl hz
        · exact .inr ⟨hz, hleft.1 h⟩
    · have hs : M.stg ≠ [] := fun h => hgo (.inl h)
      have hl : ¬ (M.D.setPower q).left (2 * M.stg.length + 6) := fun h => hgo (.inr h)
      obtain ⟨k1, k2, k3, k4⟩ := commit_dies (L := LSt.mk (M.D.setPower q) M.stg M.dead) hc HMD.out HK.out hs hl (by rw [hpw]; omega)
      obtain ⟨z1, z2, _⟩ := dead_all k3 0 (secOf ⟨#[120]⟩)
      refine ⟨7, 7, 7, _, k1, z1, z2, .inl ⟨rfl, rfl, rfl, ?_, fun h => hl (hleft.2 h), k3⟩, rfl, k4, hOk _ k1 k2.len (.inr ?_)⟩
      · rw [HN.out]; exact fun h => hs (List.length_eq_zero_iff.1 h)
      · exact commit_stays (by rw [k1]; decide)
  obtain ⟨y1, y2, y3, y4, y5, y6, y7⟩ := hE
  have Y1 := Lib.hid y1
  have Y2 := Lib.hid y2
  have Y3 := Lib.hid y3
  have Y4 := Lib.hid y4
  have Y5 := Lib.hid y5
  have Y6 := Lib.hid y6
  have Y7 := Lib.hid y7
  clear y1 y2 y3 y4 y5 y6 y7 hcw
  rcases hq with ⟨hneg, rfl⟩ | ⟨hneg, hgt, rfl⟩ | rfl
  all_goals
    go_wp2_with fail
    refine (lv_disk L6 hlX (d_power _ HQ3.out)).mono ?_
    rintro e w8 ⟨rfl, L8⟩
    clear L6
    go_wp2_with fail
    refine (lv_commit L8 hlX HK.out HCW.out).mono ?_
    rintro e w9 ⟨he, L9⟩
    rw [Y1.out] at he
    subst he
    clear L8
    go_wp2_with fail
    refine (lv_get L9 hlX (by rw [Y5.out]; have := Y6.out; omega) 0).mono ?_
    rw [Y2.out]
    rintro e w10 ⟨rfl, L10⟩
    clear L9
    go_wp2_with fail
    refine (L10.calls (LV.loc hlX) (sector_calls ⟨#[120]⟩ w10 (by decide))).mono ?_
    rintro e w11 ⟨rfl, L11⟩
    clear L10
    go_wp2_with fail
    refine (lv_set L11 hlX Y7.out 0 (secOf ⟨#[120]⟩)).mono ?_
    rw [Y3.out]
    rintro e w12 ⟨rfl, L12⟩
    clear L11
    have HFR := Lib.hid L12.fr
    have y4 := Y4.out
    clear Y1 Y2 Y3 Y4
    rcases y4 with ⟨rfl, rfl, rfl, hn0, hnq, hdead⟩ | ⟨rfl, rfl, rfl, rfl | ⟨hn0, hnq⟩⟩
    · have hcz := (dead_all (L := (LSt.mk (M.D.setPower _) M.stg M.dead).commit.set 0 (secOf ⟨#[120]⟩)) ((set_D _ _ _).2.trans hdead) 0 ⟨#[]⟩).2.2
      have HCZ := Lib.hid hcz
      clear hcz hdead
      have z1 : ((n : Int) == 0) = false := by rw [beq_eq_false_iff_ne]; omega
      go_wp2_with fail
      all_goals
        refine (lv_staged L12).mono ?_
        rw [HCZ.out]
        rintro e w13 ⟨rfl, rfl⟩
        clear L12
        go_wp2_with fail
        go_ret
        exact ⟨rfl, HFR.out⟩
    · clear L12
      go_wp2_with fail
      go_ret
      exact ⟨rfl, HFR.out⟩
    · clear L12
      have z1 : ((n : Int) == 0) = false := by rw [beq_eq_false_iff_ne]; omega
      go_wp2_with fail
      go_ret
      exact ⟨rfl, HFR.out⟩
end Go.Proofs.Ytchilnjocnkodaa
