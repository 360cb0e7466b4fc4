/- The document's log: Commit. -/
import Derived.Test.YtchilnjocnkodaaGreatRlH
namespace Go.Proofs.YtchilnjocnkodaaGreat
open Go.RowKit

theorem turn_rdead (b d : Nat) (stg : Stg) (dv dw : Bool) (w : World) : Turn w (w.setCell ⟨b, 2, none⟩ (.bool dw)) (rlA b d stg dv) (rlA b d stg dw) := by
  rintro S ⟨ao, c, h1, h2, h3, h4⟩
  have hne : ¬ (Value.slice ao stg.length c).ownBlock = some b := row_ne h2 h1 (by decide)
  exact ⟨⟨ao, c, h1.set 2 _, ownsRow_setCell_other h2 (a := ⟨b, 2, none⟩) hne _, .inl h3, fun k hk => .inl (h4 k hk)⟩, Fr.setCell h3 w 2 _⟩
section
variable {S0 : Nat → Prop} {w0 w : World} {b d : Nat} {L : LSt} {B : Asr}

set_option maxRecDepth 100000 in
set_option maxHeartbeats 1000000 in
theorem rcommit_calls (hL : RV S0 w0 b d L B w) (hB : Loc B) (hg : L.stg.Good 512) (hw : (L.D.wait.length + 70) * 24 ≤ 140737488355328) :
    Calls Tryz.prog 38 #[.pointer (some ⟨b, 0, none⟩)] w fun e w' => e = .returned (.int .i64 L.commitE) ∧ RV S0 w0 b d L.commit B w' := by
  obtain ⟨D, stg, dead⟩ := L
  simp only at hg hw
  obtain ⟨ao, c, h⟩ := hL.cells
  have c1 := h.c1
  have c2 := h.c2
  simp only at c1 c2
  obtain ⟨n, hn⟩ : ∃ n, n = stg.length := ⟨_, rfl⟩
  have HN := Lib.hid hn
  rw [← hn] at c1
  clear h
  cases dead with
  | true =>
    have e1 : (LSt.mk D stg true).commitE = 7 := rfl
    have e2 : (LSt.mk D stg true).commit = LSt.mk D stg true := rfl
    rw [e1, e2]
    have H := Lib.hid hL
    clear hL hg hw hn
    go_enter Tryz.func38, Tryz.ntmps38
    go_wp2
    go_ret
    exact ⟨rfl, H.out⟩
  | false =>
    by_cases hs : stg = []
    · subst hs
      have e1 : (LSt.mk D [] false).commitE = 0 := rfl
      have e2 : (LSt.mk D [] false).commit = LSt.mk D [] false := rfl
      rw [e1, e2]
      have H := Lib.hid hL
      have hn0 : n = 0 := hn
      clear hL hg hw hn HN
      subst hn0
      go_enter Tryz.func38, Tryz.ntmps38
      go_wp2
      go_ret
      exact ⟨rfl, H.out⟩
    · have e1 : (LSt.mk D stg false).commitE = D.actsE (commitA stg) := by
        unfold LSt.commitE
        rw [if_neg (by simp), if_neg hs]
      have e2 : (LSt.mk D stg false).commit = if D.actsE (commitA stg) = 0 then ⟨D.acts (commitA stg), [], false⟩ else ⟨D.acts (commitA stg), stg, true⟩ := by
        unfold LSt.commit
        rw [if_neg (by simp), if_neg hs]
      rw [e1, e2]
      have hl0 : ((n : Int) == 0) = false := by rw [beq_eq_false_iff_ne]; have := List.length_pos_iff.2 hs; omega
      have HA := Lib.hid (racts_calls hL hB hg hw)
      clear hL hg hw e1 e2 hs hn
      go_enter Tryz.func38, Tryz.ntmps38
      go_wp2_with fail
      refine HA.out.mono ?_
      rintro e w3 ⟨rfl, L4⟩
      obtain ⟨S4, h4⟩ := L4.first
      obtain ⟨ao4, cc4, h4⟩ := rl_cells h4
      have d1 := h4.c1
      have d2 := h4.c2
      have z1 := h4.z 1
      have z2 := h4.z 2
      have hBl' : Loc (Star (dskA kR d (D.acts (commitA stg))) B) := loc_star (loc_dsk _ _ _) hB
      clear c1 c2 h4
      by_cases hE : D.actsE (commitA stg) = 0
      · have hE' : (D.actsE (commitA stg) == 0) = true := by rw [beq_iff_eq]; exact hE
        have H6 := Lib.hid (L4.turn hBl' (turn_rnil b d stg false _))
        have HE := Lib.hid hE
        clear hE L4
        go_wp2_with fail
        go_ret
        refine ⟨by first | rfl | (rw [HE.out]; rfl), ?_⟩
        first | exact H6.out | (rw [if_pos HE.out]; exact H6.out)
      · have hE' : (D.actsE (commitA stg) == 0) = false := by rw [beq_eq_false_iff_ne]; exact hE
        have H6 := Lib.hid (L4.turn hBl' (turn_rdead b d stg false true _))
        have HE := Lib.hid hE
        clear hE L4
        go_wp2_with fail
        go_ret
        exact ⟨rfl, by first | exact H6.out | (rw [if_neg HE.out]; exact H6.out)⟩
end
end Go.Proofs.YtchilnjocnkodaaGreat
