/- The log: Commit. -/
import Derived.Test.YtchilnjocnkodaaLgE
namespace Go.Proofs.Ytchilnjocnkodaa
open Go.RowKit

/-- A log is told dead. -/
theorem turn_dead (b d mb : Nat) (stg : Stg) (dv : Bool) (w : World) : Turn w (w.setCell ⟨b, 2, none⟩ (.bool dv)) (lgM b d mb stg false) (lgM b d mb stg dv) := by
  rintro S ⟨h1, h2, h3, h4⟩
  have hne : b ≠ mb := by
    intro e
    obtain ⟨es, clock, hb, _⟩ := h2
    rw [← e, h1] at hb
    cases hb
  exact ⟨⟨h1.set 2 _, h2.fr (Fr.setCell (S := (· = b)) rfl w 2 _) (fun h => hne h.symm), .inl h3, .inl h4⟩, Fr.setCell h3 w 2 _⟩
theorem turn_clear {b d mb : Nat} {stg : Stg} {dv : Bool} {w w' : World} (h : IsMp w' mb []) (hf : Fr (· = mb) w w') : Turn w w' (lgM b d mb stg dv) (lgM b d mb [] dv) := by
  rintro S ⟨h1, h2, h3, h4⟩
  have hne : b ≠ mb := by
    intro e
    obtain ⟨es, clock, hb, _⟩ := h2
    rw [← e, h1] at hb
    cases hb
  exact ⟨⟨h1.fr hf hne, h, .inl h3, .inl h4⟩, hf.mono fun k hk => by subst hk; exact h4⟩

section
variable {S0 : Nat → Prop} {w0 w : World} {b d : Nat} {B : Asr}

set_option maxRecDepth 100000 in
set_option maxHeartbeats 1000000 in
theorem commit_lives {L : LSt} {m : Nat} (hL : Lv S0 w0 (Star (lgA b d L.stg L.dead) (Star (dskA kD d L.D) B)) w) (hB : Loc B) (hg : L.stg.Good m) (hm : m ≤ 512) (hw : (L.D.wait.length + 70) * 24 ≤ 140737488355328) :
    Calls Try.prog 14 #[.pointer (some ⟨b, 0, none⟩)] w fun e w' => e = .returned (.int .i64 L.commitE) ∧ Lv S0 w0 (Star (lgA b d L.commit.stg L.commit.dead) (Star (dskA kD d L.commit.D) B)) w' := by
  obtain ⟨D, stg, dead⟩ := L
  simp only at hL hg hw
  obtain ⟨mb, hM⟩ := lv_open hL
  obtain ⟨S, h1, h2, h3, h4⟩ := hM.first
  have c1 := h1.cell (j := 1) rfl
  have c2 := h1.cell (j := 2) rfl
  have hlen := mp_len h2 3
  have H2 := Lib.hid h2
  cases dead with
  | true =>
    have e1 : (LSt.mk D stg true).commitE = 7 := rfl
    have e2 : (LSt.mk D stg true).commit = LSt.mk D stg true := rfl
    rw [e1, e2]
    have H := Lib.hid hL
    clear hL hM h1 h2 hg hw hlen
    go_enter Try.func14, Try.ntmps14
    go_wp2
    go_ret
    exact ⟨rfl, H.out⟩
  | false =>
    by_cases hs : stg = []
    · subst hs
      have e1 : (LSt.mk D [] false).commitE = 0 := rfl
      have e2 : (LSt.mk D [] false).commit = LSt.mk D [] false := rfl
      rw [e1, e2]
      have H := Lib.hid hL
      clear hL hM h1 h2 hg hw
      go_enter Try.func14, Try.ntmps14
      go_wp2
      go_ret
      exact ⟨rfl, H.out⟩
    · have e1 : (LSt.mk D stg false).commitE = D.actsE (commitA stg) := by
        unfold LSt.commitE
        rw [if_neg (by simp), if_neg hs]
      have e2 : (LSt.mk D stg false).commit = if D.actsE (commitA stg) = 0 then ⟨D.acts (commitA stg), [], false⟩ else ⟨D.acts (commitA stg), stg, true⟩ := by
        unfold LSt.commit
        rw [if_neg (by simp), if_neg hs]
      rw [e1, e2]
      have hpos : 0 < stg.length := List.length_pos_iff.2 hs
      have hl0 : ((stg.length : Int) == 0) = false := by rw [beq_eq_false_iff_ne]; omega
      have hBl : Loc (Star (lgA b d stg false) (Star (dskA kD d D) B)) := loc_star (loc_lg _ _ _ _) (loc_star (loc_dsk _ _ _) hB)
      have HG := Lib.hid hg
      have HL := Lib.hid hL
      have HW := Lib.hid hw
      clear hL hM h1 h2 hg hw e1 e2 hs
      go_enter Try.func14, Try.ntmps14
      go_wp2_with fail
      refine (mkeys_calls _ _).mono ?_
      rintro e w1 ⟨rfl, rfl⟩
      go_wp2_with fail
      refine (sorted_calls H2.out HG.out.ok HG.out.len).mono ?_
      rintro e w2 ⟨v, rfl, hrow, hlt, hf⟩
      have hf' : Fr Nob w w2 := (Fr.refl Nob w).alloc _ |>.trans hf
      have L2 := HL.out.new (B := rowA tIntE 1 v stg.length (nums (keys stg))) hBl hf' ⟨hrow, fun k hk => .inr ⟨hlt k hk, (hrow.lt k hk).2⟩⟩
      have L3 := L2.map (B := Star (lgA b d stg false) (Star (dskA kD d D) (Star (rowA tIntE 1 v stg.length (nums (keys stg))) B))) fun U h => star_right (star_flip h) fun _ h => star_flip h
      clear HL L2 hf hf' hrow hlt
      go_wp2_with fail
      refine (commits_calls L3 hB HG.out hm HW.out).mono ?_
      rintro e w3 ⟨rfl, L4⟩
      clear c1 c2 hlen
      obtain ⟨mc, L5⟩ := lv_open L4
      obtain ⟨S', g1, g2, g3, g4⟩ := L5.first
      have c1 := g1.cell (j := 1) rfl
      have c2 := g1.cell (j := 2) rfl
      have z2 := g1.free 2
      have hBl' : Loc (Star (dskA kD d (D.acts (commitA stg))) B) := loc_star (loc_dsk _ _ _) hB
      by_cases hE : D.actsE (commitA stg) = 0
      · have hE' : (D.actsE (commitA stg) == 0) = true := by rw [beq_iff_eq]; exact hE
        obtain ⟨w5, hc, k2, hf2⟩ := mp_clear g2 0
        have L6 := lv_shut (L5.turn hBl' (turn_clear k2 hf2))
        have HE := Lib.hid hE
        have H6 := Lib.hid L6
        clear hE L6 L5 L4 L3 g1 g2 k2 hf2
        go_wp2_with fail
        go_ret
        refine ⟨by first | rfl | (rw [HE.out]; rfl), ?_⟩
        first | exact H6.out | (rw [if_pos HE.out]; exact H6.out)
      · have hE' : (D.actsE (commitA stg) == 0) = false := by rw [beq_eq_false_iff_ne]; exact hE
        have L6 := lv_shut (L5.turn hBl' (turn_dead b d mc stg true _))
        have H6 := Lib.hid L6
        have HE := Lib.hid hE
        clear hE L6 L5 L4 L3 g1 g2
        go_wp2_with fail
        go_ret
        exact ⟨rfl, by first | exact H6.out | (rw [if_neg HE.out]; exact H6.out)⟩
end
end Go.Proofs.Ytchilnjocnkodaa
