/- LogPlays: what its states are; opened; both logs opened. -/
import Derived.Test.YtchilnjocnkodaaGreatRlJ
import Derived.Test.YtchilnjocnkodaaGreatOfB
namespace Go.Proofs.YtchilnjocnkodaaGreat
open Go.RowKit

theorem act1_safe (D : DSt) (a : DAct) : (D.act1 a).safe.length = D.safe.length := by
  cases a with
  | write i s => exact (write_keeps D _ _).1
  | flush => exact (flush_keeps D).1
theorem acts_safe (D : DSt) (l : List DAct) : (D.acts l).safe.length = D.safe.length := by
  induction l generalizing D with
  | nil => rfl
  | cons a l ih =>
    rw [DSt.acts_cons]
    split
    · rw [ih, act1_safe]
    · exact act1_safe D a
theorem acts_flushed {D : DSt} {l : List DAct} (h : D.actsE (l ++ [.flush]) = 0) : (D.acts (l ++ [.flush])).wait = [] := by
  rw [DSt.actsE_append] at h
  rw [DSt.acts_append]
  by_cases h1 : D.actsE l = 0
  · rw [if_pos h1] at h
    rw [if_pos h1, one_acts]
    rw [one_actsE] at h
    have h : (D.acts l).flushE = 0 := h
    show (D.acts l).flush.wait = []
    unfold DSt.flushE at h
    unfold DSt.flush
    split at h
    · cases h
    · rename_i h2
      rw [if_neg h2]
      split at h
      · cases h
      · rename_i h3
        rw [if_neg h3]
  · rw [if_neg h1] at h
    exact absurd h h1
theorem install_ends (l : Stg) : ∃ k, installA l = k ++ [.flush] := ⟨homeA l ++ [.flush, .write 1 (headP [])], by
  show homeA l ++ sealA [] = _
  unfold sealA
  simp⟩
theorem commit_ends (l : Stg) : ∃ k, commitA l = k ++ [.flush] := by
  obtain ⟨k, hk⟩ := install_ends l
  refine ⟨stageA l ++ (sealA (l.map (·.1)) ++ k), ?_⟩
  unfold commitA
  rw [hk]
  simp
theorem opened_safe (D : DSt) : D.opened.safe.length = D.safe.length := by
  unfold DSt.opened
  split
  · rfl
  · split
    · rfl
    · split
      · rfl
      · exact acts_safe _ _
theorem opened_wait {D : DSt} (hw : D.wait = []) : D.opened.wait.length ≤ 70 ∧ (D.openE = 0 → D.opened.wait = []) := by
  by_cases h : D.readE 1 = 0
  · cases hP : homesP (D.readS 1) ((D.safe.length : Int) - 32) with
    | none =>
      obtain ⟨e1, e2⟩ := open_none h hP
      rw [e2, hw]
      exact ⟨by simp, fun _ => rfl⟩
    | some l =>
      obtain ⟨e1, e2⟩ := open_some h hP
      by_cases hl : l = []
      · rw [if_pos hl] at e1 e2
        rw [e2, hw]
        exact ⟨by simp, fun _ => rfl⟩
      · rw [if_neg hl] at e1 e2
        have hl30 := (homesP_some hP).1
        have h1 := acts_wait (installA (D.held l)) D
        rw [hw] at h1
        have h2 : (installA (D.held l)).length ≤ 33 := by unfold installA sealA; simp [held_length]; exact hl30
        rw [e2, e1]
        simp at h1
        refine ⟨by omega, fun h0 => ?_⟩
        obtain ⟨k, hk⟩ := install_ends (D.held l)
        rw [hk] at h0 ⊢
        exact acts_flushed h0
  · have e : D.opened = D := by unfold DSt.opened; rw [if_pos h]
    rw [e, hw]
    exact ⟨by simp, fun _ => rfl⟩

/-- A log among those of LogPlays. -/
structure PInv (L : LSt) : Prop where
  ok : L.Ok
  alive : L.dead = false → L.D.wait = []
  wait : L.D.wait.length ≤ 70
theorem pinv_new {D : DSt} (hw : D.wait = []) (hE : D.openE = 0) : PInv ⟨D.opened, [], false⟩ := ⟨good_nil _, fun _ => (opened_wait hw).2 hE, (opened_wait hw).1⟩
theorem pinv_power {L : LSt} (h : PInv L) (n : Int) : PInv { L with D := L.D.setPower n } := ⟨h.ok, h.alive, h.wait⟩
theorem pinv_set {L : LSt} (h : PInv L) (i : Int) (s : ByteArray) : PInv (L.set i s) := by
  obtain ⟨e1, e2⟩ := set_D L i s
  exact ⟨set_good h.ok i s, by rw [e1, e2]; exact h.alive, by rw [e1]; exact h.wait⟩
theorem pinv_commit {L : LSt} (h : PInv L) : PInv L.commit := by
  by_cases hd : L.dead = true
  · have : L.commit = L := by unfold LSt.commit; rw [if_pos hd]
    rw [this]; exact h
  · by_cases hs : L.stg = []
    · have : L.commit = L := by unfold LSt.commit; rw [if_neg hd, if_pos hs]
      rw [this]; exact h
    · have hw := h.alive (by simpa using hd)
      have h1 := acts_wait (commitA L.stg) L.D
      have hcl : (commitA L.stg).length = 2 * L.stg.length + 6 := by unfold commitA installA stageA sealA; simp; omega
      rw [hw, hcl] at h1
      have h2 := h.ok.len
      simp at h1
      by_cases hE : L.D.actsE (commitA L.stg) = 0
      · have : L.commit = ⟨L.D.acts (commitA L.stg), [], false⟩ := by unfold LSt.commit; rw [if_neg hd, if_neg hs, if_pos hE]
        rw [this]
        refine ⟨good_nil _, fun _ => ?_, by show (L.D.acts (commitA L.stg)).wait.length ≤ 70; omega⟩
        obtain ⟨k, hk⟩ := commit_ends L.stg
        show (L.D.acts (commitA L.stg)).wait = []
        rw [hk] at hE ⊢
        exact acts_flushed hE
      · have : L.commit = ⟨L.D.acts (commitA L.stg), L.stg, true⟩ := by unfold LSt.commit; rw [if_neg hd, if_neg hs, if_neg hE]
        rw [this]
        refine ⟨?_, fun h => (by cases h), by show (L.D.acts (commitA L.stg)).wait.length ≤ 70; omega⟩
        unfold LSt.Ok
        rw [acts_safe]
        exact h.ok
theorem pinv_does {L : LSt} (h : PInv L) (a : ActD) : PInv (doesStep L a) := by
  unfold doesStep
  split
  · exact pinv_set h _ _
  · split
    · exact pinv_commit h
    · split
      · exact ⟨good_nil _, h.alive, h.wait⟩
      · split
        · exact pinv_set h _ _
        · exact h

section
variable {w0 w : World} {d rd : Nat} {D : DSt} {B : Asr}
set_option maxRecDepth 100000 in
set_option maxHeartbeats 2000000 in
/-- The disk of which LogPlays starts. -/
theorem opened_calls {ao : Option Addr} {c : Nat} {l : List ByteArray} {m : Int} (hS : Srcs w0 (.slice ao l.length c) l.length 1 (strs l)) (hl : l.length ≤ 9223372036854775807) (hL : Lv Nob w0 B w) (hB : Loc B) :
    Calls Tryz.prog 5 #[.slice ao l.length c, .int .i64 m] w fun e w' => ∃ d rd D, e = .returned (.tuple #[.pointer (some ⟨d, 0, none⟩), .pointer (some ⟨rd, 0, none⟩)]) ∧ D.wait = [] ∧ Lv Nob w0 (Star (dskA kD d D) (Star (dskA kR rd D) B)) w' := by
  have HS := Lib.hid hS
  have HL := Lib.hid hl
  have hq : ∃ q : Nat, 48 ≤ q ∧ q ≤ 544 ∧ ((m < 48 ∧ q = 48) ∨ (¬ m < 48 ∧ 544 < m ∧ q = 48) ∨ m = (q : Int)) := by
    by_cases h1 : m < 48
    · exact ⟨48, by omega, by omega, .inl ⟨h1, rfl⟩⟩
    · by_cases h2 : 544 < m
      · exact ⟨48, by omega, by omega, .inr (.inl ⟨h1, h2, rfl⟩)⟩
      · exact ⟨m.toNat, by omega, by omega, .inr (.inr (by omega))⟩
  obtain ⟨q, hq1, hq2, hq⟩ := hq
  have hof := rof_calls (w := w) (HS.out.fr hL.fr (fun _ _ _ _ h => h)) HL.out
  have HOF := Lib.hid hof
  clear hS hl hof
  rcases hq with ⟨h1, rfl⟩ | ⟨h1, h2, rfl⟩ | rfl
  all_goals
    go_enter Tryz.func5, Tryz.ntmps5
    go_wp2_with fail
    refine HOF.out.mono ?_
    rintro e w1 ⟨hf1, ⟨hno, rfl⟩ | ⟨hyes, rd, rfl, hd⟩⟩
    · have L1 := hL.keep hB hf1
      clear hL hf1 hno
      go_wp2_with fail
      refine (new_ok _ w1 hq1 hq2).mono ?_
      rintro e w2 ⟨d, rfl, hd, hf⟩
      have L2 := L1.new (B := dskA kD d (DSt.fresh _)) hB hf hd
      clear L1 hd hf
      go_wp2_with fail
      refine (rnew_ok _ w2 hq1 hq2).mono ?_
      rintro e w3 ⟨rd, rfl, hd, hf⟩
      have L3 := L2.new (B := dskA kR rd (DSt.fresh _)) (loc_star (loc_dsk _ _ _) hB) hf hd
      have HR := Lib.hid (L3.map fun _ h => star_flip h)
      clear L2 L3 hd hf
      go_wp2_with fail
      go_ret2
      exact ⟨d, rd, _, rfl, rfl, HR.out⟩
    · have L1 := hL.new (B := dskA kR rd (DSt.of l)) hB hf1 hd
      have hof2 := of_calls (w := w1) (HS.out.fr (hL.fr.trans hf1) (fun _ _ _ _ h => h)) HL.out
      have HOF2 := Lib.hid hof2
      have HY := Lib.hid hyes
      clear hL hf1 hyes hd hof2
      go_wp2_with fail
      refine HOF2.out.mono ?_
      rintro e w2 ⟨hf2, ⟨hno, _⟩ | ⟨_, d, rfl, hd⟩⟩
      · exact absurd HY.out hno
      · have HR := Lib.hid (L1.new (B := dskA kD d (DSt.of l)) (loc_star (loc_dsk _ _ _) hB) hf2 hd)
        clear L1 hf2 hd
        go_wp2_with fail
        go_ret2
        exact ⟨d, rd, _, rfl, rfl, HR.out⟩
end
end Go.Proofs.YtchilnjocnkodaaGreat
