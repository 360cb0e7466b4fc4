/- A log: Get, Set, Staged, Abort. -/
import Derived.Test.YtchilnjocnkodaaGreatLgA
namespace Go.Proofs.YtchilnjocnkodaaGreat
open Go.RowKit Go.Maps

section
variable {b d mb : Nat} {S : Nat → Prop} {L : LSt} {w : World}

set_option maxRecDepth 100000 in
set_option maxHeartbeats 1000000 in
theorem lget_calls (hb : Blk w b tLog [.pointer (some ⟨d, 0, none⟩), .map (some mb), .bool L.dead]) (hm : IsMp w mb L.stg) (hd : IsDisk w d S L.D) (hl : L.D.wait.length * 24 ≤ 140737488355328) (i : Int) :
    Calls Tryz.prog 24 #[.pointer (some ⟨b, 0, none⟩), .int .i64 i] w fun e w' => e = .returned (.tuple #[.string (L.getS i), .int .i64 (L.getE i)]) ∧ Fr Nob w w' := by
  have c0 := hb.cell (j := 0) rfl
  have c1 := hb.cell (j := 1) rfl
  have HM := Lib.hid (lmay_calls hb hd i)
  have hok : L.D.safe.length ≤ 544 := by obtain ⟨_, _, _, _, h⟩ := hd; exact h.ok.len
  by_cases h0 : L.mayE i = 0
  · have hi : 0 ≤ i ∧ i < 512 := by
      unfold LSt.mayE at h0
      split at h0
      · cases h0
      · split at h0
        · cases h0
        · omega
    obtain ⟨j, rfl⟩ := Int.eq_ofNat_of_zero_le hi.1
    have hlk := mp_look_ok hm j (by omega)
    have HR := Lib.hid (dread_calls hd (32 + (j : Int)) hl)
    unfold LSt.getS LSt.getE
    rw [if_neg (by simpa using h0), if_neg (by simpa using h0), Int.toNat_natCast]
    cases hat : L.stg.at j with
    | some s =>
      rw [hat] at hlk
      rw [h0] at HM
      clear hb hm hd hat h0
      go_enter Tryz.func24, Tryz.ntmps24
      go_wp2_with fail
      refine HM.out.mono ?_
      rintro e w1 ⟨rfl, rfl⟩
      go_wp2_with fail
      go_ret2
      exact ⟨rfl, Fr.refl _ _⟩
    | none =>
      rw [hat] at hlk
      rw [h0] at HM
      clear hb hm hd hat h0
      go_enter Tryz.func24, Tryz.ntmps24
      go_wp2_with fail
      refine HM.out.mono ?_
      rintro e w1 ⟨rfl, rfl⟩
      go_wp2_with fail
      refine HR.out.mono ?_
      rintro e w2 ⟨rfl, hf⟩
      go_wp2_with fail
      go_ret2
      exact ⟨rfl, hf⟩
  · unfold LSt.getS LSt.getE
    rw [if_pos h0, if_pos h0]
    have h0' : (L.mayE i == 0) = false := by rw [beq_eq_false_iff_ne]; exact h0
    clear hb hm hd h0
    go_enter Tryz.func24, Tryz.ntmps24
    go_wp2_with fail
    refine HM.out.mono ?_
    rintro e w1 ⟨rfl, rfl⟩
    go_wp2_with fail
    go_ret2
    exact ⟨rfl, Fr.refl _ _⟩

set_option maxRecDepth 100000 in
set_option maxHeartbeats 400000 in
theorem lstaged_calls (hb : Blk w b tLog [.pointer (some ⟨d, 0, none⟩), .map (some mb), .bool L.dead]) (hm : IsMp w mb L.stg) :
    Calls Tryz.prog 15 #[.pointer (some ⟨b, 0, none⟩)] w fun e w' => e = .returned (.int .i64 L.count) ∧ w = w' := by
  have c1 := hb.cell (j := 1) rfl
  have c2 := hb.cell (j := 2) rfl
  have hlen := mp_len hm 3
  unfold LSt.count
  clear hb hm
  cases hdead : L.dead with
  | true =>
    rw [hdead] at c2
    go_enter Tryz.func15, Tryz.ntmps15
    go_wp2
    go_ret
    exact ⟨rfl, rfl⟩
  | false =>
    rw [hdead] at c2
    go_enter Tryz.func15, Tryz.ntmps15
    go_wp2
    go_ret
    exact ⟨rfl, rfl⟩

set_option maxRecDepth 100000 in
set_option maxHeartbeats 400000 in
theorem labort_calls {dv : Bool} {stg : Stg} (hb : Blk w b tLog [.pointer (some ⟨d, 0, none⟩), .map (some mb), .bool dv]) (hm : IsMp w mb stg) :
    Calls Tryz.prog 39 #[.pointer (some ⟨b, 0, none⟩)] w fun e w' => e = .returned (.tuple #[]) ∧ IsMp w' mb [] ∧ Fr (· = mb) w w' := by
  have c1 := hb.cell (j := 1) rfl
  obtain ⟨w2, hc, h2, hf2⟩ := mp_clear hm 0
  have H2 := Lib.hid (show IsMp w2 mb [] ∧ Fr (· = mb) w w2 from ⟨h2, hf2⟩)
  clear hb hm h2 hf2
  go_enter Tryz.func39, Tryz.ntmps39
  go_wp2
  exact ⟨rfl, .tuple #[], results_none rfl _ _ _, rfl, H2.out⟩

set_option maxRecDepth 100000 in
set_option maxHeartbeats 1000000 in
theorem lset_calls (hb : Blk w b tLog [.pointer (some ⟨d, 0, none⟩), .map (some mb), .bool L.dead]) (hm : IsMp w mb L.stg) (hd : IsDisk w d S L.D) (ho : L.stg.Ok) (hl30 : L.stg.length ≤ 30) (i : Int) (s : ByteArray) :
    Calls Tryz.prog 21 #[.pointer (some ⟨b, 0, none⟩), .int .i64 i, .string s] w fun e w' => e = .returned (.int .i64 (L.setE i s)) ∧ IsMp w' mb (L.set i s).stg ∧ Fr (· = mb) w w' := by
  have c1 := hb.cell (j := 1) rfl
  have HM := Lib.hid (lmay_calls hb hd i)
  have hok : L.D.safe.length ≤ 544 := by obtain ⟨_, _, _, _, h⟩ := hd; exact h.ok.len
  have HI := Lib.hid hm
  have HOK := Lib.hid ho
  have bad : L.setE i s ≠ 0 → IsMp w mb (L.set i s).stg ∧ Fr (· = mb) w w := by
    intro h
    unfold LSt.set
    rw [if_pos h]
    exact ⟨hm, Fr.refl _ _⟩
  have BAD := Lib.hid bad
  clear bad
  by_cases h0 : L.mayE i = 0
  · have hi : 0 ≤ i ∧ i < 512 := by
      unfold LSt.mayE at h0
      split at h0
      · cases h0
      · split at h0
        · cases h0
        · omega
    obtain ⟨j, rfl⟩ := Int.eq_ofNat_of_zero_le hi.1
    have hlk := mp_look_ok hm j (by omega)
    have hlen := mp_len hm 3
    rw [h0] at HM
    by_cases hs : s.size = 64
    · have hs' : ((s.size : Int) == 64) = true := by rw [beq_iff_eq]; omega
      have hE : L.setE (j : Int) s = if L.stg.at j = none ∧ L.stg.length = 30 then 4 else 0 := by
        unfold LSt.setE
        rw [if_neg (by simpa using h0), if_neg (by simpa using hs), Int.toNat_natCast]
      by_cases hfull : L.stg.at j = none ∧ L.stg.length = 30
      · rw [if_pos hfull] at hE
        have H := Lib.hid (BAD.out (by rw [hE]; decide))
        rw [hE]
        rw [hfull.1] at hlk
        have h30 : ((L.stg.length : Int) == 30) = true := by rw [beq_iff_eq]; omega
        clear hb hm hd ho hE hfull h0 BAD
        go_enter Tryz.func21, Tryz.ntmps21
        go_wp2_with fail
        refine HM.out.mono ?_
        rintro e w1 ⟨rfl, rfl⟩
        go_wp2_with fail
        go_ret
        exact ⟨rfl, H.out⟩
      · rw [if_neg hfull] at hE
        have hset : (L.set (j : Int) s).stg = L.stg.put j s := by
          unfold LSt.set
          rw [if_neg (by simp [hE])]
          rfl
        rw [hE, hset]
        have HV := Lib.hid (plainElem_string (H := Unit) Tryz.underlying9 (s := s) (by unfold maxLen; omega))
        have HK := Lib.hid (key_int (i := (j : Int)) (by omega) (by omega))
        have hl31 : L.stg.length < maxLen := by unfold maxLen; omega
        have HL31 := Lib.hid hl31
        clear hl31
        cases hat : L.stg.at j with
        | some t =>
          rw [hat] at hlk
          clear hb hm hd ho hE hfull h0 BAD hat hset
          go_enter Tryz.func21, Tryz.ntmps21
          go_wp2_with fail
          refine HM.out.mono ?_
          rintro e w1 ⟨rfl, rfl⟩
          go_wp2_with (at_mapUpdate; refine wpList_mapUpdate_own _ rfl (.tmp 41) (.tmp 42) (.tmp 43) tMap rfl tIntE tStrE Tryz.keyInt Tryz.underlying63 (plainElem Tryz.prog tStrE) mb L.stg.length (datL L.stg) rfl HI.out HL31.out _ _ _ rfl rfl HK.out _ [] HV.out ?_; intro w2 hown2 hgrow2)
          go_ret
          exact ⟨rfl, mp_put HOK.out hown2 hgrow2⟩
        | none =>
          rw [hat] at hlk
          have h30 : ((L.stg.length : Int) == 30) = false := by rw [beq_eq_false_iff_ne]; intro h; exact hfull ⟨hat, by omega⟩
          clear hb hm hd ho hE hfull h0 BAD hat hset
          go_enter Tryz.func21, Tryz.ntmps21
          go_wp2_with fail
          refine HM.out.mono ?_
          rintro e w1 ⟨rfl, rfl⟩
          go_wp2_with (at_mapUpdate; refine wpList_mapUpdate_own _ rfl (.tmp 41) (.tmp 42) (.tmp 43) tMap rfl tIntE tStrE Tryz.keyInt Tryz.underlying63 (plainElem Tryz.prog tStrE) mb L.stg.length (datL L.stg) rfl HI.out HL31.out _ _ _ rfl rfl HK.out _ [] HV.out ?_; intro w2 hown2 hgrow2)
          go_ret
          exact ⟨rfl, mp_put HOK.out hown2 hgrow2⟩
    · have hs' : ((s.size : Int) == 64) = false := by rw [beq_eq_false_iff_ne]; omega
      have hE : L.setE (j : Int) s = 1 := by
        unfold LSt.setE
        rw [if_neg (by simpa using h0), if_pos hs]
      have H := Lib.hid (BAD.out (by rw [hE]; decide))
      rw [hE]
      clear hb hm hd ho hE h0 BAD hs
      go_enter Tryz.func21, Tryz.ntmps21
      go_wp2_with fail
      refine HM.out.mono ?_
      rintro e w1 ⟨rfl, rfl⟩
      go_wp2_with fail
      go_ret
      exact ⟨rfl, H.out⟩
  · have hE : L.setE i s = L.mayE i := by
      unfold LSt.setE
      rw [if_pos h0]
    have h0' : (L.mayE i == 0) = false := by rw [beq_eq_false_iff_ne]; exact h0
    have H := Lib.hid (BAD.out (by rw [hE]; exact h0))
    rw [hE]
    clear hb hm hd ho hE h0 BAD
    go_enter Tryz.func21, Tryz.ntmps21
    go_wp2_with fail
    refine HM.out.mono ?_
    rintro e w1 ⟨rfl, rfl⟩
    go_wp2_with fail
    go_ret
    exact ⟨rfl, H.out⟩
end
end Go.Proofs.YtchilnjocnkodaaGreat
