/- A log as it lies in memory; what is asked of it without turning it. -/
import Derived.Test.YtchilnjocnkodaaGreatMap
import Derived.Test.YtchilnjocnkodaaGreatLive
import Derived.Test.YtchilnjocnkodaaGreatDskT
namespace Go.Proofs.YtchilnjocnkodaaGreat
open Go.RowKit

abbrev tLog : Nat := 65
/-- Block b is a log of the disk d. -/
def lgA (b d : Nat) (stg : Stg) (dead : Bool) : Asr := fun w S => ∃ mb, Blk w b tLog [.pointer (some ⟨d, 0, none⟩), .map (some mb), .bool dead] ∧ IsMp w mb stg ∧ S b ∧ S mb
theorem loc_lg (b d : Nat) (stg : Stg) (dead : Bool) : Loc (lgA b d stg dead) := by
  rintro w w' S T ⟨mb, h1, h2, h3, h4⟩ hf hT
  exact ⟨mb, h1.fr hf (hT _ h3), h2.fr hf (hT _ h4), h3, h4⟩
theorem mon_lg (b d : Nat) (stg : Stg) (dead : Bool) : Mon (lgA b d stg dead) := by
  rintro w S T ⟨mb, h1, h2, h3, h4⟩ hT
  exact ⟨mb, h1, h2, hT _ h3, hT _ h4⟩
theorem mon_dsk (K : Kd) (b : Nat) (D : DSt) : Mon (dskA K b D) := fun _ _ _ h hT => IsDsk.mono h hT

/-- Reading turns nothing that was there. -/
theorem dread_calls {b : Nat} {S : Nat → Prop} {D : DSt} {w : World} (h : IsDisk w b S D) (i : Int) (hl : D.wait.length * 24 ≤ 140737488355328) :
    Calls Tryz.prog 28 #[.pointer (some ⟨b, 0, none⟩), .int .i64 i] w fun e w' => e = .returned (.tuple #[.string (D.readS i), .int .i64 (D.readE i)]) ∧ Fr Nob w w' := by
  unfold DSt.readS DSt.readE
  by_cases h1 : D.off = true
  · rw [if_pos h1, if_pos h1]; exact read_off h h1 i
  · have h1' : D.off = false := by simpa using h1
    rw [if_neg h1, if_neg h1]
    by_cases h2 : i < 0 ∨ (D.safe.length : Int) ≤ i
    · rw [if_pos h2, if_pos h2]; exact read_arg h h1' i h2
    · rw [if_neg h2, if_neg h2]
      obtain ⟨j, rfl⟩ := Int.eq_ofNat_of_zero_le (show 0 ≤ i by omega)
      rw [Int.toNat_natCast]
      exact read_ok h h1' j (by omega) (by omega)

section
variable {b d mb : Nat} {S : Nat → Prop} {L : LSt} {w : World}

set_option maxHeartbeats 400000 in
theorem lhome_calls {dv : Bool} (hb : Blk w b tLog [.pointer (some ⟨d, 0, none⟩), .map (some mb), .bool dv]) {D : DSt} (hd : IsDisk w d S D) :
    Calls Tryz.prog 17 #[.pointer (some ⟨b, 0, none⟩)] w fun e w' => e = .returned (.int .i64 ((D.safe.length : Int) - 32)) ∧ w = w' := by
  have c0 := hb.cell (j := 0) rfl
  have HD := Lib.hid (sectors_calls hd)
  have hok : D.safe.length ≤ 544 := by obtain ⟨_, _, _, _, h⟩ := hd; exact h.ok.len
  clear hb hd
  go_enter Tryz.func17, Tryz.ntmps17
  go_wp2_with fail
  refine HD.out.mono ?_
  rintro e w1 ⟨rfl, rfl⟩
  go_wp2_with fail
  go_ret
  exact ⟨rfl, rfl⟩

set_option maxHeartbeats 400000 in
theorem lmay_calls (hb : Blk w b tLog [.pointer (some ⟨d, 0, none⟩), .map (some mb), .bool L.dead]) (hd : IsDisk w d S L.D) (i : Int) :
    Calls Tryz.prog 44 #[.pointer (some ⟨b, 0, none⟩), .int .i64 i] w fun e w' => e = .returned (.int .i64 (L.mayE i)) ∧ w = w' := by
  have c2 := hb.cell (j := 2) rfl
  have HH := Lib.hid (lhome_calls hb hd)
  unfold LSt.mayE
  clear hb hd
  cases hdead : L.dead with
  | true =>
    rw [hdead] at c2
    go_enter Tryz.func44, Tryz.ntmps44
    go_wp2
    go_ret
    exact ⟨rfl, rfl⟩
  | false =>
    rw [hdead] at c2
    rw [if_neg (by simp)]
    clear hdead
    by_cases h0 : i < 0
    · rw [if_pos (.inl h0)]
      go_enter Tryz.func44, Tryz.ntmps44
      go_wp2
      go_ret
      exact ⟨rfl, rfl⟩
    · by_cases h1 : (L.D.safe.length : Int) - 32 ≤ i
      · rw [if_pos (.inr h1)]
        go_enter Tryz.func44, Tryz.ntmps44
        go_wp2_with fail
        refine HH.out.mono ?_
        rintro e w1 ⟨rfl, rfl⟩
        go_wp2_with fail
        go_ret
        exact ⟨rfl, rfl⟩
      · rw [if_neg (by omega)]
        go_enter Tryz.func44, Tryz.ntmps44
        go_wp2_with fail
        refine HH.out.mono ?_
        rintro e w1 ⟨rfl, rfl⟩
        go_wp2_with fail
        go_ret
        exact ⟨rfl, rfl⟩
end
end Go.Proofs.YtchilnjocnkodaaGreat
