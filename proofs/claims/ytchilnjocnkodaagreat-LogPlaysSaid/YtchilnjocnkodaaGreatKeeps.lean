/- What each act leaves of a disk's numbers. No program. -/
import Derived.Test.YtchilnjocnkodaaGreatDsk
namespace Go.Proofs.YtchilnjocnkodaaGreat

theorem write_keeps (D : DSt) (i : Int) (s : ByteArray) : (D.write i s).safe.length = D.safe.length ∧ (D.write i s).wait.length ≤ D.wait.length + 1 := by
  unfold DSt.write
  split
  · exact ⟨rfl, by omega⟩
  · split
    · exact ⟨rfl, by omega⟩
    · split
      · exact ⟨rfl, Nat.le_succ _⟩
      · exact ⟨rfl, by simp⟩
theorem flush_keeps (D : DSt) : D.flush.safe.length = D.safe.length ∧ D.flush.wait.length ≤ D.wait.length := by
  unfold DSt.flush
  split
  · exact ⟨rfl, Nat.le_refl _⟩
  · split
    · exact ⟨rfl, Nat.le_refl _⟩
    · exact ⟨puts_length _ _, Nat.zero_le _⟩
theorem crash_keeps (D : DSt) (k : Nat) : (D.crash k).safe.length = D.safe.length ∧ (D.crash k).wait.length = 0 := ⟨puts_length _ _, rfl⟩
theorem write_lives {D : DSt} (h0 : D.off = false) (h1 : D.power = -1) (i : Int) (s : ByteArray) : (D.write i s).off = false ∧ (D.write i s).power = -1 := by
  by_cases h : (i < 0 ∨ (D.safe.length : Int) ≤ i) ∨ s.size ≠ 64
  · rw [(DSt.write_bad h0 h).1]; exact ⟨h0, h1⟩
  · rw [(DSt.write_on h0 h1 (by omega) (by omega) (by omega)).1]; exact ⟨h0, h1⟩
theorem flush_lives {D : DSt} (h0 : D.off = false) (h1 : D.power = -1) : D.flush.off = false ∧ D.flush.power = -1 := by
  rw [(DSt.flush_on h0 h1).1]; exact ⟨h0, h1⟩
end Go.Proofs.YtchilnjocnkodaaGreat
