/- The disk's calls, whole: for every argument, every state. -/
import Derived.Test.YtchilnjocnkodaaGreatSame
import Derived.Test.YtchilnjocnkodaaGreatSep
namespace Go.Proofs.YtchilnjocnkodaaGreat
open Go.RowKit

def dskA (K : Kd) (b : Nat) (D : DSt) : Asr := fun w S => IsDsk K w b S D
theorem loc_dsk (K : Kd) (b : Nat) (D : DSt) : Loc (dskA K b D) := fun _ _ _ _ h hf hT => IsDsk.fr h hf hT

theorem d_write {b : Nat} {D : DSt} {w : World} (i : Int) (s : ByteArray) (hl : (D.wait.length + 1) * 24 ≤ 140737488355328) :
    Tri Tryz.prog 54 #[.pointer (some ⟨b, 0, none⟩), .int .i64 i, .string s] w (dskA kD b D) (fun e => e = .returned (.int .i64 (D.writeE i s))) (dskA kD b (D.write i s)) := by
  intro S h _
  unfold DSt.writeE DSt.write
  by_cases h1 : D.off = true
  · rw [if_pos h1, if_pos h1]
    exact (write_off h h1 i s).mono fun e w' ⟨he, hw⟩ => ⟨he, by subst hw; exact h.mono (fun _ h => .inl h), by subst hw; exact Fr.refl _ _⟩
  · have h1' : D.off = false := by simpa using h1
    rw [if_neg h1, if_neg h1]
    by_cases h2 : (i < 0 ∨ (D.safe.length : Int) ≤ i) ∨ s.size ≠ 64
    · rw [if_pos h2, if_pos h2]
      exact (write_arg h h1' i s h2).mono fun e w' ⟨he, hw⟩ => ⟨he, by subst hw; exact h.mono (fun _ h => .inl h), by subst hw; exact Fr.refl _ _⟩
    · rw [if_neg h2, if_neg h2]
      have h3 : 0 ≤ i := by omega
      have h4 : i < D.safe.length := by omega
      have h5 : s.size = 64 := by omega
      by_cases h6 : D.power = 0
      · rw [if_pos h6, if_pos h6]
        exact (write_dead h h1' i s h3 h4 h5 h6).mono fun e w' ⟨he, hd, hf⟩ => ⟨he, hd.mono (fun _ h => .inl h), hf⟩
      · rw [if_neg h6, if_neg h6]
        obtain ⟨j, rfl⟩ := Int.eq_ofNat_of_zero_le h3
        rw [Int.toNat_natCast]
        exact write_ok h h1' j s (by omega) h5 h6 hl

theorem d_flush {b : Nat} {D : DSt} {w : World} (hl : D.wait.length * 24 ≤ 140737488355328) :
    Tri Tryz.prog 76 #[.pointer (some ⟨b, 0, none⟩)] w (dskA kD b D) (fun e => e = .returned (.int .i64 D.flushE)) (dskA kD b D.flush) := by
  intro S h _
  unfold DSt.flushE DSt.flush
  by_cases h1 : D.off = true
  · rw [if_pos h1, if_pos h1]
    exact (flush_off h h1).mono fun e w' ⟨he, hw⟩ => ⟨he, by subst hw; exact h.mono (fun _ h => .inl h), by subst hw; exact Fr.refl _ _⟩
  · have h1' : D.off = false := by simpa using h1
    rw [if_neg h1, if_neg h1]
    by_cases h6 : D.power = 0
    · rw [if_pos h6, if_pos h6]
      exact (flush_dead h h1' h6).mono fun e w' ⟨he, hd, hf⟩ => ⟨he, hd.mono (fun _ h => .inl h), hf⟩
    · rw [if_neg h6, if_neg h6]
      exact (flush_ok h h1' h6 hl).mono fun e w' ⟨he, hd, hf⟩ => ⟨he, hd.mono (fun _ h => .inl h), hf⟩

theorem d_read {b : Nat} {D : DSt} {w : World} (i : Int) (hl : D.wait.length * 24 ≤ 140737488355328) :
    Tri Tryz.prog 28 #[.pointer (some ⟨b, 0, none⟩), .int .i64 i] w (dskA kD b D) (fun e => e = .returned (.tuple #[.string (D.readS i), .int .i64 (D.readE i)])) (dskA kD b D) := by
  intro S h _
  unfold DSt.readS DSt.readE
  have fin : ∀ (w' : World), Fr Nob w w' → IsDsk kD w' b (Plus S w w') D ∧ Fr S w w' := fun w' hf => ⟨(h.fr hf (fun _ _ h => h)).mono (fun _ h => .inl h), hf.none⟩
  by_cases h1 : D.off = true
  · rw [if_pos h1, if_pos h1]
    exact (read_off h h1 i).mono fun e w' ⟨he, hw⟩ => ⟨he, fin w' hw⟩
  · have h1' : D.off = false := by simpa using h1
    rw [if_neg h1, if_neg h1]
    by_cases h2 : i < 0 ∨ (D.safe.length : Int) ≤ i
    · rw [if_pos h2, if_pos h2]
      exact (read_arg h h1' i h2).mono fun e w' ⟨he, hw⟩ => ⟨he, fin w' hw⟩
    · rw [if_neg h2, if_neg h2]
      obtain ⟨j, rfl⟩ := Int.eq_ofNat_of_zero_le (show 0 ≤ i by omega)
      rw [Int.toNat_natCast]
      exact (read_ok h h1' j (by omega) (by omega)).mono fun e w' ⟨he, hw⟩ => ⟨he, fin w' hw⟩

theorem d_power {b : Nat} {D : DSt} {w : World} (n : Int) (hn : n ≤ 9223372036854775807) :
    Tri Tryz.prog 8 #[.pointer (some ⟨b, 0, none⟩), .int .i64 n] w (dskA kD b D) (fun e => e = .returned (.tuple #[])) (dskA kD b (D.setPower n)) := by
  intro S h _
  exact (power_calls h n hn).mono fun e w' ⟨he, hd, hf⟩ => ⟨he, hd.mono (fun _ h => .inl h), hf⟩

theorem d_crash {b : Nat} {D : DSt} {w : World} (keep : Nat) (hk : keep < 18446744073709551616) (hl : D.wait.length ≤ 9223372036854775807) :
    Tri Tryz.prog 10 #[.pointer (some ⟨b, 0, none⟩), .int .u64 keep] w (dskA kD b D) (fun e => e = .returned (.tuple #[])) (dskA kD b (D.crash keep)) := by
  intro S h _
  exact (crash_calls h keep hk hl).mono fun e w' ⟨he, hd, hf⟩ => ⟨he, hd.mono (fun _ h => .inl h), hf⟩
end Go.Proofs.YtchilnjocnkodaaGreat
