/- The document's disk's calls, whole: for every argument, every state. -/
import Derived.Test.YtchilnjocnkodaaGreatDskT
import Derived.Test.YtchilnjocnkodaaGreatRefE
namespace Go.Proofs.YtchilnjocnkodaaGreat
open Go.RowKit

theorem r_write {b : Nat} {D : DSt} {w : World} (i : Int) (s : ByteArray) (hl : (D.wait.length + 1) * 24 ≤ 140737488355328) :
    Tri Tryz.prog 57 #[.pointer (some ⟨b, 0, none⟩), .int .i64 i, .string s] w (dskA kR b D) (fun e => e = .returned (.int .i64 (D.writeE i s))) (dskA kR b (D.write i s)) := by
  intro S h _
  unfold DSt.writeE DSt.write
  by_cases h1 : D.off = true
  · rw [if_pos h1, if_pos h1]
    exact (rwrite_off h h1 i s).mono fun e w' ⟨he, hw⟩ => ⟨he, by subst hw; exact h.mono (fun _ h => .inl h), by subst hw; exact Fr.refl _ _⟩
  · have h1' : D.off = false := by simpa using h1
    rw [if_neg h1, if_neg h1]
    by_cases h2 : (i < 0 ∨ (D.safe.length : Int) ≤ i) ∨ s.size ≠ 64
    · rw [if_pos h2, if_pos h2]
      exact (rwrite_arg h h1' i s h2).mono fun e w' ⟨he, hw⟩ => ⟨he, by subst hw; exact h.mono (fun _ h => .inl h), by subst hw; exact Fr.refl _ _⟩
    · rw [if_neg h2, if_neg h2]
      have h3 : 0 ≤ i := by omega
      have h4 : i < D.safe.length := by omega
      have h5 : s.size = 64 := by omega
      by_cases h6 : D.power = 0
      · rw [if_pos h6, if_pos h6]
        exact (rwrite_dead h h1' i s h3 h4 h5 h6).mono fun e w' ⟨he, hd, hf⟩ => ⟨he, hd.mono (fun _ h => .inl h), hf⟩
      · rw [if_neg h6, if_neg h6]
        obtain ⟨j, rfl⟩ := Int.eq_ofNat_of_zero_le h3
        rw [Int.toNat_natCast]
        exact rwrite_ok h h1' j s (by omega) h5 h6 hl

theorem r_flush {b : Nat} {D : DSt} {w : World} (hl : D.wait.length * 24 ≤ 140737488355328) :
    Tri Tryz.prog 58 #[.pointer (some ⟨b, 0, none⟩)] w (dskA kR b D) (fun e => e = .returned (.int .i64 D.flushE)) (dskA kR b D.flush) := by
  intro S h _
  unfold DSt.flushE DSt.flush
  by_cases h1 : D.off = true
  · rw [if_pos h1, if_pos h1]
    exact (rflush_off h h1).mono fun e w' ⟨he, hw⟩ => ⟨he, by subst hw; exact h.mono (fun _ h => .inl h), by subst hw; exact Fr.refl _ _⟩
  · have h1' : D.off = false := by simpa using h1
    rw [if_neg h1, if_neg h1]
    by_cases h6 : D.power = 0
    · rw [if_pos h6, if_pos h6]
      exact (rflush_dead h h1' h6).mono fun e w' ⟨he, hd, hf⟩ => ⟨he, hd.mono (fun _ h => .inl h), hf⟩
    · rw [if_neg h6, if_neg h6]
      exact (rflush_ok h h1' h6 hl).mono fun e w' ⟨he, hd, hf⟩ => ⟨he, hd.mono (fun _ h => .inl h), hf⟩

theorem r_read {b : Nat} {D : DSt} {w : World} (i : Int) (hl : D.wait.length * 24 ≤ 140737488355328) :
    Tri Tryz.prog 33 #[.pointer (some ⟨b, 0, none⟩), .int .i64 i] w (dskA kR b D) (fun e => e = .returned (.tuple #[.string (D.readS i), .int .i64 (D.readE i)])) (dskA kR b D) := by
  intro S h _
  unfold DSt.readS DSt.readE
  have fin : ∀ (w' : World), Fr Nob w w' → IsDsk kR w' b (Plus S w w') D ∧ Fr S w w' := fun w' hf => ⟨(h.fr hf (fun _ _ h => h)).mono (fun _ h => .inl h), hf.none⟩
  by_cases h1 : D.off = true
  · rw [if_pos h1, if_pos h1]
    exact (rread_off h h1 i).mono fun e w' ⟨he, hw⟩ => ⟨he, fin w' (by subst hw; exact Fr.refl _ _)⟩
  · have h1' : D.off = false := by simpa using h1
    rw [if_neg h1, if_neg h1]
    by_cases h2 : i < 0 ∨ (D.safe.length : Int) ≤ i
    · rw [if_pos h2, if_pos h2]
      exact (rread_arg h h1' i h2).mono fun e w' ⟨he, hw⟩ => ⟨he, fin w' (by subst hw; exact Fr.refl _ _)⟩
    · rw [if_neg h2, if_neg h2]
      obtain ⟨j, rfl⟩ := Int.eq_ofNat_of_zero_le (show 0 ≤ i by omega)
      rw [Int.toNat_natCast]
      exact (rread_ok h h1' j (by omega) (by omega)).mono fun e w' ⟨he, hw⟩ => ⟨he, fin w' (by subst hw; exact Fr.refl _ _)⟩

theorem r_power {b : Nat} {D : DSt} {w : World} (n : Int) (hn : n ≤ 9223372036854775807) :
    Tri Tryz.prog 9 #[.pointer (some ⟨b, 0, none⟩), .int .i64 n] w (dskA kR b D) (fun e => e = .returned (.tuple #[])) (dskA kR b (D.setPower n)) := by
  intro S h _
  exact (rpower_calls h n hn).mono fun e w' ⟨he, hd, hf⟩ => ⟨he, hd.mono (fun _ h => .inl h), hf⟩

theorem r_crash {b : Nat} {D : DSt} {w : World} (keep : Nat) (hk : keep < 18446744073709551616) (hl : D.wait.length ≤ 9223372036854775807) :
    Tri Tryz.prog 11 #[.pointer (some ⟨b, 0, none⟩), .int .u64 keep] w (dskA kR b D) (fun e => e = .returned (.tuple #[])) (dskA kR b (D.crash keep)) := by
  intro S h _
  exact (rcrash_calls h keep hk hl).mono fun e w' ⟨he, hd, hf⟩ => ⟨he, hd.mono (fun _ h => .inl h), hf⟩
end Go.Proofs.YtchilnjocnkodaaGreat
