/- Free by what it means; how many sectors a size takes (the document's). -/
import Derived.Test.YtfldhmeenbdkiaaGreatDoorMR
import Derived.Test.YtfldhmeenbdkiaaGreatDoorVfA
namespace Go.Proofs.YtfldhmeenbdkiaaGreatDoor
open Go.RowKit

section
variable {S0 : Nat → Prop} {w0 w : World} {v b d m c : Nat} {A : Nat → Node} {B R : Asr}
theorem VW.more {c' : Nat} (h : VW c S0 w0 v b d m A B w) (hc : c ≤ c') : VW c' S0 w0 v b d m A B w := by
  obtain ⟨L, H, X, h1, h2, h3⟩ := h
  exact ⟨L, H, X, h1, h2, Nat.le_trans h3 hc⟩
/-- Free. -/
theorem w_free (h : VW c S0 w0 v b d m A B w) (hB : Loc B) (n : Int) : ∃ full c', (c ≤ 16 → full = false) ∧
    Calls Tryz.prog 20 #[.pointer (some ⟨v, 0, none⟩), .int .i64 n] w fun e w' => e = .returned (.int .i64 (afreeE A full n)) ∧ VW c' S0 w0 v b d m (afree A full n) B w' := by
  obtain ⟨L, H, X, h1, h2, h3⟩ := h
  obtain ⟨e1, e2, X', e3⟩ := h2.free n
  have := vFree_calls h1 hB h2.alv.vok n e2
  rw [e1] at this
  refine ⟨vfullB L, (vfree L n).stg.length, fun hc => h2.full16 (by omega), this.mono ?_⟩
  rintro e w' ⟨rfl, h'⟩
  exact ⟨rfl, _, H, X', h', e3, Nat.le_refl _⟩
theorem VW.home (h : VW c S0 w0 v b d m A B w) :
    Calls Tryz.prog 28 #[.pointer (some ⟨b, 0, none⟩)] w fun e w' => e = .returned (.int .i64 m) ∧ w = w' := by
  obtain ⟨L, H, X, h1, h2, h3⟩ := h
  have := lv_home (VV.gone h1)
  rw [h2.alv.calm.len, show (((32 + m : Nat) : Int) - 32) = (m : Int) by omega] at this
  exact this
/-- All home sectors but nine are taken or free. -/
theorem VW.all (h : VW c S0 w0 v b d m A B w) : sumT A 32 + aroom m A = m - 9 ∧ 16 ≤ m ∧ m ≤ 512 ∧ ∀ n, n < 32 → (A n).data.length ≤ 2368 := by
  obtain ⟨L, H, X, h1, h2, h3⟩ := h
  have h4 := h2.vol.room
  have h5 := h2.vol.aroom
  have hm := h2.alv.m16
  refine ⟨?_, hm.1, hm.2, fun n hn => ?_⟩
  · omega
  · rw [h2.vol.len hn]; exact (h2.vol.good n hn).size
theorem VW.nofree (h : VW c S0 w0 v b d m A B w) {n : Nat} (hn : n < 32) (h0 : (A n).kind = 0) : (A n).data.length = 0 := by
  obtain ⟨L, H, X, h1, h2, h3⟩ := h
  rw [h2.vol.len hn]
  rw [h2.vol.kind hn] at h0
  rw [(h2.vol.good n hn).free h0]; rfl
end
end Go.Proofs.YtfldhmeenbdkiaaGreatDoor
