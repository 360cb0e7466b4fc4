/- The calls of a volume by what they mean, its log's state named: what was committed, what is staged. -/
import Derived.Test.YtfldhmeenbdkiaaGreatDoorVxB
namespace Go.Proofs.YtfldhmeenbdkiaaGreatDoor
open Go.RowKit

section
/-- A volume on the machine, its log's state L: its home sectors are the nodes A with what is staged, the nodes A0 without. -/
def VL (S0 : Nat → Prop) (w0 : World) (v b d m : Nat) (A A0 : Nat → Node) (L : LSt) (B : Asr) (w : World) : Prop :=
  VV S0 w0 v b d L B w ∧ ∃ H X, VolL m H X A L ∧ IsVol m H A0

variable {S0 : Nat → Prop} {w0 w : World} {v b d m : Nat} {A A0 : Nat → Node} {L : LSt} {B R : Asr}
theorem VL.vw (h : VL S0 w0 v b d m A A0 L B w) : VW L.stg.length S0 w0 v b d m A B w := by
  obtain ⟨h1, H, X, h2, _⟩ := h
  exact ⟨L, H, X, h1, h2, Nat.le_refl _⟩
theorem VL.full (h : VL S0 w0 v b d m A A0 L B w) : vfullB L = decide (16 < L.count) := rfl
theorem l_staged (h : VL S0 w0 v b d m A A0 L B w) :
    Calls Tryz.prog 30 #[.pointer (some ⟨b, 0, none⟩)] w fun e w' => e = .returned (.int .i64 L.count) ∧ w = w' := by
  obtain ⟨h1, H, X, h2, h3⟩ := h
  exact lv_staged (VV.gone h1)
theorem l_new (h : VL S0 w0 v b d m A A0 L B w) (hB : Loc B) (kind : Int) :
    Calls Tryz.prog 19 #[.pointer (some ⟨v, 0, none⟩), .int .i64 kind] w fun e w' => e = .returned (.tuple #[.int .i64 (if anewE A (vfullB L) kind = 0 then (anewN A : Int) else 0), .int .i64 (anewE A (vfullB L) kind)]) ∧ ∃ L', VL S0 w0 v b d m (anew A (vfullB L) kind) A0 L' B w' := by
  obtain ⟨h1, H, X, h2, h3⟩ := h
  obtain ⟨e1, e2, X', e3⟩ := h2.new kind
  have hr : newR L kind = if anewE A (vfullB L) kind = 0 then (anewN A : Int) else 0 := by
    unfold newR
    rw [e1]
    split
    · rename_i h0; rw [e2 (e1.trans h0)]
    · rfl
  have := vnew_calls h1 hB h2.alv.vok kind
  rw [e1, hr] at this
  refine this.mono ?_
  rintro e w' ⟨rfl, h'⟩
  exact ⟨rfl, _, h', H, X', e3, h3⟩
theorem l_write (h : VL S0 w0 v b d m A A0 L B w) (hB : Loc B) (n off : Int) (s : ByteArray) :
    Calls Tryz.prog 22 #[.pointer (some ⟨v, 0, none⟩), .int .i64 n, .int .i64 off, .string s] w fun e w' => e = .returned (.int .i64 (awriteE m A (vfullB L) n off s)) ∧ ∃ L', VL S0 w0 v b d m (awrite m A (vfullB L) n off s) A0 L' B w' := by
  obtain ⟨h1, H, X, h2, h3⟩ := h
  obtain ⟨e1, X', e3⟩ := h2.write n off s
  have := vwrite_calls h1 hB h2.alv.vok n off s
  rw [e1] at this
  refine this.mono ?_
  rintro e w' ⟨rfl, h'⟩
  exact ⟨rfl, _, h', H, X', e3, h3⟩
theorem l_cut (h : VL S0 w0 v b d m A A0 L B w) (hB : Loc B) (n size : Int) :
    Calls Tryz.prog 23 #[.pointer (some ⟨v, 0, none⟩), .int .i64 n, .int .i64 size] w fun e w' => e = .returned (.int .i64 (acutE A (vfullB L) n size)) ∧ ∃ L', VL S0 w0 v b d m (acut A (vfullB L) n size) A0 L' B w' := by
  obtain ⟨h1, H, X, h2, h3⟩ := h
  obtain ⟨e1, e2, X', e3⟩ := h2.cut n size
  have := vCut_calls h1 hB h2.alv.vok n size e2
  rw [e1] at this
  refine this.mono ?_
  rintro e w' ⟨rfl, h'⟩
  exact ⟨rfl, _, h', H, X', e3, h3⟩
theorem l_link (h : VL S0 w0 v b d m A A0 L B w) (hB : Loc B) (n by_ : Int) :
    Calls Tryz.prog 21 #[.pointer (some ⟨v, 0, none⟩), .int .i64 n, .int .i64 by_] w fun e w' => e = .returned (.int .i64 (alinkE A (vfullB L) n by_)) ∧ ∃ L', VL S0 w0 v b d m (alink A (vfullB L) n by_) A0 L' B w' := by
  obtain ⟨h1, H, X, h2, h3⟩ := h
  obtain ⟨e1, X', e3⟩ := h2.link n by_
  have := vlink_calls h1 hB h2.alv.vok n by_
  rw [e1] at this
  refine this.mono ?_
  rintro e w' ⟨rfl, h'⟩
  exact ⟨rfl, _, h', H, X', e3, h3⟩
theorem l_free (h : VL S0 w0 v b d m A A0 L B w) (hB : Loc B) (n : Int) :
    Calls Tryz.prog 20 #[.pointer (some ⟨v, 0, none⟩), .int .i64 n] w fun e w' => e = .returned (.int .i64 (afreeE A (vfullB L) n)) ∧ ∃ L', VL S0 w0 v b d m (afree A (vfullB L) n) A0 L' B w' := by
  obtain ⟨h1, H, X, h2, h3⟩ := h
  obtain ⟨e1, e2, X', e3⟩ := h2.free n
  have := vFree_calls h1 hB h2.alv.vok n e2
  rw [e1] at this
  refine this.mono ?_
  rintro e w' ⟨rfl, h'⟩
  exact ⟨rfl, _, h', H, X', e3, h3⟩
theorem l_stat (h : VL S0 w0 v b d m A A0 L B w) (hB : Loc B) (n : Int) :
    Calls Tryz.prog 13 #[.pointer (some ⟨v, 0, none⟩), .int .i64 n] w fun e w' => e = .returned (.tuple #[if afindE A n = 0 then nstatV (A n.toNat) else nstatV Node.free, .int .i64 (afindE A n)]) ∧ VL S0 w0 v b d m A A0 L B w' := by
  obtain ⟨h1, H, X, h2, h3⟩ := h
  obtain ⟨e1, e2, e3⟩ := h2.stat n
  have := vstat_calls h1 hB h2.alv.vok n
  rw [e1] at this
  have hs : statV (vfindX L n) = if afindE A n = 0 then nstatV (A n.toNat) else nstatV Node.free := by
    by_cases h0 : afindE A n = 0
    · obtain ⟨q1, q2, q3⟩ := e2 h0
      rw [if_pos h0]
      unfold statV nstatV statL
      rw [q1, q2, q3]
    · rw [if_neg h0, e3 h0]; rfl
  rw [hs] at this
  refine this.mono ?_
  rintro e w' ⟨rfl, h'⟩
  exact ⟨rfl, h', H, X, h2, h3⟩
theorem l_read (h : VL S0 w0 v b d m A A0 L B w) (hB : Loc B) (n off many : Int) :
    Calls Tryz.prog 15 #[.pointer (some ⟨v, 0, none⟩), .int .i64 n, .int .i64 off, .int .i64 many] w fun e w' => e = .returned (.tuple #[.string (areadB A n off many), .int .i64 (areadE A n off many)]) ∧ VL S0 w0 v b d m A A0 L B w' := by
  obtain ⟨h1, H, X, h2, hq⟩ := h
  obtain ⟨e1, e2, e3⟩ := h2.read n off many
  have := vread_calls h1 hB h2.alv.vok n off many e3
  have hs : vreadS L n off many = areadB A n off many := by
    unfold areadB
    rw [← e2]
  rw [e1, hs] at this
  refine this.mono ?_
  rintro e w' ⟨rfl, h'⟩
  exact ⟨rfl, h', H, X, h2, hq⟩
theorem l_room (h : VL S0 w0 v b d m A A0 L B w) (hB : Loc B) :
    Calls Tryz.prog 17 #[.pointer (some ⟨v, 0, none⟩)] w fun e w' => e = .returned (.tuple #[.int .i64 (aroom m A), .int .i64 0]) ∧ VL S0 w0 v b d m A A0 L B w' := by
  obtain ⟨h1, H, X, h2, h3⟩ := h
  obtain ⟨e1, e2⟩ := h2.room
  have := vRoom_calls h1 hB h2.alv.vok
  rw [e1, if_pos rfl, e2] at this
  refine this.mono ?_
  rintro e w' ⟨rfl, h'⟩
  exact ⟨rfl, h', H, X, h2, h3⟩
theorem l_commit (h : VL S0 w0 v b d m A A0 L B w) (hB : Loc B) :
    Calls Tryz.prog 26 #[.pointer (some ⟨b, 0, none⟩)] w fun e w' => e = .returned (.int .i64 0) ∧ ∃ L', L'.stg = [] ∧ VL S0 w0 v b d m A A L' B w' := by
  obtain ⟨h1, H, X, h2, h3⟩ := h
  obtain ⟨c1, c2, c3, c4⟩ := h2.commit
  have := VV.commit h1 hB h2.alv.vok
  rw [c1] at this
  refine this.mono ?_
  rintro e w' ⟨rfl, h'⟩
  exact ⟨rfl, L.commit, c2, h', X, X, c4 ((VV.gone h').vok c2 (by omega)), h2.vol⟩
theorem l_abort (h : VL S0 w0 v b d m A A0 L B w) (hB : Loc B) :
    Calls Tryz.prog 32 #[.pointer (some ⟨b, 0, none⟩)] w fun e w' => e = .returned (.tuple #[]) ∧ ∃ L', VL S0 w0 v b d m A0 A0 L' B w' := by
  obtain ⟨h1, H, X, h2, h3⟩ := h
  refine (lv_abort h1 (VV.locB hB)).mono ?_
  rintro e w' ⟨rfl, h'⟩
  have h4 : VV S0 w0 v b d L.abort B w' := h'
  exact ⟨rfl, L.abort, h4, H, H, h2.abort h3 ((VV.gone h4).vok rfl h2.alv.vok.wait), h3⟩
/-- It begins with a commit. -/
theorem VW.l_commit {c : Nat} (h : VW c S0 w0 v b d m A B w) (hB : Loc B) :
    Calls Tryz.prog 26 #[.pointer (some ⟨b, 0, none⟩)] w fun e w' => e = .returned (.int .i64 0) ∧ ∃ L', L'.stg = [] ∧ VL S0 w0 v b d m A A L' B w' := by
  obtain ⟨L, H, X, h1, h2, h3⟩ := h
  obtain ⟨c1, c2, c3, c4⟩ := h2.commit
  have := VV.commit h1 hB h2.alv.vok
  rw [c1] at this
  refine this.mono ?_
  rintro e w' ⟨rfl, h'⟩
  exact ⟨rfl, L.commit, c2, h', X, X, c4 ((VV.gone h').vok c2 (by omega)), h2.vol⟩
end
end Go.Proofs.YtfldhmeenbdkiaaGreatDoor
