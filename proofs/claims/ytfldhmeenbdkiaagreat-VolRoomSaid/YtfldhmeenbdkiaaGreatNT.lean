/- A file is read. -/
import Derived.Test.YtfldhmeenbdkiaaGreatMN
import Derived.Test.YtfldhmeenbdkiaaGreatMF
namespace Go.Proofs.YtfldhmeenbdkiaaGreat
open Go.RowKit Go.Shelf

attribute [local go_sem] Oper.semAt_some

def rdL (L : LSt) (x : Ino) (k : Nat) : List UInt8 := (List.range k).flatMap fun j => (vget L (vat L x j)).data.toList
theorem rdL_succ (L : LSt) (x : Ino) (k : Nat) : rdL L x (k + 1) = rdL L x k ++ (vget L (vat L x k)).data.toList := by unfold rdL; rw [List.range_succ, List.flatMap_append]; simp
theorem rdL_length {L : LSt} (h : VOk L) (x : Ino) (k : Nat) : (rdL L x k).length = 64 * k := by
  induction k with
  | zero => rfl
  | succ k ih => rw [rdL_succ, List.length_append, ih, bytes_len, vget_size h]; omega
theorem rdL_bytes (L : LSt) (x : Ino) (k : Nat) : (List.range k).foldl (fun b k => b ++ vget L (vat L x k)) ByteArray.empty = ⟨(rdL L x k).toArray⟩ := by
  induction k with
  | zero => rfl
  | succ k ih =>
    rw [List.range_succ, List.foldl_append, ih, rdL_succ]
    show (⟨(rdL L x k).toArray⟩ : ByteArray) ++ vget L (vat L x k) = _
    apply ByteArray.ext
    rw [ByteArray.data_append]
    apply Array.ext'
    simp
theorem vread_find {L : LSt} {n off many : Int} (h : vfindE L n ≠ 0) : vreadE L n off many = vfindE L n ∧ vreadS L n off many = ByteArray.empty := by
  have e : vreadE L n off many = vfindE L n := by unfold vreadE; rw [if_pos h]
  refine ⟨e, ?_⟩
  unfold vreadS
  rw [if_pos (by rw [e]; exact h)]
theorem vread_arg {L : LSt} {n off many : Int} (h : vfindE L n = 0) (h2 : off < 0 ∨ many < 0) : vreadE L n off many = 1 ∧ vreadS L n off many = ByteArray.empty := by
  have e : vreadE L n off many = 1 := by unfold vreadE; rw [if_neg (by simpa using h), if_pos h2]
  refine ⟨e, ?_⟩
  unfold vreadS
  rw [if_pos (by rw [e]; decide)]
theorem vread_ok {L : LSt} {n : Int} {off many : Nat} (h : vfindE L n = 0) : vreadE L n off many = 0 ∧
    vreadS L n off many = (let s := (vbytes L (vfindX L n)).extract 0 (vfindX L n).size; let o := min off s.size; s.extract o (o + min many (s.size - o))) := by
  have e : vreadE L n off many = 0 := by unfold vreadE; rw [if_neg (by simpa using h), if_neg (by omega)]
  refine ⟨e, ?_⟩
  unfold vreadS
  rw [if_neg (by rw [e]; decide), Int.toNat_natCast, Int.toNat_natCast]

section
variable {S0 : Nat → Prop} {w0 w : World} {v b d xb bv bx : Nat} {L : LSt} {B R : Asr} {x : Ino}
theorem bld_front {C : Asr} (h : Lv S0 w0 (Star R (AA v b d xb bv bx L x (Star C B))) w) : Lv S0 w0 (Star C (Star R (AA v b d xb bv bx L x B))) w :=
  h.map fun _ h => star_flip (star_right h fun _ h => star_flip (star_right h fun _ h => star_flip (star_right h fun _ h => star_flip (star_right h fun _ h => star_flip (star_right h fun _ h => star_flip (star_right h fun _ h => star_flip h))))))
theorem bld_back {C : Asr} (h : Lv S0 w0 (Star C (Star R (AA v b d xb bv bx L x B))) w) : Lv S0 w0 (Star R (AA v b d xb bv bx L x (Star C B))) w :=
  h.map fun _ h => star_right (star_flip h) fun _ h => star_right (star_flip h) fun _ h => star_right (star_flip h) fun _ h => star_right (star_flip h) fun _ h => star_right (star_flip h) fun _ h => star_right (star_flip h) fun _ h => star_flip h
theorem rd_cell {C : Asr} {n0 : Nat} (h : Lv S0 w0 (Star R (AA v b d xb bv bx L x (Star C (Star (blkA n0 tPVol [.pointer (some ⟨v, 0, none⟩)]) B)))) w) : Blk w n0 tPVol [.pointer (some ⟨v, 0, none⟩)] ∧ Blk w xb tIno (inoL x) := by
  obtain ⟨_, ⟨_, _, _, ⟨_, _, _, ⟨_, _, _, ⟨_, _, _, ⟨_, _, h1, ⟨_, _, _, ⟨_, _, _, ⟨_, _, _, ⟨_, _, h2, _⟩, _⟩, _⟩, _⟩, _⟩, _⟩, _⟩, _⟩, _⟩, _⟩ := h
  exact ⟨h2.1, h1.1⟩
end
end Go.Proofs.YtfldhmeenbdkiaaGreat
