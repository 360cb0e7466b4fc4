/- Blocks of cells, what a call may turn, and what stays: plain words on worlds, no program. -/
import Derived.WalkKit
import Derived.ProofKit
import Derived.StillTailTactics
import Derived.Deep.QuietTactic
import Derived.BigQuiet
import Derived.Outline
import Derived.Lib.Hide
namespace Go.Proofs.YtchilnjocnkodaaGreat
open Go.RowKit

/-- Block b holds just these cells, of element type e, none frozen. -/
def Blk (w : World) (b : Nat) (e : TypeId) (cs : List Value) : Prop := w.heap[b]? = some (.cells cs.toArray e (0, 0))

section
variable {w w' : World} {b c e f j : Nat} {cs ds : List Value} {v u : Value}
theorem Blk.lt (h : Blk w b e cs) : b < w.heap.size := lt_of_block h
theorem Blk.cell (h : Blk w b e cs) (hj : cs[j]? = some v) : w.cell? ⟨b, j, none⟩ = some v := by
  rw [cell_of_row w b j _ e _ h]; simpa using hj
theorem Blk.free (h : Blk w b e cs) (j : Nat) : w.frozen? ⟨b, j, none⟩ = false := frozen_of_row w b j _ e h
theorem Blk.set (h : Blk w b e cs) (j : Nat) (v : Value) : Blk (w.setCell ⟨b, j, none⟩ v) b e (cs.set j v) := by
  have := heap_setCell_same w b j _ e v h
  simpa [Blk] using this
theorem Blk.set_ne (h : Blk w b e cs) (hne : b ≠ c) (j : Nat) (v : Value) : Blk (w.setCell ⟨c, j, none⟩ v) b e cs :=
  (heap_setCell_other w ⟨c, j, none⟩ b v hne).trans h
theorem Blk.alloc (h : Blk w b e cs) (o : Obj) : Blk (w.alloc o) b e cs := (Below.heap_alloc w o b h.lt).trans h
theorem Blk.drew (h : Blk w b e cs) : Blk w.drew b e cs := h
theorem Blk.drewN (h : Blk w b e cs) (n : Nat) : Blk (w.drewN n) b e cs := h
theorem Blk.new (w : World) (e : Nat) (cs : List Value) : Blk (w.alloc (.cells cs.toArray e)) w.heap.size e cs := heap_alloc_new w _
theorem Blk.ne (h : Blk w b e cs) (k : Blk w c f ds) (hne : e ≠ f) : b ≠ c := by
  intro hbc; subst hbc
  unfold Blk at h k
  rw [h] at k; simp at k
  exact hne k.2
end

/-- What a call leaves: the blocks that were there are as they were, but for those of S. -/
structure Fr (S : Nat → Prop) (w w' : World) : Prop where
  os : w'.os = w.os
  tape : w'.tape = w.tape
  output : w'.output = w.output
  size : w.heap.size ≤ w'.heap.size
  block : ∀ k, k < w.heap.size → ¬ S k → w'.heap[k]? = w.heap[k]?

/-- No block. -/
def Nob : Nat → Prop := fun _ => False
/-- The blocks of S, and those that are new. -/
def Plus (S : Nat → Prop) (w w' : World) : Nat → Prop := fun k => S k ∨ (w.heap.size ≤ k ∧ k < w'.heap.size)

section
variable {S T : Nat → Prop} {w w1 w' : World}
theorem Fr.refl (S : Nat → Prop) (w : World) : Fr S w w := ⟨rfl, rfl, rfl, Nat.le_refl _, fun _ _ _ => rfl⟩
theorem Fr.trans' (h : Fr S w w1) (k : Fr T w1 w') (hT : ∀ i, i < w.heap.size → T i → S i) : Fr S w w' :=
  ⟨k.os.trans h.os, k.tape.trans h.tape, k.output.trans h.output, Nat.le_trans h.size k.size,
    fun i hi hs => (k.block i (Nat.lt_of_lt_of_le hi h.size) (fun t => hs (hT i hi t))).trans (h.block i hi hs)⟩
theorem Fr.trans (h : Fr S w w1) (k : Fr S w1 w') : Fr S w w' := h.trans' k fun _ _ t => t
theorem Fr.mono (h : Fr S w w') (hS : ∀ k, S k → T k) : Fr T w w' := ⟨h.os, h.tape, h.output, h.size, fun k hk hn => h.block k hk (fun s => hn (hS k s))⟩
theorem Fr.none (h : Fr Nob w w') : Fr T w w' := h.mono fun _ h => h.elim
theorem Fr.plus (h : Fr S w w1) (k : Fr (Plus S w w1) w1 w') : Fr S w w' :=
  h.trans' k fun _ hi t => t.elim id fun t => absurd t.1 (Nat.not_le_of_lt hi)
theorem Fr.setCell {b : Nat} (hb : S b) (w : World) (j : Nat) (v : Value) : Fr S w (w.setCell ⟨b, j, .none⟩ v) :=
  ⟨rfl, rfl, rfl, by simp, fun k _ hk => heap_setCell_other w _ k v (fun e => hk (by rw [e]; exact hb))⟩
theorem Fr.set (h : Fr S w w1) {b : Nat} (hb : S b ∨ w.heap.size ≤ b) (j : Nat) (v : Value) : Fr S w (w1.setCell ⟨b, j, .none⟩ v) :=
  h.trans' (T := fun k => k = b) ⟨rfl, rfl, rfl, by simp, fun k _ hk => heap_setCell_other w1 _ k v hk⟩
    fun i hi e => by subst e; rcases hb with hb | hb; exact hb; omega
theorem Fr.alloc (h : Fr S w w1) (o : Obj) : Fr S w (w1.alloc o) :=
  h.trans ⟨rfl, rfl, rfl, by simp, fun k hk _ => Below.heap_alloc w1 o k hk⟩
theorem Fr.drew (h : Fr S w w1) : Fr S w w1.drew := ⟨h.os, h.tape, h.output, h.size, h.block⟩
theorem Fr.drewN (h : Fr S w w1) (n : Nat) : Fr S w (w1.drewN n) := ⟨h.os, h.tape, h.output, h.size, h.block⟩
theorem Fr.grown {row : Option Nat} (h : Fr S w w1) (hg : w1.grownBy w' row) (hr : ∀ k, row = some k → S k ∨ w.heap.size ≤ k) : Fr S w w' :=
  h.trans' (T := fun k => row = some k) ⟨hg.os, hg.tape, hg.output, hg.size, fun k hk hn => hg.block k hk (fun e => hn e.symm)⟩
    fun i _ e => by rcases hr i e with h | h; exact h; omega
theorem Fr.below (h : Fr S w w') (B : Nat) (hB : B ≤ w.heap.size) (hS : ∀ k, S k → B ≤ k) : Below B w w' :=
  ⟨h.os, h.tape, h.output, h.size, fun k hk => h.block k (Nat.lt_of_lt_of_le hk hB) (fun s => by have := hS k s; omega)⟩
theorem Fr.of_below {B : Nat} (h : Below B w w') (hS : ∀ k, k < w.heap.size → ¬ S k → k < B) : Fr S w w' :=
  ⟨h.os, h.tape, h.output, h.size, fun k hk hn => h.block k (hS k hk hn)⟩
theorem Blk.fr {b e : Nat} {cs : List Value} (h : Blk w b e cs) (hf : Fr S w w') (hb : ¬ S b) : Blk w' b e cs := (hf.block b h.lt hb).trans h
end

theorem Fr.cell {S : Nat → Prop} {w w' : World} (hf : Fr S w w') {a : Addr} {v : Value} (h : w.cell? a = some v) (hS : ¬ S a.block) : w'.cell? a = some v :=
  (World.cell?_of_block (w := w) (hf.block _ (World.block_lt_of_cell? _ _ h) hS)).trans h
theorem Fr.free {S : Nat → Prop} {w w' : World} (hf : Fr S w w') {a : Addr} {v : Value} (h : w.cell? a = some v) (hS : ¬ S a.block) : w'.frozen? a = w.frozen? a :=
  World.frozen?_of_block (w := w) (hf.block _ (World.block_lt_of_cell? _ _ h) hS)

/-- A row that a slice value owns, wherever it lies: stays where its block is not turned. -/
theorem row_fr {S : Nat → Prop} {w w' : World} {e size n : Nat} {v : Value} {xs : List Value} (h : w.ownsRow 0 e size v n xs) (hf : Fr S w w')
    (hb : ∀ k, v.ownBlock = some k → ¬ S k) : w'.ownsRow 0 e size v n xs := by
  refine ⟨h.1, ?_⟩
  rcases h.2 with hn | ⟨g, cap, cur, rfl, hb0, hgg, rest⟩
  · exact .inl hn
  · exact .inr ⟨g, cap, cur, rfl, hb0, (hf.block g (lt_of_block hgg) (hb g rfl)).trans hgg, rest⟩

end Go.Proofs.YtchilnjocnkodaaGreat
