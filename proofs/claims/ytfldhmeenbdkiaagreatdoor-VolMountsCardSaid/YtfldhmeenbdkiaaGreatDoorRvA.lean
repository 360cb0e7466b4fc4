/- The document's volume, as it lies. -/
import Derived.Test.YtfldhmeenbdkiaaGreatDoorVnA
import Derived.Test.YtfldhmeenbdkiaaGreatDoorVxB
import Derived.Test.YtfldhmeenbdkiaaGreatDoorVrT
namespace Go.Proofs.YtfldhmeenbdkiaaGreatDoor
open Go.RowKit

abbrev tRVol : Nat := 107
abbrev tRNode : Nat := 102
def dataB (a : Node) : ByteArray := ⟨a.data.toArray⟩
def nodeL (a : Node) : List Value := [.int .i64 a.kind, .int .i64 a.links, .string (dataB a)]
def nodesL (A : Nat → Node) (k : Nat) : List Value := (List.range k).flatMap fun i => nodeL (A i)
theorem dataB_size (a : Node) : (dataB a).size = a.data.length := by unfold dataB; simp [ByteArray.size]
theorem nodesL_succ (A : Nat → Node) (k : Nat) : nodesL A (k + 1) = nodesL A k ++ nodeL (A k) := by unfold nodesL; rw [List.range_succ, List.flatMap_append]; simp
theorem nodesL_length (A : Nat → Node) : ∀ k, (nodesL A k).length = k * 3
  | 0 => rfl
  | k + 1 => by rw [nodesL_succ, List.length_append, nodesL_length A k]; simp [nodeL]; omega
theorem nodesL_get (A : Nat → Node) {i j : Nat} (hj : j < 3) : ∀ k, i < k → (nodesL A k)[i * 3 + j]? = (nodeL (A i))[j]?
  | 0, h => by omega
  | k + 1, h => by
    rw [nodesL_succ]
    have hl := nodesL_length A k
    by_cases hi : i < k
    · rw [List.getElem?_append_left (by omega)]; exact nodesL_get A hj k hi
    · obtain rfl : i = k := by omega
      rw [List.getElem?_append_right (by omega), hl, Nat.add_sub_cancel_left]
/-- The document's volume: its struct, its row of nodes. -/
def rvA (r nb c : Nat) (sp : List Value) (m : Nat) (A : Nat → Node) : Asr := Star (blkA r tRVol [.int .i64 m, .slice (some ⟨nb, 0, none⟩) 32 c]) (blkA nb tRNode (nodesL A 32 ++ sp))
theorem loc_rv (r nb c : Nat) (sp : List Value) (m : Nat) (A : Nat → Node) : Loc (rvA r nb c sp m A) := loc_star (loc_blk _ _ _) (loc_blk _ _ _)
theorem nodes_at (A : Nat → Node) (sp : List Value) {i j : Nat} (hi : i < 32) (hj : j < 3) : (nodesL A 32 ++ sp)[i * 3 + j]? = (nodeL (A i))[j]? := by
  rw [List.getElem?_append_left (by rw [nodesL_length]; omega)]
  exact nodesL_get A hj 32 hi
/-- .. wherever its nodes lie. -/
def rvX (r m : Nat) (A : Nat → Node) : Asr := fun w S => ∃ nb c sp, rvA r nb c sp m A w S
theorem loc_rvX (r m : Nat) (A : Nat → Node) : Loc (rvX r m A) := fun w w' S T ⟨nb, c, sp, h⟩ hf hS => ⟨nb, c, sp, loc_rv _ _ _ _ _ _ w w' S T h hf hS⟩
theorem rvX_open {S0 : Nat → Prop} {w0 w : World} {r m : Nat} {A : Nat → Node} {B : Asr} (h : Lv S0 w0 (Star (rvX r m A) B) w) : ∃ nb c sp, Lv S0 w0 (Star (rvA r nb c sp m A) B) w := by
  obtain ⟨U, ⟨S, T, ⟨nb, c, sp, h1⟩, h2⟩, h3⟩ := h
  exact ⟨nb, c, sp, U, ⟨S, T, h1, h2⟩, h3⟩
theorem rvX_shut {S0 : Nat → Prop} {w0 w : World} {r nb c m : Nat} {sp : List Value} {A : Nat → Node} {B : Asr} (h : Lv S0 w0 (Star (rvA r nb c sp m A) B) w) : Lv S0 w0 (Star (rvX r m A) B) w :=
  h.map fun _ h => star_left h fun _ h => ⟨nb, c, sp, h⟩

section
variable {S0 : Nat → Prop} {w0 w : World} {r nb c m : Nat} {sp : List Value} {A : Nat → Node} {B R : Asr}
theorem rv_cells (h : Lv S0 w0 (Star (rvA r nb c sp m A) B) w) : w.cell? ⟨r, 0, none⟩ = some (.int .i64 m) ∧ w.cell? ⟨r, 1, none⟩ = some (.slice (some ⟨nb, 0, none⟩) 32 c) ∧
    ∀ i, i < 32 → w.cell? ⟨nb, i * 3, none⟩ = some (.int .i64 (A i).kind) ∧ w.cell? ⟨nb, i * 3 + 1, none⟩ = some (.int .i64 (A i).links) ∧ w.cell? ⟨nb, i * 3 + 2, none⟩ = some (.string (dataB (A i))) := by
  have h1 := (Lv.assoc h).blk
  have h2 := (Lv.drop (Lv.assoc h)).blk
  refine ⟨h1.cell (j := 0) rfl, h1.cell (j := 1) rfl, fun i hi => ⟨?_, ?_, ?_⟩⟩
  · have := h2.cell (j := i * 3 + 0) (by rw [nodes_at A sp hi (by omega)]; rfl)
    simpa using this
  · exact h2.cell (j := i * 3 + 1) (by rw [nodes_at A sp hi (by omega)]; rfl)
  · exact h2.cell (j := i * 3 + 2) (by rw [nodes_at A sp hi (by omega)]; rfl)
set_option maxRecDepth 100000 in
theorem rfind_calls (hL : Lv S0 w0 (Star (rvA r nb c sp m A) B) w) (n : Int) : Calls Tryz.prog 51 #[.pointer (some ⟨r, 0, none⟩), .int .i64 n] w fun e w' => e = .returned (.int .i64 (afindE A n)) ∧ w = w' := by
  obtain ⟨c0, c1, cn⟩ := rv_cells hL
  unfold afindE
  by_cases h0 : n < 0
  · rw [if_pos (.inl h0)]
    go_enter Tryz.func51, Tryz.ntmps51
    go_wp2_with fail
    go_ret
    exact ⟨rfl, rfl⟩
  · by_cases h1 : (31 : Int) < n
    · rw [if_pos (.inr (by omega))]
      go_enter Tryz.func51, Tryz.ntmps51
      go_wp2_with fail
      go_ret
      exact ⟨rfl, rfl⟩
    · rw [if_neg (by omega)]
      obtain ⟨k, rfl⟩ : ∃ k : Nat, n = k := ⟨n.toNat, by omega⟩
      have hk : k < 32 := by omega
      have hk2 : (k : Int) < 32 := by omega
      obtain ⟨d0, d1, d2⟩ := cn k hk
      rw [Int.toNat_natCast]
      clear cn hL
      by_cases hz : (A k).kind = 0
      · rw [if_pos hz]
        rw [hz] at d0
        go_enter Tryz.func51, Tryz.ntmps51
        go_wp2_with fail
        go_ret
        exact ⟨rfl, rfl⟩
      · rw [if_neg hz]
        have hz' : (((A k).kind : Int) == 0) = false := by rw [beq_eq_false_iff_ne]; omega
        go_enter Tryz.func51, Tryz.ntmps51
        go_wp2_with fail
        go_ret
        exact ⟨rfl, rfl⟩
end
end Go.Proofs.YtfldhmeenbdkiaaGreatDoor
