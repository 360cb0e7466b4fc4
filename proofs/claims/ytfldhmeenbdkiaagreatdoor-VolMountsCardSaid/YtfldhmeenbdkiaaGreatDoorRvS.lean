/- The document's volume: a node of it is turned. -/
import Derived.Test.YtfldhmeenbdkiaaGreatDoorRvA
namespace Go.Proofs.YtfldhmeenbdkiaaGreatDoor
open Go.RowKit

theorem nodesL_set {A : Nat → Node} {n j : Nat} (hn : n < 32) (hj : j < 3) {v : Value} {d : Node} (hd : ∀ l, l < 3 → (nodeL d)[l]? = if l = j then some v else (nodeL (A n))[l]?) :
    (nodesL A 32).set (n * 3 + j) v = nodesL (setA A n d) 32 := by
  have l1 := nodesL_length A 32
  have l2 := nodesL_length (setA A n d) 32
  apply List.ext_getElem?
  intro p
  by_cases hp : p < 96
  · have e : p = p / 3 * 3 + p % 3 := by omega
    have hi : p / 3 < 32 := by omega
    have hl : p % 3 < 3 := by omega
    rw [List.getElem?_set]
    by_cases h1 : n * 3 + j = p
    · rw [if_pos h1, if_pos (by omega), ← h1, nodesL_get _ hj 32 hn]
      have : setA A n d n = d := if_pos rfl
      rw [this, hd j hj, if_pos rfl]
    · rw [if_neg h1, e, nodesL_get _ hl 32 hi, nodesL_get _ hl 32 hi]
      by_cases h2 : p / 3 = n
      · have : setA A n d (p / 3) = d := if_pos h2
        rw [this, hd _ hl, if_neg (by omega), h2]
      · have : setA A n d (p / 3) = A (p / 3) := if_neg h2
        rw [this]
  · rw [List.getElem?_eq_none (by rw [List.length_set]; omega), List.getElem?_eq_none (by omega)]
theorem setA_setA (A : Nat → Node) (n : Nat) (d e : Node) : setA (setA A n d) n e = setA A n e := by
  funext j; unfold setA; split <;> rfl
theorem setA_at (A : Nat → Node) (n : Nat) (d : Node) : setA A n d n = d := if_pos rfl
theorem setA_ne (A : Nat → Node) {n j : Nat} (d : Node) (h : j ≠ n) : setA A n d j = A j := if_neg h

section
variable {S0 : Nat → Prop} {w0 w : World} {r nb c m : Nat} {sp : List Value} {A : Nat → Node} {B R : Asr}
theorem rv_turn (h : Lv S0 w0 (Star (rvA r nb c sp m A) B) w) (hB : Loc B) {n j : Nat} (hn : n < 32) (hj : j < 3) {v : Value} {d : Node} (hd : ∀ l, l < 3 → (nodeL d)[l]? = if l = j then some v else (nodeL (A n))[l]?) :
    Lv S0 w0 (Star (rvA r nb c sp m (setA A n d)) B) (w.setCell ⟨nb, n * 3 + j, none⟩ v) := by
  have h1 : Lv S0 w0 (Star (blkA nb tRNode (nodesL A 32 ++ sp)) (Star (blkA r tRVol [.int .i64 m, .slice (some ⟨nb, 0, none⟩) 32 c]) B)) w := (Lv.assoc h).map fun _ h => star_flip h
  have h2 := h1.turn (loc_star (loc_blk _ _ _) hB) (turn_blk (n * 3 + j) v)
  rw [List.set_append_left _ _ (by rw [nodesL_length]; omega), nodesL_set hn hj hd] at h2
  exact (h2.map fun _ h => star_flip h).assoc'
theorem rv_links (h : Lv S0 w0 (Star (rvA r nb c sp m A) B) w) (hB : Loc B) {n : Nat} (hn : n < 32) (l : Nat) :
    Lv S0 w0 (Star (rvA r nb c sp m (setA A n { A n with links := l })) B) (w.setCell ⟨nb, n * 3 + 1, none⟩ (.int .i64 l)) :=
  rv_turn h hB hn (by omega) (fun k hk => by obtain rfl | rfl | rfl : k = 0 ∨ k = 1 ∨ k = 2 := by omega
                                             all_goals rfl)
theorem rv_data (h : Lv S0 w0 (Star (rvA r nb c sp m A) B) w) (hB : Loc B) {n : Nat} (hn : n < 32) (s : List UInt8) :
    Lv S0 w0 (Star (rvA r nb c sp m (setA A n { A n with data := s })) B) (w.setCell ⟨nb, n * 3 + 2, none⟩ (.string ⟨s.toArray⟩)) :=
  rv_turn h hB hn (by omega) (fun k hk => by obtain rfl | rfl | rfl : k = 0 ∨ k = 1 ∨ k = 2 := by omega
                                             all_goals rfl)
theorem rv_node (h : Lv S0 w0 (Star (rvA r nb c sp m A) B) w) (hB : Loc B) {n : Nat} (hn : n < 32) (d : Node) :
    Lv S0 w0 (Star (rvA r nb c sp m (setA A n d)) B) (((w.setCell ⟨nb, n * 3, none⟩ (.int .i64 d.kind)).setCell ⟨nb, n * 3 + 1, none⟩ (.int .i64 d.links)).setCell ⟨nb, n * 3 + 2, none⟩ (.string (dataB d))) := by
  have h1 := rv_turn (j := 0) (d := { A n with kind := d.kind }) (v := .int .i64 d.kind) h hB hn (by omega) (fun k hk => by
    obtain rfl | rfl | rfl : k = 0 ∨ k = 1 ∨ k = 2 := by omega
    all_goals rfl)
  have h2 := rv_links h1 hB hn d.links
  rw [setA_at, setA_setA] at h2
  have h3 := rv_data h2 hB hn d.data
  rw [setA_at, setA_setA] at h3
  exact h3
theorem rv_free (h : Lv S0 w0 (Star (rvA r nb c sp m A) B) w) (j : Nat) : w.frozen? ⟨nb, j, none⟩ = false := (Lv.drop (Lv.assoc h)).blk.free j
end
/-- Nodes as they may be. -/
def AOk (m : Nat) (A : Nat → Node) : Prop := ∀ n, n < 32 → (A n).kind ≤ 2 ∧ (A n).links < 256 ∧ (A n).data.length ≤ 2368
theorem IsVol.aok {m : Nat} {X : Sec} {A : Nat → Node} (h : IsVol m X A) : AOk m A := fun n hn => by
  have hg := h.good n hn
  rw [h.len hn, h.kind hn, h.links hn]
  exact ⟨hg.kind, hg.links, hg.size⟩
end Go.Proofs.YtfldhmeenbdkiaaGreatDoor
