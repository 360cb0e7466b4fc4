/- The document's Noughts, and its Same. -/
import Derived.Test.YtchilnjocnkodaaGreatDskH
namespace Go.Proofs.YtchilnjocnkodaaGreat
open Go.RowKit

theorem Tryz.infoU8 : (Tryz.prog.info? 5).map (fun i => (i.zero, i.size, i.bytes)) = some (some (.int .u8 0), 1, 1) := by kernel_rfl
def zeros64 : List Int := List.replicate 64 0
theorem nought_eq : strOf zeros64 = nought := by decide +kernel
set_option maxHeartbeats 400000 in
theorem noughts_calls (w : World) :
    Calls Tryz.prog 45 #[] w fun e w' => e = .returned (.string nought) ∧ Fr Nob w w' := by
  have hz := nought_eq
  go_enter Tryz.func45, Tryz.ntmps45
  go_wp2_with (first | (at_make; refine wpList_make_mine (n := 64) (l := .const (.int .i64 64)) (c := .const (.int .i64 64)) rfl rfl Tryz.underlying108 Tryz.infoU8 rfl rfl rfl (by omega) (by omega) ?_; intro w2 hb2 hf2 hs2) | (with_reducible show wpList _ _ _ _ _ _; refine wpList_bytes_string (x := .tmp 1) rfl rfl Tryz.underlying108 Tryz.underlying5 Tryz.underlying9 rfl (ns := zeros64) rfl (blk_src (k := 0) hb2 (by intro j v hj; unfold zeros64 at hj; rw [List.map_replicate] at hj; rw [Nat.zero_add]; exact hj)) ?_))
  go_ret
  exact ⟨rfl, hf2⟩

/-- Are two rows of sectors the same? -/
theorem same_len {a b : Option Addr} {n m c d : Nat} (w : World) (h : n ≠ m) :
    Calls Tryz.prog 13 #[.slice a n c, .slice b m d] w fun e w' => e = .returned (.bool false) ∧ Fr Nob w w' := by
  have h' : ((n : Int) == (m : Int)) = false := by rw [beq_eq_false_iff_ne]; omega
  go_enter Tryz.func13, Tryz.ntmps13
  go_wp2
  go_ret
  exact ⟨rfl, Fr.refl _ _⟩

set_option maxRecDepth 100000 in
set_option maxHeartbeats 1000000 in
theorem same_calls {a b : Option Addr} {c d : Nat} {l k : List ByteArray} {w : World} (hl : l.length = k.length) (hn : l.length ≤ 9223372036854775807)
    (ha : Srcs w (.slice a l.length c) l.length 1 (strs l)) (hb : Srcs w (.slice b l.length d) l.length 1 (strs k)) :
    Calls Tryz.prog 13 #[.slice a l.length c, .slice b l.length d] w fun e w' => e = .returned (.bool (decide (l = k))) ∧ Fr Nob w w' := by
  obtain ⟨n, hnn⟩ : ∃ n, n = l.length := ⟨_, rfl⟩
  rw [← hnn] at hl hn ha hb ⊢
  have HL := Lib.hid hl
  have HN := Lib.hid hnn
  have HA := Lib.hid ha
  have HB := Lib.hid hb
  have h' : ((n : Int) == (n : Int)) = true := by simp
  clear hl hnn ha hb
  go_enter Tryz.func13, Tryz.ntmps13
  go_wp2_with fail
  go_loopw [5] (fun i wr => ∃ j : Nat, j ≤ n ∧ i = .int .i64 j ∧ l.take j = k.take j ∧ Fr Nob w wr) (fun i _ => n - (intOf i).toNat)
  case atStart => exact ⟨0, Nat.zero_le _, rfl, rfl, Fr.refl _ _⟩
  case round =>
    obtain ⟨j, hj, rfl, ht, hf⟩ := hrel
    by_cases hlt : j < n
    · obtain ⟨x, hx⟩ : ∃ x, l[j]? = some x := ⟨_, List.getElem?_eq_getElem (by rw [← HN.out]; exact hlt)⟩
      obtain ⟨y, hy⟩ : ∃ y, k[j]? = some y := ⟨_, List.getElem?_eq_getElem (by rw [← HL.out]; exact hlt)⟩
      obtain ⟨ga, j1, rfl, ca⟩ := HA.out.at (j := j) (u := .string x) (by simp [strs, hx]) 
      obtain ⟨gb, j2, rfl, cb⟩ := HB.out.at (j := j) (u := .string y) (by simp [strs, hy])
      have HT := Lib.hid ht
      have HF := Lib.hid hf
      have HX := Lib.hid hx
      have HY := Lib.hid hy
      have hb1 := World.block_lt_of_cell? _ _ ca
      have hb2 := World.block_lt_of_cell? _ _ cb
      have c1 : wr.cell? ⟨ga, j1 + j, none⟩ = some (.string x) := (World.cell?_of_block (w := w) (hf.block _ hb1 (fun h => h))).trans ca
      have c2 : wr.cell? ⟨gb, j2 + j, none⟩ = some (.string y) := (World.cell?_of_block (w := w) (hf.block _ hb2 (fun h => h))).trans cb
      clear ht hf hx hy ca cb
      by_cases hxy : x = y
      · have ex : (x.toList == y.toList) = true := by rw [bytes_beq]; exact decide_eq_true hxy
        have HXY := Lib.hid hxy
        clear hxy
        go_wp2_with fail
        go_quiet (fail)
        go_wp2_with fail
        go_roundw
        case rel =>
          refine ⟨j + 1, by omega, by go_num, ?_, HF.out.drewN _⟩
          rw [List.take_add_one, List.take_add_one, HT.out, HX.out, HY.out, HXY.out]
        case measure => simp [intOf]; omega
      · have ex : (x.toList == y.toList) = false := by rw [bytes_beq]; exact decide_eq_false hxy
        have HXY := Lib.hid hxy
        clear hxy
        go_wp2_with fail
        go_quiet (fail)
        go_wp2_with fail
        go_ret
        refine ⟨?_, HF.out.drewN _⟩
        rw [decide_eq_false]; rfl
        intro e
        subst e
        have := HX.out.symm.trans HY.out
        simp at this
        exact HXY.out this
    · obtain rfl : j = n := by omega
      have HT := Lib.hid ht
      have HF := Lib.hid hf
      clear ht hf
      go_wp2_with fail
      go_ret
      refine ⟨?_, HF.out⟩
      have := HT.out
      rw [List.take_of_length_le (by rw [← HN.out]; exact Nat.le_refl _), List.take_of_length_le (by rw [← HL.out]; exact Nat.le_refl _)] at this
      rw [decide_eq_true this]; rfl

theorem same_self {a b : Option Addr} {c d : Nat} {l : List ByteArray} {w : World} (hn : l.length ≤ 9223372036854775807) (ha : Srcs w (.slice a l.length c) l.length 1 (strs l)) (hb : Srcs w (.slice b l.length d) l.length 1 (strs l)) :
    Calls Tryz.prog 13 #[.slice a l.length c, .slice b l.length d] w fun e w' => e = .returned (.bool true) ∧ Fr Nob w w' :=
  (same_calls rfl hn ha hb).mono fun _ _ h => ⟨by rw [h.1]; simp, h.2⟩
end Go.Proofs.YtchilnjocnkodaaGreat
