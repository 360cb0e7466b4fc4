/- The document's disk: New. -/
import Derived.Test.YtchilnjocnkodaaGreatRefD
import Derived.Deep.RegionHeld3
namespace Go.Proofs.YtchilnjocnkodaaGreat
open Go.RowKit

set_option maxRecDepth 100000 in
set_option maxHeartbeats 2000000 in
theorem rnew_ok (n : Nat) (w : World) (h1 : 48 ≤ n) (h2 : n ≤ 544) :
    Calls Tryz.prog 26 #[.int .i64 n] w fun e w' => ∃ b, e = .returned (.pointer (some ⟨b, 0, none⟩)) ∧ IsRef w' b (Plus Nob w w') (DSt.fresh n) ∧ Fr Nob w w' := by
  go_enter Tryz.func26, Tryz.ntmps26
  go_wp2_with fail
  go_loopw [4] (fun i wr => ∃ k : Nat, k ≤ n ∧ i = .int .i64 k ∧ ∃ ao cap, Blk wr w.heap.size tRef [.slice ao k cap, .slice none 0 0, .int .i64 (-1), .bool false] ∧
      wr.ownsRow 0 tStr 1 (.slice ao k cap) k (strs (List.replicate k nought)) ∧ (∀ g, (Value.slice ao k cap).ownBlock = some g → w.heap.size ≤ g) ∧ Fr Nob w wr) (fun i _ => n - (intOf i).toNat)
  case atStart => exact ⟨0, Nat.zero_le _, rfl, none, 0, Blk.new _ _ [_, _, _, _], World.ownsRow_nil _ _ _ _, fun g hg => (by cases hg), (Fr.refl _ _).alloc _⟩
  case round =>
    obtain ⟨k, hk, rfl, ao, cap, hb, hown, hlt, hf⟩ := hrel
    by_cases hkn : k < n
    · have c0 := hb.cell (j := 0) rfl
      have f0 := hb.free 0
      have HB := Lib.hid hb
      have HO := Lib.hid hown
      have HL := Lib.hid hlt
      have HF := Lib.hid hf
      have NE : Hid (¬ (Value.slice ao k cap).ownBlock = some w.heap.size) := row_ne hown hb (by decide)
      clear hb hown hlt hf
      go_wp2_with fail
      go_region_law (first
          | (refine step_append_mine rfl (ho := rfl) (s := .tmp 16) (x := .tmp 18) Tryz.rowStr (v := .slice ao k cap) (by simp [Act.eval]) ((row_fr (HO.out.drew) hf2 (fun _ _ h => h)).alloc _) (src := .slice (some ⟨w2.heap.size, 0, none⟩) 1 1) (by simp [Act.eval]) (srcs_one w2 _ _ 1 rfl) (by omega) ?_; intro v' w3 hown3 hf3 hv3 _; obtain ⟨g', cap', rfl⟩ := row_succ hown3; have hb3 := ((HB.out.drew.fr hf2 (fun h => h)).alloc _).fr hf3 NE.out; have c3 := hb3.cell (j := 0) rfl; have f3 := hb3.free 0)
          | (go_simp; go_at_call 45; refine (noughts_calls _).mono ?_; rintro e w2 ⟨rfl, hf2⟩; have c02 := hf2.cell c0 (fun h => h); have l02 := World.block_lt_of_cell? _ _ c02))
      all_goals
        go_wp2_with fail
        go_roundw
        case rel =>
          have hne : ¬ (Value.slice (some ⟨g', 0, none⟩) (k + 1) cap').ownBlock = some w.heap.size := row_ne hown3 hb3 (by decide)
          refine ⟨k + 1, by omega, by go_num, _, _, hb3.set 0 _, ?_, ?_, ?_⟩
          · have := ownsRow_setCell_other hown3 (a := ⟨w.heap.size, 0, none⟩) hne (.slice (some ⟨g', 0, none⟩) (k + 1) cap')
            rw [List.replicate_succ', show strs (List.replicate k nought ++ [nought]) = strs (List.replicate k nought) ++ [.string nought] by simp [strs]]
            exact this
          · intro g hg
            rcases hv3 g hg with h | h
            · exact HL.out g h
            · have h4 := HF.out.size
              have h5 := hf2.size
              simp at h h5
              omega
          · refine Fr.set ?_ (.inr (Nat.le_refl _)) 0 _
            refine ((HF.out.drew.trans hf2).alloc _).trans' hf3 (fun i hi e => ?_)
            have := HL.out i e
            omega
        case measure => simp [intOf]; omega
    · obtain rfl : k = n := by omega
      have c0 := hb.cell (j := 0) rfl
      have HB := Lib.hid hb
      have HO := Lib.hid hown
      have HL := Lib.hid hlt
      have HF := Lib.hid hf
      clear hb hown hlt hf
      go_wp2_with fail
      go_ret
      refine ⟨_, rfl, ?_, HF.out⟩
      have hb := HB.out
      rcases HO.out.2 with ⟨_, h0⟩ | ⟨g, c', cur, hv, _, hg, hle, _, hsz, htk⟩
      · omega
      · simp only [Value.slice.injEq] at hv
        obtain ⟨rfl, _, rfl⟩ := hv
        have hcur : cur.toList = strs (List.replicate k nought) ++ cur.toList.drop k := by
          rw [Nat.mul_one] at htk
          rw [← htk, List.take_append_drop]
        refine ⟨g, cap, cur.toList.drop k, .slice none 0 0, ?_, ?_, World.ownsRow_nil _ _ _ _, .inr ⟨Nat.le_refl _, hb.lt⟩, .inr ⟨HL.out g rfl, lt_of_block hg⟩, fun j hj => (by cases hj), DSt.fresh_ok h1 h2⟩
        · rw [show (DSt.fresh k).safe.length = k by simp [DSt.fresh]]
          exact hb
        · show _ = some (Obj.cells (strs (List.replicate k nought) ++ cur.toList.drop k).toArray tStr (0, 0))
          rw [← hcur]; simpa using hg
end Go.Proofs.YtchilnjocnkodaaGreat
