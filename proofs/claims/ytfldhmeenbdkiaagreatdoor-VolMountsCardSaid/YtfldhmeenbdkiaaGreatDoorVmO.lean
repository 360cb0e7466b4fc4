/- The document's disk made of sectors: whether it is one. (The texts RefA, RefD, OfB, as far as this seat holds them.) -/
import Derived.Test.YtfldhmeenbdkiaaGreatDoorMC
import Derived.Test.YtfldhmeenbdkiaaGreatDoorMD
import Derived.Test.YtfldhmeenbdkiaaGreatDoorOfA
import Derived.Deep.RegionHeld3
namespace Go.Proofs.YtfldhmeenbdkiaaGreatDoor
open Go.RowKit


abbrev tRef : Nat := 75
abbrev tRWrite : Nat := 231
abbrev kR : Kd := ⟨tRef, tRWrite, by decide, by decide, by decide⟩
abbrev IsRef (w : World) (b : Nat) (S : Nat → Prop) (D : DSt) : Prop := IsDsk kR w b S D

theorem Tryz.infoRWrite : (Tryz.prog.info? tRWrite).map (fun i => (i.zero, i.size, i.bytes)) = some (some (.agg #[.int .i64 0, .string ByteArray.empty]), 2, 24) := by kernel_rfl
theorem Tryz.rowRWrite : RowT Tryz.prog 73 tRWrite 2 24 := by
  obtain ⟨i0, hi, hz0, hz1, hz2⟩ := info_parts Tryz.infoRWrite
  exact ⟨⟨i0, _, Tryz.underlying73, hi, hz0, hz1, hz2, rfl⟩, by decide, by decide⟩



set_option maxHeartbeats 400000 in
theorem takes_yes (n : Nat) (w : World) (h1 : 48 ≤ n) (h2 : n ≤ 544) :
    Calls Tryz.prog 36 #[.int .i64 n] w fun e w' => e = .returned (.bool true) ∧ w = w' := by
  go_enter Tryz.func36, Tryz.ntmps36
  go_wp2
  go_ret
  exact ⟨by simp; omega, rfl⟩
set_option maxHeartbeats 400000 in
theorem takes_no (n : Int) (w : World) (h : n < 48 ∨ 544 < n) :
    Calls Tryz.prog 36 #[.int .i64 n] w fun e w' => e = .returned (.bool false) ∧ w = w' := by
  rcases h with h | h
  · go_enter Tryz.func36, Tryz.ntmps36
    go_wp2
    go_ret
    exact ⟨rfl, rfl⟩
  · have h2 : ¬ n < 48 := by omega
    go_enter Tryz.func36, Tryz.ntmps36
    go_wp2
    go_ret
    exact ⟨by simp; omega, rfl⟩


theorem takes_calls (m : Int) (w : World) : Calls Tryz.prog 36 #[.int .i64 m] w fun e w' => e = .returned (.bool (decide (48 ≤ m ∧ m ≤ 544))) ∧ w = w' := by
  by_cases h : m < 48 ∨ 544 < m
  · refine (takes_no m w h).mono ?_
    rintro e w' ⟨rfl, rfl⟩
    rw [decide_eq_false (by omega)]
    exact ⟨rfl, rfl⟩
  · obtain ⟨k, rfl⟩ := Int.eq_ofNat_of_zero_le (show 0 ≤ m by omega)
    refine (takes_yes k w (by omega) (by omega)).mono ?_
    rintro e w' ⟨rfl, rfl⟩
    rw [decide_eq_true (by omega)]
    exact ⟨rfl, rfl⟩

def okTo (l : List ByteArray) (j : Nat) : Bool := decide (48 ≤ (l.length : Int) ∧ (l.length : Int) ≤ 544) && (l.take j).all fun s => s.size == 64
theorem okTo_snoc {l : List ByteArray} {j : Nat} {x : ByteArray} (h : l[j]? = some x) : okTo l (j + 1) = (okTo l j && (x.size == 64)) := by
  unfold okTo
  rw [List.take_add_one, h]
  simp [Bool.and_assoc]
theorem okTo_all (l : List ByteArray) : okTo l l.length = true ↔ ImageOk l := by
  unfold okTo ImageOk
  rw [List.take_length, Bool.and_eq_true, decide_eq_true_iff, List.all_eq_true]
  simp only [beq_iff_eq]
  constructor
  · rintro ⟨⟨h1, h2⟩, h3⟩; exact ⟨by omega, by omega, h3⟩
  · rintro ⟨h1, h2, h3⟩; exact ⟨⟨by omega, by omega⟩, h3⟩

set_option maxRecDepth 100000 in
set_option maxHeartbeats 2000000 in
theorem roimg_calls {ao : Option Addr} {c : Nat} {l : List ByteArray} {w : World} (hS : Srcs w (.slice ao l.length c) l.length 1 (strs l)) (hl : l.length ≤ 9223372036854775807) :
    Calls Tryz.prog 7 #[.slice ao l.length c] w fun e w' => Fr Nob w w' ∧
      ((¬ ImageOk l ∧ e = .returned (.pointer none)) ∨ (ImageOk l ∧ ∃ b, e = .returned (.pointer (some ⟨b, 0, none⟩)) ∧ IsDsk kR w' b (Plus Nob w w') (DSt.of l))) := by
  have HS := Lib.hid hS
  obtain ⟨n, hn⟩ : ∃ n, n = l.length := ⟨_, rfl⟩
  have HN := Lib.hid hn
  have h0 : decide (48 ≤ (n : Int) ∧ (n : Int) ≤ 544) = okTo l 0 := by unfold okTo; rw [← hn]; simp
  rw [← hn] at hl ⊢
  clear hS hn
  go_enter Tryz.func7, Tryz.ntmps7
  go_wp2_with fail
  refine (takes_calls n w).mono ?_
  rw [h0]
  clear h0
  rintro e w1 ⟨rfl, rfl⟩
  go_wp2_with fail
  go_loop [3, 4] (fun s3 s4 => ∃ j : Nat, j ≤ n ∧ s4 = .int .i64 j ∧ s3 = .bool (okTo l j)) (fun _ s4 => n - (intOf s4).toNat)
  case atStart => exact ⟨0, Nat.zero_le _, rfl, rfl⟩
  case round =>
    obtain ⟨j, hj, rfl, rfl⟩ := hrel
    by_cases hlt : j < n
    · obtain ⟨x, hx⟩ : ∃ x, l[j]? = some x := ⟨_, List.getElem?_eq_getElem (by rw [← HN.out]; exact hlt)⟩
      obtain ⟨g, off, rfl, cx⟩ := HS.out.at (j := j) (u := .string x) (by simp [strs, hx])
      have hsn := okTo_snoc hx
      have HX := Lib.hid hsn
      clear hx hsn
      cases hk : okTo l j with
      | true =>
        rw [hk] at HX
        clear hk
        cases hz : (x.size == 64) with
        | true =>
          have hz2 : ((x.size : Int) == 64) = true := by rw [beq_iff_eq] at hz ⊢; omega
          rw [hz] at HX
          clear hz
          go_wp2
          go_round
          case rel => exact ⟨j + 1, by omega, by go_num, by rw [HX.out]; rfl⟩
          case measure => simp [intOf]; omega
        | false =>
          have hz2 : ((x.size : Int) == 64) = false := by rw [beq_eq_false_iff_ne] at hz ⊢; omega
          rw [hz] at HX
          clear hz
          go_wp2
          go_round
          case rel => exact ⟨j + 1, by omega, by go_num, by rw [HX.out]; rfl⟩
          case measure => simp [intOf]; omega
      | false =>
        rw [hk] at HX
        clear hk
        go_wp2
        go_round
        case rel => exact ⟨j + 1, by omega, by go_num, by rw [HX.out]; rfl⟩
        case measure => simp [intOf]; omega
    · obtain rfl : j = n := by omega
      cases hk : okTo l j with
      | false =>
        have HB : Hid (¬ ImageOk l) := fun h => by have := (okTo_all l).2 h; rw [← HN.out, hk] at this; cases this
        clear hk
        go_wp2
        go_ret
        exact ⟨Fr.refl _ _, .inl ⟨HB.out, rfl⟩⟩
      | true =>
        have HB : Hid (ImageOk l) := (okTo_all l).1 (by rw [← HN.out]; exact hk)
        have hj2 : j ≤ 544 := by have := HB.out.2.1; rw [← HN.out] at this; exact this
        have HS' : Hid (Srcs w (.slice ao j c) j 1 (strs l)) := by have := HS.out; rw [← HN.out] at this; exact this
        clear hk
        have HJ : Hid (48 ≤ j) := by have := HB.out.1; rw [← HN.out] at this; exact this
        have hbx : Blk (w.alloc (.cells #[.slice none 0 0, .slice none 0 0, .int .i64 (-1), .bool false] tRef)) w.heap.size tRef [.slice none 0 0, .slice none 0 0, .int .i64 (-1), .bool false] := Blk.new w tRef [_, _, _, _]
        have HBX := Lib.hid hbx
        clear hbx
        go_wp2_with (at_builtin; refine wpList_append_mine rfl (ho := rfl) (s := .tmp 32) (x := .tmp 33) Tryz.rowStr rfl (World.ownsRow_nil _ _ _ _) rfl (HS'.out.alloc _) (by omega) ?_; intro v' w3 hown hf hv _; obtain ⟨g', cap', rfl⟩ : ∃ g cap, v' = .slice (some ⟨g, 0, none⟩) (0 + j) cap := (row_form hown).elim (fun h => by have := HJ.out; omega) id; have hb3 := HBX.out.fr hf (fun e => by cases e); have c3 := hb3.cell (j := 0) rfl; have f3 := hb3.free 0)
        go_ret
        rw [Nat.zero_add, List.nil_append] at hown
        have hlt2 : w.heap.size < g' := by
          have h1 := hv g' rfl
          rcases h1 with h | h
          · cases h
          · simp at h; omega
        have hg3 := (hown.lt g' rfl).2
        have hs3 := hf.size
        rw [World.size_alloc] at hs3
        rcases hown.2 with ⟨h0, _⟩ | ⟨g, c', cur, hvv, _, hg, hle, _, hsz, htk⟩
        · cases h0
        simp only [Value.slice.injEq, Option.some.injEq, Addr.mk.injEq, and_true, true_and] at hvv
        obtain ⟨rfl, rfl⟩ := hvv
        have hcur : cur.toList = strs l ++ cur.toList.drop j := by
          rw [Nat.mul_one] at htk
          rw [← htk, List.take_append_drop]
        have hrow : Blk w3 g' tStr (strs l ++ cur.toList.drop j) := by
          show _ = some (Obj.cells (strs l ++ cur.toList.drop j).toArray tStr (0, 0))
          rw [← hcur]; simpa using hg
        have F : Fr Nob w (w3.setCell ⟨w.heap.size, 0, none⟩ (.slice (some ⟨g', 0, none⟩) j cap')) :=
          Fr.set (((Fr.refl Nob w).alloc _).trans' hf (fun i hi e => by cases e)) (.inr (Nat.le_refl _)) 0 _
        refine ⟨F, .inr ⟨HB.out, _, rfl, ⟨g', cap', cur.toList.drop j, .slice none 0 0, ?_, hrow.set_ne (by omega) 0 _, World.ownsRow_nil _ _ _ _, .inr ⟨Nat.le_refl _, by simp; omega⟩, .inr ⟨by omega, by simp; omega⟩, fun k hk => (by cases hk), ?_⟩⟩⟩
        · have := hb3.set 0 (.slice (some ⟨g', 0, none⟩) j cap')
          rw [show (DSt.of l).safe.length = j by simp [DSt.of, HN.out]]
          exact this
        · exact ⟨HB.out.2.1, HB.out.1, by simp [DSt.of], HB.out.2.2, by simp [DSt.of], by simp [DSt.of], by simp [DSt.of]⟩
end Go.Proofs.YtfldhmeenbdkiaaGreatDoor
