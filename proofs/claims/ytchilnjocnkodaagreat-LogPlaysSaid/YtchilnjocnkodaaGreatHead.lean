/- A head written and read: the program's log. -/
import Derived.Test.YtchilnjocnkodaaGreatBld
import Derived.Test.YtchilnjocnkodaaGreatMLogQ
namespace Go.Proofs.YtchilnjocnkodaaGreat
open Go.RowKit

/-- Numbers in a row. -/
def nums (l : List Nat) : List Value := l.map fun (h : Nat) => Value.int .i64 (h : Int)
theorem nums_one (l : List Nat) : ∀ u ∈ nums l, u.oneCell' = true := by
  intro u hu
  obtain ⟨x, _, rfl⟩ := List.mem_map.1 hu
  rfl
theorem two_bytes (h : Nat) : leBytes h 2 = twoB h := by
  simp only [leBytes, twoB]

theorem rep_zero (n : Nat) : Lib.repeatL (⟨#[0]⟩ : ByteArray).data.toList n = List.replicate n 0 := by
  induction n with
  | zero => rfl
  | succ n ih =>
    rw [List.replicate_succ, ← ih]
    rfl
theorem bld_fr {B b : Nat} {l : List UInt8} {w w' : World} (h : IsBld B b l w) (hf : Fr Nob w w') : IsBld B b l w' := by
  have key : ∀ p, Lib.BuilderAt tBld tU8 B b p (Lib.byteCells l) w → Lib.BuilderAt tBld tU8 B b p (Lib.byteCells l) w' := by
    rintro p ⟨hB, v, hb, hown, hne⟩
    refine ⟨hB, v, (hf.block b (lt_of_block hb) (fun h => h)).trans hb, ⟨hown.1, ?_⟩, hne⟩
    rcases hown.2 with h | ⟨g, cap, cur, h1, h2, h3, h4⟩
    · exact .inl h
    · exact .inr ⟨g, cap, cur, h1, h2, (hf.block g (lt_of_block h3) (fun h => h)).trans h3, h4⟩
  exact h.elim (fun h => .inl (key _ h)) (fun h => .inr (key _ h))

set_option maxRecDepth 100000 in
set_option maxHeartbeats 1000000 in
theorem head_calls {l : List Nat} {ao : Option Addr} {c : Nat} {w : World} (hS : Srcs w (.slice ao l.length c) l.length 1 (nums l)) (hl : l.length ≤ 30) (hh : ∀ h ∈ l, h < 65536) :
    Calls Tryz.prog 53 #[.slice ao l.length c] w fun e w' => e = .returned (.string (headP l)) ∧ Fr Nob w w' := by
  have HS := Lib.hid hS
  have HH := Lib.hid hh
  obtain ⟨n, hn⟩ : ∃ n, n = l.length := ⟨_, rfl⟩
  have HN := Lib.hid hn
  rw [← hn] at hl ⊢
  clear hS hh hn
  go_enter Tryz.func53, Tryz.ntmps53
  go_wp2_with fail
  have L1 : IsBld w.heap.size w.heap.size [] (w.alloc (.cells #[.pointer none, .slice none 0 0] tBld)) := bld_new w
  refine (bld_byte L1 (by omega) (by omega) (by simp) (by simp)).mono ?_
  rintro e w1 ⟨rfl, hb1, hB1⟩
  rw [List.nil_append, Int.toNat_natCast] at hb1
  have hB1' : Below w.heap.size w w1 := ((Below.refl _ w).alloc (Nat.le_refl _) _).trans hB1
  clear L1 hB1
  go_wp2_with fail
  go_loopw [12] (fun i wr => ∃ j : Nat, j ≤ n ∧ i = .int .i64 j ∧ IsBld w.heap.size w.heap.size (UInt8.ofNat n :: (l.take j).flatMap twoB) wr ∧ Below w.heap.size w wr) (fun i _ => n - (intOf i).toNat)
  case atStart => exact ⟨0, Nat.zero_le _, rfl, by simpa using hb1, hB1'⟩
  case round =>
    obtain ⟨j, hj, rfl, hb, hB⟩ := hrel
    have HB := Lib.hid hb
    have HW := Lib.hid hB
    clear hb1 hB1' hb hB
    by_cases hlt : j < n
    · obtain ⟨x, hx⟩ : ∃ x, l[j]? = some x := ⟨_, List.getElem?_eq_getElem (by rw [← HN.out]; exact hlt)⟩
      have hF : Fr Nob w wr := Fr.of_below HW.out (fun _ h _ => h)
      have hx6 : x < 65536 := HH.out x (List.mem_of_getElem? hx)
      obtain ⟨g, off, rfl, cx⟩ := (HS.out.fr hF (fun _ _ _ _ h => h)).at (j := j) (u := .int .i64 (x : Int)) (by simp [nums, hx])
      have htk : (l.take (j + 1)).flatMap twoB = (l.take j).flatMap twoB ++ twoB x := by rw [List.take_add_one, hx]; simp
      have HT := Lib.hid htk
      have hln : ((l.take j).flatMap twoB).length = 2 * j := by rw [flat_length, List.length_take]; have := HN.out; omega
      clear hx hF htk
      go_wp2_with fail
      refine (wbytes_calls x 2 wr (by omega) (by omega) (by omega)).mono ?_
      rintro e w2 ⟨rfl, hf2⟩
      rw [two_bytes x]
      have hb2 : Below w.heap.size wr w2 := hf2.below _ HW.out.size (fun _ h => h.elim)
      have hbl2 : IsBld w.heap.size w.heap.size (UInt8.ofNat n :: (l.take j).flatMap twoB) w2 := bld_fr HB.out hf2
      have h2s : (⟨(twoB x).toArray⟩ : ByteArray).size = 2 := rfl
      go_wp2_with fail
      refine (bld_text hbl2 (by rw [h2s, List.length_cons, hln]; omega) (Nat.le_trans HW.out.size hb2.size)).mono ?_
      rintro e w3 ⟨rfl, hbl3, hb3⟩
      go_wp2_with fail
      go_roundw
      case rel =>
        refine ⟨j + 1, hlt, by go_num, ?_, (HW.out.trans hb2).trans hb3⟩
        rw [HT.out]
        simpa using hbl3
      case measure => simp [intOf]; omega
    · obtain rfl : j = n := by omega
      have htk : l.take j = l := by rw [HN.out, List.take_length]
      rw [htk] at HB
      have hln : (l.flatMap twoB).length = 2 * j := by rw [flat_length, HN.out]
      have hlc : (Lib.byteCells (UInt8.ofNat j :: l.flatMap twoB)).length = 2 * j + 1 := by simp [Lib.byteCells, hln]
      go_wp2_with fail
      refine (Tryz.Builder_Len _ _ _ _ HB.out).mono ?_
      rw [hlc]
      rintro e w4 ⟨rfl, rfl⟩
      have hsub : (64 : Int) - (2 * (j : Int) + 1) = ((63 - 2 * j : Nat) : Int) := by omega
      go_wp2_with fail
      refine (Tryz.strings_Repeat (⟨#[0]⟩ : ByteArray) (63 - 2 * j) w4 (by omega) (by show 1 * (63 - 2 * j) ≤ _; omega)).mono ?_
      rintro e w5 ⟨rfl, hb5⟩
      have hf5 : Fr Nob w4 w5 := Fr.of_below hb5 (fun _ h _ => h)
      have hbl5 := bld_fr HB.out hf5
      obtain ⟨Z, hZ⟩ : ∃ Z : ByteArray, Z = ⟨(Lib.repeatL (⟨#[0]⟩ : ByteArray).data.toList (63 - 2 * j)).toArray⟩ := ⟨_, rfl⟩
      have hZl : Z.data.toList = List.replicate (63 - 2 * j) 0 := by rw [hZ, rep_zero]
      have hrs : Z.size = 63 - 2 * j := by rw [← bytes_len, hZl, List.length_replicate]
      rw [← hZ]
      have HB5 := Lib.hid hb5
      clear hb5 hf5 hsub hZ
      go_wp2_with fail
      refine (bld_text hbl5 (by rw [hrs, List.length_cons, hln]; omega) (Nat.le_trans HW.out.size HB5.out.size)).mono ?_
      rintro e w6 ⟨rfl, hbl6, hb6⟩
      have HB6 := Lib.hid hb6
      clear hbl5 hb6
      go_wp2_with fail
      refine (Tryz.Builder_String_any _ _ _ _ hbl6 (Nat.le_trans HW.out.size (Nat.le_trans HB5.out.size HB6.out.size))).mono ?_
      rintro e w7 ⟨rfl, hb7⟩
      have HB7 := Lib.hid hb7
      have hhead : (⟨((UInt8.ofNat j :: l.flatMap twoB) ++ Z.data.toList).toArray⟩ : ByteArray) = headP l := by
        unfold headP headL
        rw [hZl, ← HN.out]
        simp
      rw [hhead]
      clear hbl6 hb7 hhead hrs hZl
      go_wp2_with fail
      go_ret
      exact ⟨rfl, Fr.of_below (((HW.out.trans (HB5.out.mono HW.out.size)).trans HB6.out).trans HB7.out) (fun _ h _ => h)⟩
end Go.Proofs.YtchilnjocnkodaaGreat
