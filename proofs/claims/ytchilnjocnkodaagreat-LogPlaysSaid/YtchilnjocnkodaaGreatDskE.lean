/- slices.Repeat of one text; the program's disk: New. -/
import Derived.Test.YtchilnjocnkodaaGreatMDskA
import Derived.Test.YtchilnjocnkodaaGreatShelf
namespace Go.Proofs.YtchilnjocnkodaaGreat
open Go.RowKit

theorem splice_rep {α : Type} (x z : α) (m n k : Nat) : splice (List.replicate m x ++ List.replicate (n - m) z) m (List.replicate k x) = List.replicate (m + k) x ++ List.replicate (n - (m + k)) z := by
  unfold splice
  rw [List.take_append_of_le_length (by simp), List.take_of_length_le (by simp), List.drop_append, List.drop_eq_nil_of_le (by simp), List.nil_append, ← List.append_assoc, List.replicate_append_replicate]
  simp
  omega

set_option maxRecDepth 100000 in
set_option maxHeartbeats 1000000 in
theorem repeat_one {g c n : Nat} {x : ByteArray} {w : World} (hx : w.cell? ⟨g, 0, none⟩ = some (.string x)) (hn1 : 1 ≤ n) (hn : n ≤ 1000000) :
    Calls Tryz.prog 42 #[.slice (some ⟨g, 0, none⟩) 1 c, .int .i64 n] w fun e w' =>
      ∃ bs, e = .returned (.slice (some ⟨bs, 0, none⟩) n n) ∧ Blk w' bs tStr (List.replicate n (.string x)) ∧ w.heap.size ≤ bs ∧ Fr Nob w w' := by
  have hm : (n : Int).toNat = n := by omega
  have HM := Lib.hid (Tryz.bits_Mul 1 n (by omega) (by omega) w)
  rw [show 1 * n / 18446744073709551616 = 0 by omega, show 1 * n % 18446744073709551616 = n by omega] at HM
  have hmin : ([Value.string x] : List Value).length = Nat.min 1 n := by show 1 = min 1 n; omega
  go_enter Tryz.func42, Tryz.ntmps42
  go_wp2_with fail
  refine HM.out.mono ?_
  rintro e w1 ⟨rfl, rfl⟩
  go_wp2_with (first | (at_make; refine wpList_make_mine (n := n) (l := .tmp 29) (c := .tmp 29) rfl rfl Tryz.underlying22 Tryz.infoStr rfl rfl rfl (by omega) (by omega) ?_; intro w2 hb2 hf2 hs2; have c2 := (hf2.block g (World.block_lt_of_cell? _ _ hx) (fun h => h)); have c3 := (World.cell?_of_block (w := w1) (w' := w2) (a := ⟨g, 0, none⟩) c2).trans hx) | (with_reducible show wpList _ _ _ _ _ _; refine wpList_copy_mine (d := .tmp 31) (s := .tmp 32) rfl rfl Tryz.rowStr rfl rfl hb2 (cs := [.string x]) hmin (one_src c3) (by simp; omega) (by simp [Value.oneCell']) ?_; intro w3 hb3 hf3 hs3))
  rw [show splice (List.replicate n (Value.string ByteArray.empty)) 0 [Value.string x] = List.replicate 1 (Value.string x) ++ List.replicate (n - 1) (Value.string ByteArray.empty) by simp [splice, List.drop_replicate]] at hb3
  have HB := Lib.hid hb3
  have HF : Hid (Fr Nob w1 w3) := hf2.trans' hf3 (fun i hi e => by subst e; omega)
  clear hb2 hb3 hf2 hf3 c2 c3 hx hmin hm
  have h2 : w1.heap.size < w3.heap.size := by omega
  clear hs2 hs3
  go_loopw [8] (fun i wr => ∃ m : Nat, 1 ≤ m ∧ m ≤ n ∧ i = .int .i64 m ∧ Blk wr w1.heap.size tStr (List.replicate m (.string x) ++ List.replicate (n - m) (.string ByteArray.empty)) ∧ Fr Nob w1 wr) (fun i _ => n - (intOf i).toNat)
  case atStart => exact ⟨1, Nat.le_refl _, hn1, rfl, HB.out, HF.out⟩
  case round =>
    obtain ⟨m, hm1, hm2, rfl, hb, hf⟩ := hrel
    have HF1 := Lib.hid hf
    clear hf
    by_cases hlt : m < n
    · have hb1 := hb.drew
      have e1 : (List.replicate (min m (n - m)) (Value.string x)).length = Nat.min m (n - m) := by simp
      have e2 := blk_src (k := 0) (cs := List.replicate (min m (n - m)) (Value.string x)) hb1 (by
        intro j v hj
        rw [List.getElem?_replicate] at hj
        split at hj
        · rename_i h
          rw [Nat.zero_add, List.getElem?_append_left (by simp; omega), List.getElem?_replicate, if_pos (by omega)]
          exact hj
        · cases hj)
      have e3 : m + (List.replicate (min m (n - m)) (Value.string x)).length ≤ (List.replicate m (Value.string x) ++ List.replicate (n - m) (Value.string ByteArray.empty)).length := by simp; omega
      have e4 : ∀ v ∈ List.replicate (min m (n - m)) (Value.string x), v.oneCell' = true := by
        intro v hv; rw [List.eq_of_mem_replicate hv]; rfl
      have E1 := Lib.hid e1
      have E2 := Lib.hid e2
      have E3 := Lib.hid e3
      have E4 := Lib.hid e4
      have HB1 := Lib.hid hb1
      clear hb hb1 e1 e2 e3 e4
      go_wp2_with fail
      go_region_law (refine step_copy_mine (d := .tmp 41) (s := .tmp 44) (g := w1.heap.size) (off := m) (dLen := n - m) (dCap := n - m) (ad := ⟨w1.heap.size, 0, none⟩) (sLen := m) (sCap := n) rfl rfl Tryz.rowStr (by simp [Act.eval, Act.put]; omega) (by simp [Act.eval, Act.put]) HB1.out E1.out E2.out E3.out E4.out ?_; intro w4 hb4 hf4 hs4)
      have hwr : IntKind.i64.wrap ((m : Int) + ((min m (n - m) : Nat) : Int)) = ((m + min m (n - m) : Nat) : Int) := by rw [IntWalk.i64_in _ (by omega)]; omega
      have HW := Lib.hid hwr
      clear hwr
      go_wp2_with fail
      have hwr := HW.out
      go_roundw
      case rel =>
        rw [splice_rep] at hb4
        refine ⟨m + min m (n - m), by omega, by omega, ?_, hb4, ?_⟩
        · exact hwr
        · exact HF1.out.drew.trans' hf4 (fun i hi e => by subst e; omega)
      case measure =>
        show n - (IntKind.i64.wrap ((m : Int) + ((min m (n - m) : Nat) : Int))).toNat < _
        rw [hwr]; simp [intOf]; omega
    · obtain rfl : m = n := by omega
      have HB1 := Lib.hid hb
      clear hb
      go_wp2_with fail
      go_ret
      exact ⟨_, rfl, by simpa using HB1.out, Nat.le_refl _, HF1.out⟩

/-- A sector of noughts. -/
def nought : ByteArray := ⟨(Lib.repeatL [0] 64).toArray⟩
theorem nought_size : nought.size = 64 := by decide +kernel
def DSt.fresh (n : Nat) : DSt := { safe := List.replicate n nought, wait := [], power := -1, off := false }

theorem DSt.fresh_ok {n : Nat} (h1 : 48 ≤ n) (h2 : n ≤ 544) : (DSt.fresh n).Ok := by
  refine ⟨by simp [DSt.fresh]; omega, by simp [DSt.fresh]; omega, by simp [DSt.fresh], ?_, by simp [DSt.fresh], by simp [DSt.fresh], by simp [DSt.fresh]⟩
  intro s hs
  rw [List.eq_of_mem_replicate hs]; exact nought_size

set_option maxHeartbeats 400000 in
theorem new_arg (n : Int) (w : World) (hn : n < 48 ∨ 544 < n) :
    Calls Tryz.prog 20 #[.int .i64 n] w fun e w' => e = .returned (.tuple #[.pointer none, .int .i64 1]) ∧ w = w' := by
  rcases hn with hn | hn
  · go_enter Tryz.func20, Tryz.ntmps20
    go_wp2
    go_ret2
    exact ⟨rfl, rfl⟩
  · have h2 : ¬ n < 48 := by omega
    go_enter Tryz.func20, Tryz.ntmps20
    go_wp2
    go_ret2
    exact ⟨rfl, rfl⟩

set_option maxHeartbeats 400000 in
theorem new_ok (n : Nat) (w : World) (h1 : 48 ≤ n) (h2 : n ≤ 544) :
    Calls Tryz.prog 20 #[.int .i64 n] w fun e w' => ∃ b, e = .returned (.tuple #[.pointer (some ⟨b, 0, none⟩), .int .i64 0]) ∧ IsDisk w' b (Plus Nob w w') (DSt.fresh n) ∧ Fr Nob w w' := by
  have HR : Hid (Calls Tryz.prog 43 #[.string ⟨#[0]⟩, .int .i64 64] w fun e w' => e = .returned (.string nought) ∧ Below w.heap.size w w') :=
    Lib.hid (Tryz.strings_Repeat (⟨#[0]⟩ : ByteArray) 64 w (by omega) (by decide))
  go_enter Tryz.func20, Tryz.ntmps20
  go_wp2_with fail
  refine HR.out.mono ?_
  rintro e w1 ⟨rfl, hb⟩
  have HF1 : Hid (Fr Nob w w1) := Fr.of_below hb (fun _ h _ => h)
  clear hb
  go_wp2_with fail
  refine (repeat_one (x := nought) (World.cell?_alloc_new _ _ _ _) (by omega) (by omega)).mono ?_
  rintro e w2 ⟨bs, rfl, hb2, hbs, hf2⟩
  have HB2 := Lib.hid hb2
  have HF2 : Hid (Fr Nob w w2) := (HF1.out.alloc _).trans hf2
  have HS : Hid (w.heap.size ≤ bs) := by have := HF1.out.size; simp at hbs; show _ ≤ _; omega
  clear hb2 hf2 hbs
  go_wp2_with fail
  go_ret2
  have hb := HB2.out
  have hlt := hb.lt
  refine ⟨_, rfl, ⟨bs, n, [], .slice none 0 0, ?_, ?_, World.ownsRow_nil _ _ _ _, ?_, ?_, fun k hk => (by cases hk), ?_⟩, HF2.out.alloc _⟩
  · rw [show (DSt.fresh n).safe.length = n by simp [DSt.fresh]]
    exact Blk.new _ _ [_, _, _, _]
  · have := hb.alloc (.cells #[.slice (some ⟨bs, 0, none⟩) n n, .slice none 0 0, .int .i64 (-1), .bool false] tDisk)
    simpa [strs, DSt.fresh] using this
  · exact .inr ⟨HF2.out.size, by simp⟩
  · exact .inr ⟨HS.out, by simp; omega⟩
  · refine ⟨by simp [DSt.fresh]; omega, by simp [DSt.fresh]; omega, by simp [DSt.fresh], ?_, by simp [DSt.fresh], by simp [DSt.fresh], by simp [DSt.fresh]⟩
    intro s hs
    rw [List.eq_of_mem_replicate hs]; exact nought_size
end Go.Proofs.YtchilnjocnkodaaGreat
