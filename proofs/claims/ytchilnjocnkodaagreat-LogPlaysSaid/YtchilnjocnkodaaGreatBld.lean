/- A strings.Builder of the call's own: what is written into it. -/
import Derived.Test.YtchilnjocnkodaaGreatWord
namespace Go.Proofs.YtchilnjocnkodaaGreat
open Go.RowKit

abbrev tBld : Nat := 110
abbrev tPBld : Nat := 107
abbrev tU8 : Nat := 5
theorem Tryz.sizeBld : (Tryz.prog.info? tBld).map (·.size) = some 2 := by kernel_rfl
theorem Tryz.liesBld : liesAt Tryz.prog Tryz.prog.depth tBld (2 / Tryz.prog.cellsOf tBld) 0 tBld 1 = true := by kernel_rfl
/-- A builder whose bytes are l, all of it from block B on. -/
abbrev IsBld (B b : Nat) (l : List UInt8) (w : World) : Prop := Lib.IsBuilder tBld tU8 B b (Lib.byteCells l) w

set_option maxRecDepth 100000 in
set_option maxHeartbeats 1000000 in
theorem bld_check {B b : Nat} {bs : List Value} {w : World} (h : Lib.IsBuilder tBld tU8 B b bs w) :
    Calls Tryz.prog 81 #[.pointer (some ⟨b, 0, none⟩)] w fun e w' => e = .returned (.tuple #[]) ∧ Lib.BuilderAt tBld tU8 B b (.pointer (some ⟨b, 0, none⟩)) bs w' ∧ Below B w w' := by
  obtain ⟨j, hj, hjs⟩ := Option.map_eq_some_iff.1 Tryz.sizeBld
  rcases h with h | h
  · have h0 := h.cell0
    have hsh := h.shape
    have hfz := h.frozen0
    have H : Hid (Lib.BuilderAt tBld tU8 B b (.pointer none) bs w) := h
    clear h
    go_enter Tryz.func81, Tryz.ntmps81
    go_wp2
    rw [Lib.run_to_unsafe w ⟨b, 0, none⟩ Tryz.underlying107 Tryz.underlying129 hj (by rw [hjs]; decide) hsh (Nat.zero_lt_succ 1)]
    simp only [Result.andThen]
    rw [Oper.upon_value]
    go_wp2
    rw [run_callFunc_extern Tryz.func86 (by kernel_rfl) (by kernel_rfl) (by kernel_rfl) (e := Extern.AbiNoEscape.same) (by kernel_rfl)]
    rw [Lib.run_noEscape]
    simp only [Result.andThen]
    rw [Oper.upon_value]
    go_wp2
    rw [Lib.run_from_unsafe w ⟨b, 0, none⟩ Tryz.underlying129 Tryz.underlying107 hj hsh Tryz.liesBld]
    simp only [Result.andThen]
    rw [Oper.upon_value]
    go_wp2
    go_end0
    exact ⟨rfl, H.out.used _, (Below.refl B w).setCell (p := ⟨b, 0, none⟩) H.out.1 _⟩
  · have h0 := h.cell0
    have H : Hid (Lib.BuilderAt tBld tU8 B b (.pointer (some ⟨b, 0, none⟩)) bs w) := h
    clear h
    go_enter Tryz.func81, Tryz.ntmps81
    go_wp2
    rw [Lib.run_neq_ptr_same w _ Tryz.underlying107 hj]
    go_wp2
    go_end0
    exact ⟨rfl, H.out, Below.refl B _⟩

/-- What stands behind an append to the bytes. -/
theorem bld_put {B b : Nat} {v v' : Value} {bs bs' : List Value} {w1 w2 : World} (hB : B ≤ b) (hbk : w1.heap[b]? = some (.cells #[.pointer (some ⟨b, 0, none⟩), v] tBld (0, 0))) (hne : v.ownBlock ≠ some b)
    (hown : w1.ownsRow B tU8 1 v bs.length bs) (hown' : w2.ownsRow B tU8 1 v' bs'.length bs') (hg : w1.grownBy w2 v.ownBlock) :
    Lib.BuilderAt tBld tU8 B b (.pointer (some ⟨b, 0, none⟩)) bs' (w2.setCell ⟨b, 1, none⟩ v') ∧ (B ≤ w1.heap.size → Below B w1 (w2.setCell ⟨b, 1, none⟩ v')) ∧
      w2.cell? ⟨b, 1, none⟩ = some v ∧ w2.frozen? ⟨b, 1, none⟩ = false := by
  have hb2 : w2.heap[b]? = some (.cells #[.pointer (some ⟨b, 0, none⟩), v] tBld (0, 0)) := by
    rw [hg.block b (lt_of_block hbk) (fun e => hne e.symm)]
    exact hbk
  refine ⟨Lib.BuilderAt.put hB hb2 hown' (by decide), fun hs => ?_, by rw [Lib.cell_of_heap hb2]; rfl, Lib.frozen_of_heap hb2 1⟩
  exact ((Below.refl B w1).grown hg hs (fun k hk => (hown.lt k hk).1)).setCell (p := ⟨b, 1, none⟩) hB _

set_option maxRecDepth 100000 in
set_option maxHeartbeats 1000000 in
theorem bld_byte {B b : Nat} {l : List UInt8} {c : Int} {w : World} (h : IsBld B b l w) (hc : 0 ≤ c) (hc2 : c < 256) (hlen : l.length + 1 ≤ 140737488355328) (hB : B ≤ w.heap.size) :
    Calls Tryz.prog 73 #[.pointer (some ⟨b, 0, none⟩), .int .u8 c] w fun e w' => e = .returned .nilIface ∧ IsBld B b (l ++ [UInt8.ofNat c.toNat]) w' ∧ Below B w w' := by
  have H := Lib.hid h
  have HB := Lib.hid hB
  have hcl : (Lib.byteCells l).length = l.length := by simp [Lib.byteCells]
  obtain ⟨i0, hi, hz0, hz1, hz2⟩ := info_parts Tryz.infoU8
  clear h hB
  go_enter Tryz.func73, Tryz.ntmps73
  go_wp2_with fail
  refine (bld_check H.out).mono ?_
  rintro e w1 ⟨rfl, ⟨hBb, v, hbk, hown, hne⟩, hb1⟩
  have c1 : w1.cell? ⟨b, 1, none⟩ = some v := by rw [Lib.cell_of_heap hbk]; rfl
  have HOW := Lib.hid hown
  have HG := Lib.hid hbk
  have HNE := Lib.hid hne
  have HB1 := Lib.hid hb1
  have hs1 := hb1.size
  have hbs : B ≤ w1.heap.size := Nat.le_trans HB.out hs1
  have HBS := Lib.hid hbs
  clear hown hbk hne hb1 hs1 hbs
  go_wp2_with (at_builtin; refine wpList_append_own _ rfl (.tmp 11) (.tmp 13) _ rfl B tU8 i0 (.int .u8 0) 1 1 Tryz.underlying108 hi hz0 hz1 hz2 rfl (by decide) v _ _ rfl (HOW.out.alloc _) ⟨w1.heap.size, 0, none⟩ 1 1 [.int .u8 c] rfl rfl (one_src (World.cell?_alloc_new _ _ _ _)) (by intro u hu; simp at hu; subst hu; rfl) (by rw [hcl]; unfold maxLen; omega) (by rw [hcl]; omega) (by have := HBS.out; simp; omega) ?_; intro v' w2 hown' hgrow _; obtain ⟨g, cap, rfl⟩ := row_succ hown'; obtain ⟨q1, q2, q3, q4⟩ := bld_put (bs' := Lib.byteCells l ++ [.int .u8 c]) hBb (Blk.alloc (cs := [_, _]) HG.out _) HNE.out (HOW.out.alloc _) (by simpa using hown') hgrow)
  go_ret
  rw [hcl] at q1 q2
  refine ⟨rfl, .inr ?_, HB1.out.trans (((Below.refl B w1).alloc HBS.out _).trans (q2 (by have := HBS.out; simp; omega)))⟩
  have e : Lib.byteCells (l ++ [UInt8.ofNat c.toNat]) = Lib.byteCells l ++ [.int .u8 c] := by
    simp [Lib.byteCells]
    omega
  rw [e]
  exact q1

set_option maxRecDepth 100000 in
set_option maxHeartbeats 1000000 in
theorem bld_text {B b : Nat} {l : List UInt8} {s : ByteArray} {w : World} (h : IsBld B b l w) (hlen : l.length + s.size ≤ 140737488355328) (hB : B ≤ w.heap.size) :
    Calls Tryz.prog 64 #[.pointer (some ⟨b, 0, none⟩), .string s] w fun e w' => e = .returned (.tuple #[.int .i64 s.size, .nilIface]) ∧ IsBld B b (l ++ s.data.toList) w' ∧ Below B w w' := by
  have H := Lib.hid h
  have HB := Lib.hid hB
  have HL := Lib.hid hlen
  have hcl : (Lib.byteCells l).length = l.length := by simp [Lib.byteCells]
  obtain ⟨i0, hi, hz0, hz1, hz2⟩ := info_parts Tryz.infoU8
  clear h hB hlen
  go_enter Tryz.func64, Tryz.ntmps64
  go_wp2_with fail
  refine (bld_check H.out).mono ?_
  rintro e w1 ⟨rfl, ⟨hBb, v, hbk, hown, hne⟩, hb1⟩
  have c1 : w1.cell? ⟨b, 1, none⟩ = some v := by rw [Lib.cell_of_heap hbk]; rfl
  have HOW := Lib.hid hown
  have HG := Lib.hid hbk
  have HNE := Lib.hid hne
  have HB1 := Lib.hid hb1
  have hs1 := hb1.size
  have hbs : B ≤ w1.heap.size := Nat.le_trans HB.out hs1
  have HBS := Lib.hid hbs
  have hst : (Lib.strCells s).length = s.size := Lib.strCells_length s
  have HST := Lib.hid hst
  clear hown hbk hne hb1 hs1 hbs hst
  go_wp2_with (at_builtin; refine Lib.wpList_append_own_string _ rfl (.tmp 12) (.tmp 13) 108 9 rfl B tU8 i0 Tryz.underlying108 Tryz.underlying9 hi hz0 hz1 hz2 v _ _ rfl HOW.out s rfl (by have := HL.out; rw [hcl]; unfold maxLen; omega) (by have := HL.out; rw [hcl]; omega) HBS.out ?_; intro v' w2 hown' hgrow _; obtain ⟨ao, cap, rfl⟩ := row_any hown'; obtain ⟨q1, q2, q3, q4⟩ := bld_put (bs' := Lib.byteCells l ++ Lib.strCells s) hBb HG.out HNE.out HOW.out (by simpa [HST.out] using hown') hgrow)
  go_ret2
  rw [hcl] at q1 q2
  refine ⟨rfl, .inr ?_, HB1.out.trans (q2 HBS.out)⟩
  have e : Lib.byteCells (l ++ s.data.toList) = Lib.byteCells l ++ Lib.strCells s := by simp [Lib.byteCells, Lib.strCells]
  rw [e]
  exact q1

/-- A new one. -/
theorem bld_new (w : World) : IsBld w.heap.size w.heap.size [] (w.alloc (.cells #[.pointer none, .slice none 0 0] tBld)) :=
  .inl ⟨Nat.le_refl _, .slice none 0 0, World.alloc_heap_new w _, World.ownsRow_nil _ _ _ _, by simp [Value.ownBlock]⟩
end Go.Proofs.YtchilnjocnkodaaGreat
