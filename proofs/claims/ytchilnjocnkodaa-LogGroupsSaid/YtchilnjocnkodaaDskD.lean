/- The program's disk: Power, Waiting, Sectors, Image. -/
import Derived.Test.YtchilnjocnkodaaDskC
import Derived.WalkSpells
namespace Go.Proofs.Ytchilnjocnkodaa
open Go.RowKit

theorem Try.infoStr : (Try.prog.info? tStr).map (fun i => (i.zero, i.size, i.bytes)) = some (some (.string ByteArray.empty), 1, 16) := by kernel_rfl
theorem Try.rowStr : RowT Try.prog 24 tStr 1 16 := by
  obtain ⟨i0, hi, hz0, hz1, hz2⟩ := info_parts Try.infoStr
  exact ⟨⟨i0, _, Try.underlying24, hi, hz0, hz1, hz2, rfl⟩, by decide, by decide⟩

set_option maxHeartbeats 400000 in
theorem power_calls {b : Nat} {S : Nat → Prop} {D : DSt} {w : World} (h : IsDisk w b S D) (n : Int) (hn : n ≤ 9223372036854775807) :
    Calls Try.prog 16 #[.pointer (some ⟨b, 0, none⟩), .int .i64 n] w fun e w' => e = .returned (.tuple #[]) ∧ IsDisk w' b S (D.setPower n) ∧ Fr S w w' := by
  obtain ⟨bs, cs, sp, wv, h⟩ := h
  have c2 := h.head.cell (j := 2) rfl
  have f2 := h.head.free 2
  have hb := h.head.set 2 (.int .i64 (if n < 0 then -1 else n))
  have hf : Fr (· = b) w (w.setCell ⟨b, 2, none⟩ (.int .i64 (if n < 0 then -1 else n))) := Fr.setCell (S := (· = b)) rfl w 2 _
  have h1 := h.turn hb hf (by split <;> omega) (by split <;> omega)
  have H2 : ∀ m : Int, m = (if n < 0 then -1 else n) → IsDisk (w.setCell ⟨b, 2, none⟩ (.int .i64 m)) b S (D.setPower n) ∧ Fr S w (w.setCell ⟨b, 2, none⟩ (.int .i64 m)) := by
    rintro m rfl
    exact And.intro ⟨bs, cs, sp, wv, h1⟩ (fr_one h.own hf)
  have H := Lib.hid H2
  clear hb hf h h1 H2
  go_enter Try.func16, Try.ntmps16
  go_wp2
  all_goals
    go_end0
    refine ⟨rfl, H.out _ ?_⟩
    split <;> omega

set_option maxHeartbeats 400000 in
theorem waiting_calls {b : Nat} {S : Nat → Prop} {D : DSt} {w : World} (h : IsDisk w b S D) :
    Calls Try.prog 25 #[.pointer (some ⟨b, 0, none⟩)] w fun e w' => e = .returned (.int .i64 D.wait.length) ∧ w = w' := by
  obtain ⟨bs, cs, sp, wv, h⟩ := h
  have c1 := h.head.cell (j := 1) rfl
  rcases row_form h.wait with ⟨h1, h2⟩ | ⟨g, cap, h1⟩
  · rw [h1] at c1
    rw [h2]
    clear h h1 h2
    go_enter Try.func25, Try.ntmps25
    go_wp2
    go_ret
    exact ⟨rfl, rfl⟩
  · rw [h1] at c1
    clear h h1
    go_enter Try.func25, Try.ntmps25
    go_wp2
    go_ret
    exact ⟨rfl, rfl⟩

set_option maxHeartbeats 400000 in
theorem sectors_calls {b : Nat} {S : Nat → Prop} {D : DSt} {w : World} (h : IsDisk w b S D) :
    Calls Try.prog 31 #[.pointer (some ⟨b, 0, none⟩)] w fun e w' => e = .returned (.int .i64 D.safe.length) ∧ w = w' := by
  obtain ⟨bs, cs, sp, wv, h⟩ := h
  have c1 := h.head.cell (j := 0) rfl
  clear h
  go_enter Try.func31, Try.ntmps31
  go_wp2
  go_ret
  exact ⟨rfl, rfl⟩

set_option maxHeartbeats 400000 in
theorem clone_strs {g n c : Nat} {l : List ByteArray} {w : World} (h : Srcs w (.slice (some ⟨g, 0, none⟩) n c) n 1 (strs l)) (hn : n * 16 ≤ 140737488355328) :
    Calls Try.prog 39 #[.slice (some ⟨g, 0, none⟩) n c] w fun e w' => ∃ v, e = .returned v ∧ w'.ownsRow 0 tStr 1 v n (strs l) ∧ (∀ k, v.ownBlock = some k → w.heap.size ≤ k) ∧ Fr Nob w w' := by
  have hnil := fun (w : World) => Lib.run_eql_slice_nil (P := Try.prog) w
  have hown : (w.alloc (.cells #[] tStr)).ownsRow 0 tStr 1 (.slice (some ⟨w.heap.size, 0, none⟩) 0 0) 0 [] := World.ownsRow_made w #[] 0 (Nat.zero_le _) (by unfold maxLen; omega) rfl
  have HS := Lib.hid h
  have HN := Lib.hid hn
  clear h hn
  go_enter Try.func39, Try.ntmps39
  go_wp2_with (at_builtin; refine wpList_append_mine rfl (ho := rfl) (s := .tmp 5) (x := .tmp 6) Try.rowStr rfl hown rfl (HS.out.alloc _) (by have := HN.out; omega) ?_; intro v' w2 hown2 hf2 hv2 _; obtain ⟨ao2, c2, rfl⟩ := row_any hown2)
  go_ret
  rw [Nat.zero_add, List.nil_append] at hown2
  refine ⟨.slice ao2 n c2, rfl, hown2, fun k hk => ?_, ?_⟩
  · rcases hv2 k (by rw [Nat.zero_add]; exact hk) with h | h
    · have : w.heap.size = k := Option.some.inj h
      omega
    · exact Nat.le_of_succ_le (by simpa using h)
  · refine Fr.trans' ((Fr.refl Nob w).alloc _) hf2 (fun i hi e => ?_)
    have : w.heap.size = i := Option.some.inj e
    omega

set_option maxHeartbeats 400000 in
theorem image_calls {b : Nat} {S : Nat → Prop} {D : DSt} {w : World} (h : IsDisk w b S D) :
    Calls Try.prog 26 #[.pointer (some ⟨b, 0, none⟩)] w fun e w' => ∃ v, e = .returned v ∧ w'.ownsRow 0 tStr 1 v D.safe.length (strs D.safe) ∧ (∀ k, v.ownBlock = some k → w.heap.size ≤ k) ∧ Fr Nob w w' := by
  obtain ⟨bs, cs, sp, wv, h⟩ := h
  have c1 := h.head.cell (j := 0) rfl
  have hs := h.srcs cs
  have HC := Lib.hid (clone_strs hs (by have := h.ok.len; omega))
  clear h hs
  go_enter Try.func26, Try.ntmps26
  go_wp2_with (go_at_call 39; refine HC.out.mono ?_; rintro e w' ⟨v, rfl, H⟩)
  go_ret
  exact ⟨v, rfl, H⟩
end Go.Proofs.Ytchilnjocnkodaa
