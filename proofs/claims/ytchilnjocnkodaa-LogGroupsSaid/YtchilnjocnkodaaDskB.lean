/- The program's disk: Write. -/
import Derived.Test.YtchilnjocnkodaaDskA
namespace Go.Proofs.Ytchilnjocnkodaa
open Go.RowKit

theorem Try.infoWrite : (Try.prog.info? tWrite).map (fun i => (i.zero, i.size, i.bytes)) = some (some (.agg #[.int .i64 0, .string ByteArray.empty]), 2, 24) := by kernel_rfl
theorem Try.rowWrite : RowT Try.prog 58 tWrite 2 24 := by
  obtain ⟨i0, hi, hz0, hz1, hz2⟩ := info_parts Try.infoWrite
  exact ⟨⟨i0, _, Try.underlying58, hi, hz0, hz1, hz2, rfl⟩, by decide, by decide⟩

set_option maxHeartbeats 400000 in
theorem write_off {b : Nat} {S : Nat → Prop} {D : DSt} {w : World} (h : IsDisk w b S D) (h0 : D.off = true) (i : Int) (s : ByteArray) :
    Calls Try.prog 49 #[.pointer (some ⟨b, 0, none⟩), .int .i64 i, .string s] w fun e w' => e = .returned (.int .i64 7) ∧ w = w' := by
  obtain ⟨bs, cs, sp, wv, h⟩ := h
  have c3 : w.cell? ⟨b, 3, none⟩ = some (.bool true) := by rw [h.head.cell rfl, h0]
  go_enter Try.func49, Try.ntmps49
  go_wp2
  go_ret
  exact ⟨rfl, rfl⟩

set_option maxHeartbeats 400000 in
theorem write_arg {b : Nat} {S : Nat → Prop} {D : DSt} {w : World} (h : IsDisk w b S D) (h0 : D.off = false) (i : Int) (s : ByteArray)
    (hi : (i < 0 ∨ (D.safe.length : Int) ≤ i) ∨ s.size ≠ 64) :
    Calls Try.prog 49 #[.pointer (some ⟨b, 0, none⟩), .int .i64 i, .string s] w fun e w' => e = .returned (.int .i64 1) ∧ w = w' := by
  obtain ⟨bs, cs, sp, wv, h⟩ := h
  have c3 : w.cell? ⟨b, 3, none⟩ = some (.bool false) := by rw [h.head.cell rfl, h0]
  have c0 := h.head.cell (j := 0) rfl
  have hn := h.ok.len
  clear h h0
  generalize D.safe.length = n at *
  rcases hi with (hi | hi) | hi
  · go_enter Try.func49, Try.ntmps49
    go_wp2
    go_ret
    exact ⟨rfl, rfl⟩
  · have h2 : ¬ i < 0 := by omega
    go_enter Try.func49, Try.ntmps49
    go_wp2
    go_ret
    exact ⟨rfl, rfl⟩
  · by_cases h2 : i < 0
    · go_enter Try.func49, Try.ntmps49
      go_wp2
      go_ret
      exact ⟨rfl, rfl⟩
    · by_cases h3 : (n : Int) ≤ i
      · go_enter Try.func49, Try.ntmps49
        go_wp2
        go_ret
        exact ⟨rfl, rfl⟩
      · go_enter Try.func49, Try.ntmps49
        go_wp2
        go_ret
        exact ⟨rfl, rfl⟩

set_option maxHeartbeats 400000 in
theorem write_dead {b : Nat} {S : Nat → Prop} {D : DSt} {w : World} (h : IsDisk w b S D) (h0 : D.off = false) (i : Int) (s : ByteArray)
    (h1 : 0 ≤ i) (h2 : i < D.safe.length) (h3 : s.size = 64) (h4 : D.power = 0) :
    Calls Try.prog 49 #[.pointer (some ⟨b, 0, none⟩), .int .i64 i, .string s] w fun e w' => e = .returned (.int .i64 7) ∧ IsDisk w' b S D.die ∧ Fr S w w' := by
  have HA := Lib.hid (act_dead h h4)
  obtain ⟨bs, cs, sp, wv, h⟩ := h
  have c3 : w.cell? ⟨b, 3, none⟩ = some (.bool false) := by rw [h.head.cell rfl, h0]
  have c0 := h.head.cell (j := 0) rfl
  have hn := h.ok.len
  clear h h0 h4
  generalize D.safe.length = n at *
  have h5 : ¬ i < 0 := by omega
  go_enter Try.func49, Try.ntmps49
  go_wp2_with (go_at_call 63; refine HA.out.mono ?_; rintro e w' ⟨rfl, hd, hf⟩)
  go_ret
  exact ⟨rfl, hd, hf⟩

theorem DSt.Ok.pay {D : DSt} (h : D.Ok) : D.pay.Ok := by
  obtain ⟨h1, h0, h2, h3, h4, h5, h6⟩ := h
  refine ⟨h1, h0, h2, h3, h4, ?_, ?_⟩
  all_goals (unfold DSt.pay; simp only; split <;> omega)

set_option maxRecDepth 100000 in
set_option maxHeartbeats 1000000 in
theorem write_ok {b : Nat} {S : Nat → Prop} {D : DSt} {w : World} (h : IsDisk w b S D) (h0 : D.off = false) (i : Nat) (s : ByteArray)
    (h2 : i < D.safe.length) (h3 : s.size = 64) (h4 : D.power ≠ 0) (hl : (D.wait.length + 1) * 24 ≤ 140737488355328) :
    Calls Try.prog 49 #[.pointer (some ⟨b, 0, none⟩), .int .i64 i, .string s] w fun e w' =>
      e = .returned (.int .i64 0) ∧ IsDisk w' b (Plus S w w') { D.pay with wait := D.wait ++ [(i, s)] } ∧ Fr S w w' := by
  have HA := Lib.hid (act_live h h4)
  obtain ⟨bs, cs, sp, wv, h⟩ := h
  have c3 : w.cell? ⟨b, 3, none⟩ = some (.bool false) := by rw [h.head.cell rfl, h0]
  have c0 := h.head.cell (j := 0) rfl
  have hn := h.ok.len
  have HL := Lib.hid hl
  clear h h0 h4 hl
  have H3 := Lib.hid h3
  have HI := Lib.hid (show i < D.pay.safe.length from h2)
  have h3' : (s.size : Int) = 64 := by omega
  clear h3
  have hi0 : (i : Int) < (D.safe.length : Int) := by omega
  go_enter Try.func49, Try.ntmps49
  go_wp2_with fail
  refine HA.out.mono ?_; rintro e w1 ⟨rfl, hd, hf⟩
  obtain ⟨bs1, cs1, sp1, wv1, hd⟩ := hd
  have d1 := hd.head.cell (j := 1) rfl; have g1 := hd.head.free 1
  have hown := hd.wait
  have HD := Lib.hid hd
  have HF := Lib.hid hf
  clear hd hf c3 c0
  go_wp2_with (at_builtin; go_loud (refine wpList_append_mine rfl (ho := rfl) (s := .tmp 40) (x := .tmp 44) Try.rowWrite rfl (hown.alloc _) rfl (srcs_two w1 _ _ _ 1 rfl rfl) HL.out ?_); skip)
  intro v' w2 hown2 hf2 hv2 _
  obtain ⟨g', cap', rfl⟩ := row_succ hown2
  have d2 := ((HD.out.head.alloc _).fr hf2 (fun e => (HD.out.apart e).2.1 rfl)).cell (j := 1) rfl
  have g2 := ((HD.out.head.alloc _).fr hf2 (fun e => (HD.out.apart e).2.1 rfl)).free 1
  go_wp2
  go_ret
  have hw := HD.out.wrote (((Fr.refl _ w1).alloc _).trans hf2) hown2 (fun k hk => (hv2 k hk).imp id (fun h => Nat.le_of_succ_le h)) HI.out H3.out
  exact ⟨rfl, hw.1.mono (plus_mono HF.out.size (Nat.le_refl _)), HF.out.trans hw.2⟩
end Go.Proofs.Ytchilnjocnkodaa
