/- The document's disk: act, Write, SetPower. -/
import Derived.Test.YtimhjhiipghdhaaDskB
namespace Go.Proofs.Ytimhjhiipghdhaa
open Go.RowKit

abbrev tRef : Nat := 49
abbrev tRWrite : Nat := 89
abbrev kR : Kd := ⟨tRef, tRWrite, by decide, by decide, by decide⟩
abbrev IsRef (w : World) (b : Nat) (S : Nat → Prop) (D : DSt) : Prop := IsDsk kR w b S D

set_option maxHeartbeats 400000 in
theorem ract_dead {b : Nat} {S : Nat → Prop} {D : DSt} {w : World} (h : IsRef w b S D) (h0 : D.power = 0) :
    Calls Try.prog 45 #[.pointer (some ⟨b, 0, none⟩)] w fun e w' => e = .returned (.bool false) ∧ IsRef w' b S D.die ∧ Fr S w w' := by
  obtain ⟨bs, cs, sp, wv, h⟩ := h
  have c2 : w.cell? ⟨b, 2, none⟩ = some (.int .i64 0) := by rw [h.head.cell rfl, h0]
  have c3 := h.head.cell (j := 3) rfl
  have f3 := h.head.free 3
  have hb := h.head.set 3 (.bool true)
  have hf : Fr (· = b) w (w.setCell ⟨b, 3, none⟩ (.bool true)) := Fr.setCell (S := (· = b)) rfl w 3 _
  have H := Lib.hid (And.intro (⟨bs, cs, sp, wv, h.turn hb hf h.ok.lo h.ok.hi⟩ : IsRef _ b S D.die) (fr_one h.own hf))
  clear hb hf h
  go_enter Try.func45, Try.ntmps45
  go_wp2
  go_ret
  exact ⟨rfl, H.out⟩

set_option maxHeartbeats 400000 in
theorem ract_live {b : Nat} {S : Nat → Prop} {D : DSt} {w : World} (h : IsRef w b S D) (h0 : D.power ≠ 0) :
    Calls Try.prog 45 #[.pointer (some ⟨b, 0, none⟩)] w fun e w' => e = .returned (.bool true) ∧ IsRef w' b S D.pay ∧ Fr S w w' := by
  obtain ⟨bs, cs, sp, wv, h⟩ := h
  have c2 := h.head.cell (j := 2) rfl
  have f2 := h.head.free 2
  have ep : (D.power == 0) = false := by simpa using h0
  have hlo := h.ok.lo
  have hhi := h.ok.hi
  by_cases hp : 0 < D.power
  · have hb := h.head.set 2 (.int .i64 (D.power - 1))
    have hf : Fr (· = b) w (w.setCell ⟨b, 2, none⟩ (.int .i64 (D.power - 1))) := Fr.setCell (S := (· = b)) rfl w 2 _
    have h1 := h.turn hb hf (by omega) (by omega)
    have h2 : IsRef (w.setCell ⟨b, 2, none⟩ (.int .i64 (D.power - 1))) b S D.pay := ⟨bs, cs, sp, wv, by unfold DSt.pay; rw [if_pos hp]; exact h1⟩
    have H := Lib.hid (And.intro h2 (fr_one h.own hf))
    clear hb hf h h1 h2 h0
    generalize D.power = p at *
    go_enter Try.func45, Try.ntmps45
    go_wp2
    go_ret
    exact ⟨rfl, H.out⟩
  · have h2 : IsRef w b S D.pay := ⟨bs, cs, sp, wv, by unfold DSt.pay; rw [if_neg hp]; exact h⟩
    have H := Lib.hid (And.intro h2 (Fr.refl S w))
    clear h h2 h0
    generalize D.power = p at *
    go_enter Try.func45, Try.ntmps45
    go_wp2
    go_ret
    exact ⟨rfl, H.out⟩

theorem Try.infoRWrite : (Try.prog.info? tRWrite).map (fun i => (i.zero, i.size, i.bytes)) = some (some (.agg #[.int .i64 0, .string ByteArray.empty]), 2, 24) := by kernel_rfl
theorem Try.rowRWrite : RowT Try.prog 47 tRWrite 2 24 := by
  obtain ⟨i0, hi, hz0, hz1, hz2⟩ := info_parts Try.infoRWrite
  exact ⟨⟨i0, _, Try.underlying47, hi, hz0, hz1, hz2, rfl⟩, by decide, by decide⟩

set_option maxHeartbeats 400000 in
theorem rwrite_off {b : Nat} {S : Nat → Prop} {D : DSt} {w : World} (h : IsRef w b S D) (h0 : D.off = true) (i : Int) (s : ByteArray) :
    Calls Try.prog 32 #[.pointer (some ⟨b, 0, none⟩), .int .i64 i, .string s] w fun e w' => e = .returned (.int .i64 7) ∧ w = w' := by
  obtain ⟨bs, cs, sp, wv, h⟩ := h
  have c3 : w.cell? ⟨b, 3, none⟩ = some (.bool true) := by rw [h.head.cell rfl, h0]
  go_enter Try.func32, Try.ntmps32
  go_wp2
  go_ret
  exact ⟨rfl, rfl⟩

set_option maxHeartbeats 400000 in
theorem rwrite_arg {b : Nat} {S : Nat → Prop} {D : DSt} {w : World} (h : IsRef w b S D) (h0 : D.off = false) (i : Int) (s : ByteArray)
    (hi : (i < 0 ∨ (D.safe.length : Int) ≤ i) ∨ s.size ≠ 64) :
    Calls Try.prog 32 #[.pointer (some ⟨b, 0, none⟩), .int .i64 i, .string s] w fun e w' => e = .returned (.int .i64 1) ∧ w = w' := by
  obtain ⟨bs, cs, sp, wv, h⟩ := h
  have c3 : w.cell? ⟨b, 3, none⟩ = some (.bool false) := by rw [h.head.cell rfl, h0]
  have c0 := h.head.cell (j := 0) rfl
  have hn := h.ok.len
  clear h h0
  generalize D.safe.length = n at *
  rcases hi with (hi | hi) | hi
  · go_enter Try.func32, Try.ntmps32
    go_wp2
    go_ret
    exact ⟨rfl, rfl⟩
  · have h2 : ¬ i < 0 := by omega
    go_enter Try.func32, Try.ntmps32
    go_wp2
    go_ret
    exact ⟨rfl, rfl⟩
  · by_cases h2 : i < 0
    · go_enter Try.func32, Try.ntmps32
      go_wp2
      go_ret
      exact ⟨rfl, rfl⟩
    · by_cases h3 : (n : Int) ≤ i
      · go_enter Try.func32, Try.ntmps32
        go_wp2
        go_ret
        exact ⟨rfl, rfl⟩
      · go_enter Try.func32, Try.ntmps32
        go_wp2
        go_ret
        exact ⟨rfl, rfl⟩

set_option maxHeartbeats 400000 in
theorem rwrite_dead {b : Nat} {S : Nat → Prop} {D : DSt} {w : World} (h : IsRef w b S D) (h0 : D.off = false) (i : Int) (s : ByteArray)
    (h1 : 0 ≤ i) (h2 : i < D.safe.length) (h3 : s.size = 64) (h4 : D.power = 0) :
    Calls Try.prog 32 #[.pointer (some ⟨b, 0, none⟩), .int .i64 i, .string s] w fun e w' => e = .returned (.int .i64 7) ∧ IsRef w' b S D.die ∧ Fr S w w' := by
  have HA := Lib.hid (ract_dead h h4)
  obtain ⟨bs, cs, sp, wv, h⟩ := h
  have c3 : w.cell? ⟨b, 3, none⟩ = some (.bool false) := by rw [h.head.cell rfl, h0]
  have c0 := h.head.cell (j := 0) rfl
  have hn := h.ok.len
  clear h h0 h4
  generalize D.safe.length = n at *
  have h5 : ¬ i < 0 := by omega
  go_enter Try.func32, Try.ntmps32
  go_wp2_with (go_at_call 45; refine HA.out.mono ?_; rintro e w' ⟨rfl, hd, hf⟩)
  go_ret
  exact ⟨rfl, hd, hf⟩

set_option maxRecDepth 100000 in
set_option maxHeartbeats 1000000 in
theorem rwrite_ok {b : Nat} {S : Nat → Prop} {D : DSt} {w : World} (h : IsRef w b S D) (h0 : D.off = false) (i : Nat) (s : ByteArray)
    (h2 : i < D.safe.length) (h3 : s.size = 64) (h4 : D.power ≠ 0) (hl : (D.wait.length + 1) * 24 ≤ 140737488355328) :
    Calls Try.prog 32 #[.pointer (some ⟨b, 0, none⟩), .int .i64 i, .string s] w fun e w' =>
      e = .returned (.int .i64 0) ∧ IsRef w' b (Plus S w w') { D.pay with wait := D.wait ++ [(i, s)] } ∧ Fr S w w' := by
  have HA := Lib.hid (ract_live h h4)
  obtain ⟨bs, cs, sp, wv, h⟩ := h
  have c3 : w.cell? ⟨b, 3, none⟩ = some (.bool false) := by rw [h.head.cell rfl, h0]
  have c0 := h.head.cell (j := 0) rfl
  have hn := h.ok.len
  have HL := Lib.hid hl
  clear h h0 h4 hl
  have H3 := Lib.hid h3
  have HI := Lib.hid (show i < D.pay.safe.length from h2)
  have h3' : (s.size : Int) = 64 := by omega
  clear h3
  have hi0 : (i : Int) < (D.safe.length : Int) := by omega
  go_enter Try.func32, Try.ntmps32
  go_wp2_with fail
  refine HA.out.mono ?_; rintro e w1 ⟨rfl, hd, hf⟩
  obtain ⟨bs1, cs1, sp1, wv1, hd⟩ := hd
  have d1 := hd.head.cell (j := 1) rfl; have g1 := hd.head.free 1
  have hown := hd.wait
  have HD := Lib.hid hd
  have HF := Lib.hid hf
  clear hd hf c3 c0
  go_wp2_with (at_builtin; go_loud (refine wpList_append_mine rfl (ho := rfl) (s := .tmp 36) (x := .tmp 40) Try.rowRWrite rfl (hown.alloc _) rfl (srcs_two w1 _ _ _ 1 rfl rfl) HL.out ?_); skip)
  intro v' w2 hown2 hf2 hv2 _
  obtain ⟨g', cap', rfl⟩ := row_succ hown2
  have d2 := ((HD.out.head.alloc _).fr hf2 (fun e => (HD.out.apart e).2.1 rfl)).cell (j := 1) rfl
  have g2 := ((HD.out.head.alloc _).fr hf2 (fun e => (HD.out.apart e).2.1 rfl)).free 1
  go_wp2
  go_ret
  have hw := HD.out.wrote (((Fr.refl _ w1).alloc _).trans hf2) hown2 (fun k hk => (hv2 k hk).imp id (fun h => Nat.le_of_succ_le h)) HI.out H3.out
  exact ⟨rfl, hw.1.mono (plus_mono HF.out.size (Nat.le_refl _)), HF.out.trans hw.2⟩

set_option maxHeartbeats 400000 in
theorem rpower_calls {b : Nat} {S : Nat → Prop} {D : DSt} {w : World} (h : IsRef w b S D) (n : Int) (hn : n ≤ 9223372036854775807) :
    Calls Try.prog 34 #[.pointer (some ⟨b, 0, none⟩), .int .i64 n] w fun e w' => e = .returned (.tuple #[]) ∧ IsRef w' b S (D.setPower n) ∧ Fr S w w' := by
  obtain ⟨bs, cs, sp, wv, h⟩ := h
  have c2 := h.head.cell (j := 2) rfl
  have f2 := h.head.free 2
  have hb := h.head.set 2 (.int .i64 n)
  have hf : Fr (· = b) w (w.setCell ⟨b, 2, none⟩ (.int .i64 n)) := Fr.setCell (S := (· = b)) rfl w 2 _
  have hb2 := hb.set 2 (.int .i64 (-1))
  have hf2 : Fr (· = b) w ((w.setCell ⟨b, 2, none⟩ (.int .i64 n)).setCell ⟨b, 2, none⟩ (.int .i64 (-1))) := hf.set (.inl rfl) 2 _
  by_cases hn0 : n < 0
  · have h1 := h.turn hb2 hf2 (by omega) (by omega)
    have H : Hid (IsRef ((w.setCell ⟨b, 2, none⟩ (.int .i64 n)).setCell ⟨b, 2, none⟩ (.int .i64 (-1))) b S (D.setPower n)) := ⟨bs, cs, sp, wv, by unfold DSt.setPower; rw [if_pos hn0]; exact h1⟩
    have HF := Lib.hid (fr_one h.own hf2)
    have c3 := hb.cell (j := 2) (v := .int .i64 n) rfl
    clear hb hf h h1 hb2 hf2
    go_enter Try.func34, Try.ntmps34
    go_wp2
    go_end0
    exact ⟨rfl, H.out, HF.out⟩
  · have h1 := h.turn hb hf (by omega) (by omega)
    have H : Hid (IsRef (w.setCell ⟨b, 2, none⟩ (.int .i64 n)) b S (D.setPower n)) := ⟨bs, cs, sp, wv, by unfold DSt.setPower; rw [if_neg hn0]; exact h1⟩
    have HF := Lib.hid (fr_one h.own hf)
    clear hb hf h h1 hb2 hf2
    go_enter Try.func34, Try.ntmps34
    go_wp2
    go_end0
    exact ⟨rfl, H.out, HF.out⟩
end Go.Proofs.Ytimhjhiipghdhaa
