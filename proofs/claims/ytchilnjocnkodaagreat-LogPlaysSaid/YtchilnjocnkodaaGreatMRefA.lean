/- The document's disk: act, Write, SetPower. The document's disk: Flush, Read. The document's disk: Crash. -/
import Derived.Test.YtchilnjocnkodaaGreatMDskA
import Derived.Test.YtchilnjocnkodaaGreatDskH
namespace Go.Proofs.YtchilnjocnkodaaGreat
open Go.RowKit

abbrev tRef : Nat := 46
abbrev tRWrite : Nat := 78
abbrev kR : Kd := ⟨tRef, tRWrite, by decide, by decide, by decide⟩
abbrev IsRef (w : World) (b : Nat) (S : Nat → Prop) (D : DSt) : Prop := IsDsk kR w b S D

set_option maxHeartbeats 400000 in
theorem ract_dead {b : Nat} {S : Nat → Prop} {D : DSt} {w : World} (h : IsRef w b S D) (h0 : D.power = 0) :
    Calls Tryz.prog 77 #[.pointer (some ⟨b, 0, none⟩)] w fun e w' => e = .returned (.bool false) ∧ IsRef w' b S D.die ∧ Fr S w w' := by
  obtain ⟨bs, cs, sp, wv, h⟩ := h
  have c2 : w.cell? ⟨b, 2, none⟩ = some (.int .i64 0) := by rw [h.head.cell rfl, h0]
  have c3 := h.head.cell (j := 3) rfl
  have f3 := h.head.free 3
  have hb := h.head.set 3 (.bool true)
  have hf : Fr (· = b) w (w.setCell ⟨b, 3, none⟩ (.bool true)) := Fr.setCell (S := (· = b)) rfl w 3 _
  have H := Lib.hid (And.intro (⟨bs, cs, sp, wv, h.turn hb hf h.ok.lo h.ok.hi⟩ : IsRef _ b S D.die) (fr_one h.own hf))
  clear hb hf h
  go_enter Tryz.func77, Tryz.ntmps77
  go_wp2
  go_ret
  exact ⟨rfl, H.out⟩

set_option maxHeartbeats 400000 in
theorem ract_live {b : Nat} {S : Nat → Prop} {D : DSt} {w : World} (h : IsRef w b S D) (h0 : D.power ≠ 0) :
    Calls Tryz.prog 77 #[.pointer (some ⟨b, 0, none⟩)] w fun e w' => e = .returned (.bool true) ∧ IsRef w' b S D.pay ∧ Fr S w w' := by
  obtain ⟨bs, cs, sp, wv, h⟩ := h
  have c2 := h.head.cell (j := 2) rfl
  have f2 := h.head.free 2
  have ep : (D.power == 0) = false := by simpa using h0
  have hlo := h.ok.lo
  have hhi := h.ok.hi
  by_cases hp : 0 < D.power
  · have hb := h.head.set 2 (.int .i64 (D.power - 1))
    have hf : Fr (· = b) w (w.setCell ⟨b, 2, none⟩ (.int .i64 (D.power - 1))) := Fr.setCell (S := (· = b)) rfl w 2 _
    have h1 := h.turn hb hf (by omega) (by omega)
    have h2 : IsRef (w.setCell ⟨b, 2, none⟩ (.int .i64 (D.power - 1))) b S D.pay := ⟨bs, cs, sp, wv, by unfold DSt.pay; rw [if_pos hp]; exact h1⟩
    have H := Lib.hid (And.intro h2 (fr_one h.own hf))
    clear hb hf h h1 h2 h0
    generalize D.power = p at *
    go_enter Tryz.func77, Tryz.ntmps77
    go_wp2
    go_ret
    exact ⟨rfl, H.out⟩
  · have h2 : IsRef w b S D.pay := ⟨bs, cs, sp, wv, by unfold DSt.pay; rw [if_neg hp]; exact h⟩
    have H := Lib.hid (And.intro h2 (Fr.refl S w))
    clear h h2 h0
    generalize D.power = p at *
    go_enter Tryz.func77, Tryz.ntmps77
    go_wp2
    go_ret
    exact ⟨rfl, H.out⟩

theorem Tryz.infoRWrite : (Tryz.prog.info? tRWrite).map (fun i => (i.zero, i.size, i.bytes)) = some (some (.agg #[.int .i64 0, .string ByteArray.empty]), 2, 24) := by kernel_rfl
theorem Tryz.rowRWrite : RowT Tryz.prog 44 tRWrite 2 24 := by
  obtain ⟨i0, hi, hz0, hz1, hz2⟩ := info_parts Tryz.infoRWrite
  exact ⟨⟨i0, _, Tryz.underlying44, hi, hz0, hz1, hz2, rfl⟩, by decide, by decide⟩

set_option maxHeartbeats 400000 in
theorem rwrite_off {b : Nat} {S : Nat → Prop} {D : DSt} {w : World} (h : IsRef w b S D) (h0 : D.off = true) (i : Int) (s : ByteArray) :
    Calls Tryz.prog 57 #[.pointer (some ⟨b, 0, none⟩), .int .i64 i, .string s] w fun e w' => e = .returned (.int .i64 7) ∧ w = w' := by
  obtain ⟨bs, cs, sp, wv, h⟩ := h
  have c3 : w.cell? ⟨b, 3, none⟩ = some (.bool true) := by rw [h.head.cell rfl, h0]
  go_enter Tryz.func57, Tryz.ntmps57
  go_wp2
  go_ret
  exact ⟨rfl, rfl⟩

set_option maxHeartbeats 400000 in
theorem rwrite_arg {b : Nat} {S : Nat → Prop} {D : DSt} {w : World} (h : IsRef w b S D) (h0 : D.off = false) (i : Int) (s : ByteArray)
    (hi : (i < 0 ∨ (D.safe.length : Int) ≤ i) ∨ s.size ≠ 64) :
    Calls Tryz.prog 57 #[.pointer (some ⟨b, 0, none⟩), .int .i64 i, .string s] w fun e w' => e = .returned (.int .i64 1) ∧ w = w' := by
  obtain ⟨bs, cs, sp, wv, h⟩ := h
  have c3 : w.cell? ⟨b, 3, none⟩ = some (.bool false) := by rw [h.head.cell rfl, h0]
  have c0 := h.head.cell (j := 0) rfl
  have hn := h.ok.len
  clear h h0
  generalize D.safe.length = n at *
  rcases hi with (hi | hi) | hi
  · go_enter Tryz.func57, Tryz.ntmps57
    go_wp2
    go_ret
    exact ⟨rfl, rfl⟩
  · have h2 : ¬ i < 0 := by omega
    go_enter Tryz.func57, Tryz.ntmps57
    go_wp2
    go_ret
    exact ⟨rfl, rfl⟩
  · by_cases h2 : i < 0
    · go_enter Tryz.func57, Tryz.ntmps57
      go_wp2
      go_ret
      exact ⟨rfl, rfl⟩
    · by_cases h3 : (n : Int) ≤ i
      · go_enter Tryz.func57, Tryz.ntmps57
        go_wp2
        go_ret
        exact ⟨rfl, rfl⟩
      · go_enter Tryz.func57, Tryz.ntmps57
        go_wp2
        go_ret
        exact ⟨rfl, rfl⟩

set_option maxHeartbeats 400000 in
theorem rwrite_dead {b : Nat} {S : Nat → Prop} {D : DSt} {w : World} (h : IsRef w b S D) (h0 : D.off = false) (i : Int) (s : ByteArray)
    (h1 : 0 ≤ i) (h2 : i < D.safe.length) (h3 : s.size = 64) (h4 : D.power = 0) :
    Calls Tryz.prog 57 #[.pointer (some ⟨b, 0, none⟩), .int .i64 i, .string s] w fun e w' => e = .returned (.int .i64 7) ∧ IsRef w' b S D.die ∧ Fr S w w' := by
  have HA := Lib.hid (ract_dead h h4)
  obtain ⟨bs, cs, sp, wv, h⟩ := h
  have c3 : w.cell? ⟨b, 3, none⟩ = some (.bool false) := by rw [h.head.cell rfl, h0]
  have c0 := h.head.cell (j := 0) rfl
  have hn := h.ok.len
  clear h h0 h4
  generalize D.safe.length = n at *
  have h5 : ¬ i < 0 := by omega
  go_enter Tryz.func57, Tryz.ntmps57
  go_wp2_with (go_at_call 77; refine HA.out.mono ?_; rintro e w' ⟨rfl, hd, hf⟩)
  go_ret
  exact ⟨rfl, hd, hf⟩

set_option maxRecDepth 100000 in
set_option maxHeartbeats 1000000 in
theorem rwrite_ok {b : Nat} {S : Nat → Prop} {D : DSt} {w : World} (h : IsRef w b S D) (h0 : D.off = false) (i : Nat) (s : ByteArray)
    (h2 : i < D.safe.length) (h3 : s.size = 64) (h4 : D.power ≠ 0) (hl : (D.wait.length + 1) * 24 ≤ 140737488355328) :
    Calls Tryz.prog 57 #[.pointer (some ⟨b, 0, none⟩), .int .i64 i, .string s] w fun e w' =>
      e = .returned (.int .i64 0) ∧ IsRef w' b (Plus S w w') { D.pay with wait := D.wait ++ [(i, s)] } ∧ Fr S w w' := by
  have HA := Lib.hid (ract_live h h4)
  obtain ⟨bs, cs, sp, wv, h⟩ := h
  have c3 : w.cell? ⟨b, 3, none⟩ = some (.bool false) := by rw [h.head.cell rfl, h0]
  have c0 := h.head.cell (j := 0) rfl
  have hn := h.ok.len
  have HL := Lib.hid hl
  clear h h0 h4 hl
  have H3 := Lib.hid h3
  have HI := Lib.hid (show i < D.pay.safe.length from h2)
  have h3' : (s.size : Int) = 64 := by omega
  clear h3
  have hi0 : (i : Int) < (D.safe.length : Int) := by omega
  go_enter Tryz.func57, Tryz.ntmps57
  go_wp2_with fail
  refine HA.out.mono ?_; rintro e w1 ⟨rfl, hd, hf⟩
  obtain ⟨bs1, cs1, sp1, wv1, hd⟩ := hd
  have d1 := hd.head.cell (j := 1) rfl; have g1 := hd.head.free 1
  have hown := hd.wait
  have HD := Lib.hid hd
  have HF := Lib.hid hf
  clear hd hf c3 c0
  go_wp2_with (at_builtin; go_loud (refine wpList_append_mine rfl (ho := rfl) (s := .tmp 36) (x := .tmp 40) Tryz.rowRWrite rfl (hown.alloc _) rfl (srcs_two w1 _ _ _ 1 rfl rfl) HL.out ?_); skip)
  intro v' w2 hown2 hf2 hv2 _
  obtain ⟨g', cap', rfl⟩ := row_succ hown2
  have d2 := ((HD.out.head.alloc _).fr hf2 (fun e => (HD.out.apart e).2.1 rfl)).cell (j := 1) rfl
  have g2 := ((HD.out.head.alloc _).fr hf2 (fun e => (HD.out.apart e).2.1 rfl)).free 1
  go_wp2
  go_ret
  have hw := HD.out.wrote (((Fr.refl _ w1).alloc _).trans hf2) hown2 (fun k hk => (hv2 k hk).imp id (fun h => Nat.le_of_succ_le h)) HI.out H3.out
  exact ⟨rfl, hw.1.mono (plus_mono HF.out.size (Nat.le_refl _)), HF.out.trans hw.2⟩

set_option maxHeartbeats 400000 in
theorem rpower_calls {b : Nat} {S : Nat → Prop} {D : DSt} {w : World} (h : IsRef w b S D) (n : Int) (hn : n ≤ 9223372036854775807) :
    Calls Tryz.prog 9 #[.pointer (some ⟨b, 0, none⟩), .int .i64 n] w fun e w' => e = .returned (.tuple #[]) ∧ IsRef w' b S (D.setPower n) ∧ Fr S w w' := by
  obtain ⟨bs, cs, sp, wv, h⟩ := h
  have c2 := h.head.cell (j := 2) rfl
  have f2 := h.head.free 2
  have hb := h.head.set 2 (.int .i64 n)
  have hf : Fr (· = b) w (w.setCell ⟨b, 2, none⟩ (.int .i64 n)) := Fr.setCell (S := (· = b)) rfl w 2 _
  have hb2 := hb.set 2 (.int .i64 (-1))
  have hf2 : Fr (· = b) w ((w.setCell ⟨b, 2, none⟩ (.int .i64 n)).setCell ⟨b, 2, none⟩ (.int .i64 (-1))) := hf.set (.inl rfl) 2 _
  by_cases hn0 : n < 0
  · have h1 := h.turn hb2 hf2 (by omega) (by omega)
    have H : Hid (IsRef ((w.setCell ⟨b, 2, none⟩ (.int .i64 n)).setCell ⟨b, 2, none⟩ (.int .i64 (-1))) b S (D.setPower n)) := ⟨bs, cs, sp, wv, by unfold DSt.setPower; rw [if_pos hn0]; exact h1⟩
    have HF := Lib.hid (fr_one h.own hf2)
    have c3 := hb.cell (j := 2) (v := .int .i64 n) rfl
    clear hb hf h h1 hb2 hf2
    go_enter Tryz.func9, Tryz.ntmps9
    go_wp2
    go_end0
    exact ⟨rfl, H.out, HF.out⟩
  · have h1 := h.turn hb hf (by omega) (by omega)
    have H : Hid (IsRef (w.setCell ⟨b, 2, none⟩ (.int .i64 n)) b S (D.setPower n)) := ⟨bs, cs, sp, wv, by unfold DSt.setPower; rw [if_neg hn0]; exact h1⟩
    have HF := Lib.hid (fr_one h.own hf)
    clear hb hf h h1 hb2 hf2
    go_enter Tryz.func9, Tryz.ntmps9
    go_wp2
    go_end0
    exact ⟨rfl, H.out, HF.out⟩
end Go.Proofs.YtchilnjocnkodaaGreat

namespace Go.Proofs.YtchilnjocnkodaaGreat
open Go.RowKit

set_option maxHeartbeats 400000 in
theorem rflush_off {b : Nat} {S : Nat → Prop} {D : DSt} {w : World} (h : IsRef w b S D) (h0 : D.off = true) :
    Calls Tryz.prog 58 #[.pointer (some ⟨b, 0, none⟩)] w fun e w' => e = .returned (.int .i64 7) ∧ w = w' := by
  obtain ⟨bs, cs, sp, wv, h⟩ := h
  have c3 : w.cell? ⟨b, 3, none⟩ = some (.bool true) := by rw [h.head.cell rfl, h0]
  go_enter Tryz.func58, Tryz.ntmps58
  go_wp2
  go_ret
  exact ⟨rfl, rfl⟩

set_option maxHeartbeats 400000 in
theorem rflush_dead {b : Nat} {S : Nat → Prop} {D : DSt} {w : World} (h : IsRef w b S D) (h0 : D.off = false) (h4 : D.power = 0) :
    Calls Tryz.prog 58 #[.pointer (some ⟨b, 0, none⟩)] w fun e w' => e = .returned (.int .i64 7) ∧ IsRef w' b S D.die ∧ Fr S w w' := by
  have HA := Lib.hid (ract_dead h h4)
  obtain ⟨bs, cs, sp, wv, h⟩ := h
  have c3 : w.cell? ⟨b, 3, none⟩ = some (.bool false) := by rw [h.head.cell rfl, h0]
  clear h h0 h4
  go_enter Tryz.func58, Tryz.ntmps58
  go_wp2_with (go_at_call 77; refine HA.out.mono ?_; rintro e w' ⟨rfl, hd, hf⟩)
  go_ret
  exact ⟨rfl, hd, hf⟩

set_option maxRecDepth 100000 in
set_option maxHeartbeats 1000000 in
theorem rflush_ok1 {b : Nat} {S : Nat → Prop} {D D1 : DSt} {w : World} (hD : D1 = D.pay) (h : IsRef w b S D) (h0 : D.off = false) (h4 : D.power ≠ 0) (hl : D1.wait.length ≤ 9223372036854775807) :
    Calls Tryz.prog 58 #[.pointer (some ⟨b, 0, none⟩)] w fun e w' =>
      e = .returned (.int .i64 0) ∧ IsRef w' b S { D1 with safe := puts D1.safe D1.wait, wait := [] } ∧ Fr S w w' := by
  have HA := Lib.hid (ract_live h h4)
  rw [← hD] at HA
  clear hD
  obtain ⟨bs, cs, sp, wv, h⟩ := h
  have c3 : w.cell? ⟨b, 3, none⟩ = some (.bool false) := by rw [h.head.cell rfl, h0]
  clear h h0 h4
  go_enter Tryz.func58, Tryz.ntmps58
  go_wp2_with fail
  refine HA.out.mono ?_; rintro e w1 ⟨rfl, hd, hf⟩
  obtain ⟨bs1, cs1, sp1, wv1, hd⟩ := hd
  obtain ⟨ao, cap, rfl⟩ : ∃ ao cap, wv1 = .slice ao D1.wait.length cap := by
    rcases row_form hd.wait with ⟨h1, h2⟩ | ⟨g, cap, h1⟩
    · exact ⟨none, 0, by rw [h1, h2]⟩
    · exact ⟨_, _, h1⟩
  have d1 := hd.head.cell (j := 1) rfl
  have HD := Lib.hid hd
  have HF := Lib.hid hf
  obtain ⟨n, hn⟩ : ∃ n, n = D1.wait.length := ⟨_, rfl⟩
  rw [← hn] at d1 hl
  have HN := Lib.hid hn
  clear hd hf c3 hn
  go_wp2_with fail
  go_loopw [4] (fun i wr => ∃ k : Nat, k ≤ n ∧ i = .int .i64 k ∧ IsDskAt kR wr b bs1 cs1 sp1 (.slice ao D1.wait.length cap) S { D1 with safe := puts D1.safe (D1.wait.take k) } ∧ Fr S w1 wr) (fun i _ => n - (intOf i).toNat)
  case atStart => exact ⟨0, Nat.zero_le _, rfl, HD.out, Fr.refl _ _⟩
  case round =>
    obtain ⟨k, hk, rfl, hd, hf⟩ := hrel
    by_cases hlt : k < n
    · have hkw : k < D1.wait.length := by rw [← HN.out]; exact hlt
      obtain ⟨x, hx⟩ : ∃ x, D1.wait[k]? = some x := ⟨_, List.getElem?_eq_getElem hkw⟩
      obtain ⟨g, cap', hg⟩ : ∃ g cap', (Value.slice ao D1.wait.length cap) = .slice (some ⟨g, 0, none⟩) D1.wait.length cap' := by
        rcases row_form hd.wait with ⟨_, h2⟩ | ⟨g, cap, h1⟩
        · simp only at h2; omega
        · exact ⟨_, _, h1⟩
      simp only [Value.slice.injEq, true_and] at hg
      obtain ⟨rfl, rfl⟩ := hg
      have e1 := hd.wait.cells (g := g) rfl (k * 2) _ (flatW_get hx).1
      have e2 := hd.wait.cells (g := g) rfl (k * 2 + 1) _ (flatW_get hx).2
      simp only [Addr.add_lit, Nat.zero_add] at e1 e2
      have hxl : x.1 < (puts D1.safe (D1.wait.take k)).length := by rw [puts_length]; exact HD.out.ok.at_ x (List.mem_of_getElem? hx)
      have p0 := hd.head.cell (j := 0) rfl
      have p1 : wr.cell? ⟨b, 1, none⟩ = some (.slice (some ⟨g, 0, none⟩) n cap) := by rw [HN.out]; exact hd.head.cell rfl
      obtain ⟨y, hy⟩ : ∃ y, (puts D1.safe (D1.wait.take k))[x.1]? = some y := ⟨_, List.getElem?_eq_getElem hxl⟩
      have q0 := hd.rows.cell (j := x.1) (v := .string y) (strs_get hy)
      have f0 := hd.rows.free x.1
      have hbl := hd.head.lt
      have hsl := hd.rows.lt
      have HD1 := Lib.hid hd
      have HF1 := Lib.hid hf
      have HK := Lib.hid hx
      have hxn : (x.1 : Int) < ((puts D1.safe (D1.wait.take k)).length : Int) := by omega
      clear hd hf hkw hx hy hxl
      obtain ⟨xi, xs⟩ := x
      simp only at *
      generalize (puts D1.safe (D1.wait.take k)).length = ns at *
      go_wp2_with fail
      refine wp_region_tail 21 (by kernel_rfl) (by kernel_rfl) ?_
      simp only [List.take_succ_cons, List.take_zero, List.drop_succ_cons, List.drop_zero]
      repeat still_step
      refine wpStill_nil ?_
      go_wp2_with fail
      go_roundw
      case rel =>
        have hp := HD1.out.put (i := xi) (s := xs) (HD1.out.ok.wsize (xi, xs) (List.mem_of_getElem? HK.out)) (by show xi < (puts _ _).length; rw [puts_length]; exact HD.out.ok.at_ (xi, xs) (List.mem_of_getElem? HK.out))
        refine ⟨k + 1, by omega, by go_num, ?_, (HF1.out.set (.inl HD1.out.ownS) xi _).drew⟩
        rw [puts_take _ HK.out]
        exact hp.drew
      case measure => simp [intOf]; omega
    · obtain rfl : k = n := by omega
      have d3 : wr.cell? ⟨b, 1, none⟩ = some (.slice ao k cap) := by rw [HN.out]; exact hd.head.cell rfl
      have g3 := hd.head.free 1
      have HD1 := Lib.hid hd
      have HF1 := Lib.hid hf
      clear hd hf
      go_wp2_with fail
      go_ret
      have hd := HD1.out
      rw [HN.out, List.take_length] at hd
      exact ⟨rfl, hd.cleared, (HF.out.trans HF1.out).set (.inl hd.own) 1 _⟩

theorem rflush_ok {b : Nat} {S : Nat → Prop} {D : DSt} {w : World} (h : IsRef w b S D) (h0 : D.off = false) (h4 : D.power ≠ 0) (hl : D.wait.length * 24 ≤ 140737488355328) :
    Calls Tryz.prog 58 #[.pointer (some ⟨b, 0, none⟩)] w fun e w' =>
      e = .returned (.int .i64 0) ∧ IsRef w' b S { D.pay with safe := puts D.safe D.wait, wait := [] } ∧ Fr S w w' :=
  rflush_ok1 rfl h h0 h4 (by show D.wait.length ≤ _; omega)

set_option maxHeartbeats 400000 in
theorem rread_off {b : Nat} {S : Nat → Prop} {D : DSt} {w : World} (h : IsRef w b S D) (h0 : D.off = true) (i : Int) :
    Calls Tryz.prog 33 #[.pointer (some ⟨b, 0, none⟩), .int .i64 i] w fun e w' => e = .returned (.tuple #[.string ⟨#[]⟩, .int .i64 7]) ∧ w = w' := by
  obtain ⟨bs, cs, sp, wv, h⟩ := h
  have c3 : w.cell? ⟨b, 3, none⟩ = some (.bool true) := by rw [h.head.cell rfl, h0]
  clear h h0
  go_enter Tryz.func33, Tryz.ntmps33
  go_wp2
  go_ret2
  exact ⟨rfl, rfl⟩

set_option maxHeartbeats 400000 in
theorem rread_arg {b : Nat} {S : Nat → Prop} {D : DSt} {w : World} (h : IsRef w b S D) (h0 : D.off = false) (i : Int) (hi : i < 0 ∨ (D.safe.length : Int) ≤ i) :
    Calls Tryz.prog 33 #[.pointer (some ⟨b, 0, none⟩), .int .i64 i] w fun e w' => e = .returned (.tuple #[.string ⟨#[]⟩, .int .i64 1]) ∧ w = w' := by
  obtain ⟨bs, cs, sp, wv, h⟩ := h
  have c3 : w.cell? ⟨b, 3, none⟩ = some (.bool false) := by rw [h.head.cell rfl, h0]
  have c0 := h.head.cell (j := 0) rfl
  clear h h0
  generalize D.safe.length = n at *
  by_cases h2 : i < 0
  · go_enter Tryz.func33, Tryz.ntmps33
    go_wp2
    go_ret2
    exact ⟨rfl, rfl⟩
  · have hi2 : (n : Int) ≤ i := by omega
    go_enter Tryz.func33, Tryz.ntmps33
    go_wp2
    go_ret2
    exact ⟨rfl, rfl⟩

set_option maxRecDepth 100000 in
set_option maxHeartbeats 1000000 in
theorem rread_ok {b : Nat} {S : Nat → Prop} {D : DSt} {w : World} (h : IsRef w b S D) (h0 : D.off = false) (i : Nat) (hi : i < D.safe.length) (hl : D.wait.length ≤ 9223372036854775807) :
    Calls Tryz.prog 33 #[.pointer (some ⟨b, 0, none⟩), .int .i64 i] w fun e w' => e = .returned (.tuple #[.string (D.sec i), .int .i64 0]) ∧ w = w' := by
  obtain ⟨bs, cs, sp, wv, h⟩ := h
  have c3 : w.cell? ⟨b, 3, none⟩ = some (.bool false) := by rw [h.head.cell rfl, h0]
  have c0 := h.head.cell (j := 0) rfl
  obtain ⟨ao, cap, rfl⟩ := row_any h.wait
  have c1 := h.head.cell (j := 1) rfl
  obtain ⟨y, hy⟩ : ∃ y, D.safe[i]? = some y := ⟨_, List.getElem?_eq_getElem hi⟩
  have q1 : w.cell? ⟨bs, i, none⟩ = some (.string y) := h.rows.cell (strs_get hy)
  have hi2 : (i : Int) < (D.safe.length : Int) := by omega
  have HW := Lib.hid h.wait
  have HY := Lib.hid hy
  obtain ⟨n, hn⟩ : ∃ n, n = D.wait.length := ⟨_, rfl⟩
  rw [← hn] at c1 hl
  have HN := Lib.hid hn
  clear h h0 hy hn hi
  go_enter Tryz.func33, Tryz.ntmps33
  go_wp2_with fail
  go_loop [6, 7] (fun s j => ∃ k : Nat, k ≤ n ∧ j = .int .i64 k ∧ s = .string ((lastOf (D.wait.take k) i).getD y)) (fun _ j => n - (intOf j).toNat)
  case atStart => exact ⟨0, Nat.zero_le _, rfl, rfl⟩
  case round =>
    obtain ⟨k, hk, rfl, rfl⟩ := hrel
    by_cases hlt : k < n
    · obtain ⟨x, hx⟩ : ∃ x, D.wait[k]? = some x := ⟨_, List.getElem?_eq_getElem (by rw [← HN.out]; exact hlt)⟩
      have hwt := HW.out
      obtain ⟨g, cap', hg⟩ : ∃ g cap', (Value.slice ao D.wait.length cap) = .slice (some ⟨g, 0, none⟩) D.wait.length cap' := by
        rcases row_form hwt with ⟨_, h2⟩ | ⟨g, cap, h1⟩
        · have := HN.out; omega
        · exact ⟨_, _, h1⟩
      simp only [Value.slice.injEq, true_and] at hg
      obtain ⟨rfl, rfl⟩ := hg
      have e1 := hwt.cells (g := g) rfl (k * 2) _ (flatW_get hx).1
      have e2 := hwt.cells (g := g) rfl (k * 2 + 1) _ (flatW_get hx).2
      simp only [Addr.add_lit, Nat.zero_add] at e1 e2
      have HL := Lib.hid (lastOf_take hx i)
      clear hwt hx
      by_cases hxi : x.1 = i
      · have hx' : ((x.1 : Int) == (i : Int)) = true := by rw [beq_iff_eq]; omega
        have HX := Lib.hid hxi
        clear hxi
        go_wp2
        go_round
        case rel => exact ⟨k + 1, by omega, by go_num, by rw [HL.out, if_pos HX.out]; rfl⟩
        case measure => simp [intOf]; omega
      · have hx' : ((x.1 : Int) == (i : Int)) = false := by rw [beq_eq_false_iff_ne]; omega
        have HX := Lib.hid hxi
        clear hxi
        go_wp2
        go_round
        case rel => exact ⟨k + 1, by omega, by go_num, by rw [HL.out, if_neg HX.out]⟩
        case measure => simp [intOf]; omega
    · obtain rfl : k = n := by omega
      go_wp2
      go_ret2
      have e : D.sec i = (lastOf (D.wait.take k) i).getD y := by
        rw [HN.out, List.take_length]
        unfold DSt.sec
        rw [HY.out]
        cases lastOf D.wait i <;> rfl
      exact ⟨by rw [e]; rfl, rfl⟩
end Go.Proofs.YtchilnjocnkodaaGreat

namespace Go.Proofs.YtchilnjocnkodaaGreat
open Go.RowKit

set_option maxRecDepth 100000 in
set_option maxHeartbeats 1000000 in
theorem rcrash_calls {b : Nat} {S : Nat → Prop} {D : DSt} {w : World} (h : IsRef w b S D) (keep : Nat) (hkeep : keep < 18446744073709551616) (hl : D.wait.length ≤ 9223372036854775807) :
    Calls Tryz.prog 11 #[.pointer (some ⟨b, 0, none⟩), .int .u64 keep] w fun e w' =>
      e = .returned (.tuple #[]) ∧ IsRef w' b S (D.crash keep) ∧ Fr S w w' := by
  obtain ⟨bs, cs, sp, wv, hd⟩ := h
  obtain ⟨ao, cap, rfl⟩ := row_any hd.wait
  have d1 := hd.head.cell (j := 1) rfl
  have HD := Lib.hid hd
  obtain ⟨n, hn⟩ : ∃ n, n = D.wait.length := ⟨_, rfl⟩
  rw [← hn] at d1 hl
  have HN := Lib.hid hn
  have HK := Lib.hid hkeep
  clear hd hn hkeep
  go_enter Tryz.func11, Tryz.ntmps11
  go_wp2_with fail
  go_loopw [4] (fun i wr => ∃ k : Nat, k ≤ n ∧ i = .int .i64 k ∧ IsDskAt kR wr b bs cs sp (.slice ao D.wait.length cap) S { D with safe := puts D.safe (keptTo keep D.wait k) } ∧ Fr S w wr) (fun i _ => n - (intOf i).toNat)
  case atStart => exact ⟨0, Nat.zero_le _, rfl, HD.out, Fr.refl _ _⟩
  case round =>
    obtain ⟨k, hk, rfl, hd, hf⟩ := hrel
    by_cases hlt : k < n
    · have hkw : k < D.wait.length := by rw [← HN.out]; exact hlt
      obtain ⟨x, hx⟩ : ∃ x, D.wait[k]? = some x := ⟨_, List.getElem?_eq_getElem hkw⟩
      obtain ⟨g, cap', hg⟩ : ∃ g cap', (Value.slice ao D.wait.length cap) = .slice (some ⟨g, 0, none⟩) D.wait.length cap' := by
        rcases row_form hd.wait with ⟨_, h2⟩ | ⟨g, cap, h1⟩
        · simp only at h2; omega
        · exact ⟨_, _, h1⟩
      simp only [Value.slice.injEq, true_and] at hg
      obtain ⟨rfl, rfl⟩ := hg
      have e1 := hd.wait.cells (g := g) rfl (k * 2) _ (flatW_get hx).1
      have e2 := hd.wait.cells (g := g) rfl (k * 2 + 1) _ (flatW_get hx).2
      simp only [Addr.add_lit, Nat.zero_add] at e1 e2
      have hxl : x.1 < (puts D.safe (keptTo keep D.wait k)).length := by rw [puts_length]; exact HD.out.ok.at_ x (List.mem_of_getElem? hx)
      have p0 := hd.head.cell (j := 0) rfl
      have p1 : wr.cell? ⟨b, 1, none⟩ = some (.slice (some ⟨g, 0, none⟩) n cap) := by rw [HN.out]; exact hd.head.cell rfl
      obtain ⟨y, hy⟩ : ∃ y, (puts D.safe (keptTo keep D.wait k))[x.1]? = some y := ⟨_, List.getElem?_eq_getElem hxl⟩
      have q0 := hd.rows.cell (j := x.1) (v := .string y) (strs_get hy)
      have f0 := hd.rows.free x.1
      have hbl := hd.head.lt
      have hsl := hd.rows.lt
      have HD1 := Lib.hid hd
      have HF1 := Lib.hid hf
      have HX := Lib.hid hx
      have hxn : (x.1 : Int) < ((puts D.safe (keptTo keep D.wait k)).length : Int) := by omega
      clear hd hf hkw hx hy hxl
      obtain ⟨xi, xs⟩ := x
      simp only at *
      generalize (puts D.safe (keptTo keep D.wait k)).length = ns at *
      go_wp2_with fail
      have hk64 : (k : Int) % 64 = ((k % 64 : Nat) : Int) := by omega
      obtain ⟨r, hr⟩ : ∃ r, r = k % 64 := ⟨_, rfl⟩
      rw [← hr] at hk64
      have hr64 : r < 64 := by omega
      have HR := Lib.hid hr
      have HKK := Lib.hid hk64
      clear hr
      go_loop [5, 6] (fun c t => ∃ j : Nat, j ≤ r ∧ c = .int .u64 ((keep / 2 ^ j : Nat) : Int) ∧ t = .int .i64 j) (fun _ t => r - (intOf t).toNat)
      case atStart => exact ⟨0, Nat.zero_le _, by simp, rfl⟩
      case round =>
        obtain ⟨j, hj, rfl, rfl⟩ := hrel
        have hq : ((keep / 2 ^ j : Nat) : Int) ≤ 18446744073709551615 := by
          have h1 := HK.out
          have h2 : keep / 2 ^ j ≤ keep := Nat.div_le_self _ _
          generalize keep / 2 ^ j = q at *
          omega
        have HQ : Hid (keep / 2 ^ (j + 1) = keep / 2 ^ j / 2) := by show _ = _; rw [Nat.pow_succ, Nat.div_div_eq_div_mul]
        obtain ⟨q, hqq⟩ : ∃ q, q = keep / 2 ^ j := ⟨_, rfl⟩
        rw [← hqq] at hq HQ ⊢
        have HQQ := Lib.hid hqq
        clear hqq
        by_cases hjr : j < r
        · go_wp2
          go_round
          case rel => exact ⟨j + 1, by omega, by rw [HQ.out]; go_num, by go_num⟩
          case measure => simp [intOf]; omega
        · obtain rfl : j = r := by omega
          go_wp2_with fail
          · have hbit : ((q : Int) % 2 == 1) = true := by assumption
            have HB : Hid (keep / 2 ^ (k % 64) % 2 = 1) := by
              show _ = _
              rw [beq_iff_eq] at hbit
              rw [← HR.out, ← HQQ.out]; omega
            clear hbit
            refine wp_region_tail 21 (by kernel_rfl) (by kernel_rfl) ?_
            simp only [List.take_succ_cons, List.take_zero, List.drop_succ_cons, List.drop_zero]
            repeat still_step
            refine wpStill_nil ?_
            go_wp2_with fail
            go_roundw
            case rel =>
              have hp := HD1.out.put (i := xi) (s := xs) (HD1.out.ok.wsize (xi, xs) (List.mem_of_getElem? HX.out)) (by show xi < (puts _ _).length; rw [puts_length]; exact HD.out.ok.at_ (xi, xs) (List.mem_of_getElem? HX.out))
              refine ⟨k + 1, by omega, by go_num, ?_, (HF1.out.set (.inl HD1.out.ownS) xi _).drew⟩
              rw [keptTo_yes HX.out HB.out, puts_snoc]
              exact hp.drew
            case measure => simp [intOf]; omega
          · have hbit : ((q : Int) % 2 == 1) = false := by assumption
            have hb : keep / 2 ^ (k % 64) % 2 ≠ 1 := by
              rw [beq_eq_false_iff_ne] at hbit
              rw [← HR.out, ← HQQ.out]; omega
            go_roundw
            case rel =>
              refine ⟨k + 1, by omega, by go_num, ?_, HF1.out⟩
              rw [keptTo_no HX.out hb]
              exact HD1.out
            case measure => simp [intOf]; omega
    · obtain rfl : k = n := by omega
      have d3 : wr.cell? ⟨b, 1, none⟩ = some (.slice ao k cap) := by rw [HN.out]; exact hd.head.cell rfl
      have d4 := hd.head.cell (j := 2) rfl
      have d5 := hd.head.cell (j := 3) rfl
      have g3 := hd.head.free 1
      have g4 := hd.head.free 2
      have g5 := hd.head.free 3
      have HD1 := Lib.hid hd
      have HF1 := Lib.hid hf
      clear hd hf
      go_wp2_with fail
      go_end0
      have hd := HD1.out
      rw [HN.out, keptTo_all] at hd
      refine ⟨rfl, ?_, ((HF1.out.set (.inl hd.own) 1 _).set (.inl hd.own) 3 _).set (.inl hd.own) 2 _⟩
      exact hd.crashed
end Go.Proofs.YtchilnjocnkodaaGreat
