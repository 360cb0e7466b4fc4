/- The program's disk: act. The program's disk: Write. The program's disk: Flush. The program's disk: Power, Waiting, Sectors, Image. -/
import Derived.Test.YtchilnjocnkodaaGreatDskR
import Derived.WalkSpells
namespace Go.Proofs.YtchilnjocnkodaaGreat
open Go.RowKit

abbrev tDisk : Nat := 74
abbrev tWrite : Nat := 76
abbrev kD : Kd := ⟨tDisk, tWrite, by decide, by decide, by decide⟩
abbrev IsDisk (w : World) (b : Nat) (S : Nat → Prop) (D : DSt) : Prop := IsDsk kD w b S D

set_option maxHeartbeats 400000 in
theorem act_dead {b : Nat} {S : Nat → Prop} {D : DSt} {w : World} (h : IsDisk w b S D) (h0 : D.power = 0) :
    Calls Tryz.prog 75 #[.pointer (some ⟨b, 0, none⟩)] w fun e w' => e = .returned (.bool false) ∧ IsDisk w' b S D.die ∧ Fr S w w' := by
  obtain ⟨bs, cs, sp, wv, h⟩ := h
  have c2 : w.cell? ⟨b, 2, none⟩ = some (.int .i64 0) := by rw [h.head.cell rfl, h0]
  have c3 := h.head.cell (j := 3) rfl
  have f3 := h.head.free 3
  have hb := h.head.set 3 (.bool true)
  have hf : Fr (· = b) w (w.setCell ⟨b, 3, none⟩ (.bool true)) := Fr.setCell (S := (· = b)) rfl w 3 _
  have H := Lib.hid (And.intro (⟨bs, cs, sp, wv, h.turn hb hf h.ok.lo h.ok.hi⟩ : IsDisk _ b S D.die) (fr_one h.own hf))
  clear hb hf h
  go_enter Tryz.func75, Tryz.ntmps75
  go_wp2
  go_ret
  exact ⟨rfl, H.out⟩

set_option maxHeartbeats 400000 in
theorem act_live {b : Nat} {S : Nat → Prop} {D : DSt} {w : World} (h : IsDisk w b S D) (h0 : D.power ≠ 0) :
    Calls Tryz.prog 75 #[.pointer (some ⟨b, 0, none⟩)] w fun e w' => e = .returned (.bool true) ∧ IsDisk w' b S D.pay ∧ Fr S w w' := by
  obtain ⟨bs, cs, sp, wv, h⟩ := h
  have c2 := h.head.cell (j := 2) rfl
  have f2 := h.head.free 2
  have ep : (D.power == 0) = false := by simpa using h0
  have hlo := h.ok.lo
  have hhi := h.ok.hi
  by_cases hp : 0 < D.power
  · have hb := h.head.set 2 (.int .i64 (D.power - 1))
    have hf : Fr (· = b) w (w.setCell ⟨b, 2, none⟩ (.int .i64 (D.power - 1))) := Fr.setCell (S := (· = b)) rfl w 2 _
    have h1 := h.turn hb hf (by omega) (by omega)
    have h2 : IsDisk (w.setCell ⟨b, 2, none⟩ (.int .i64 (D.power - 1))) b S D.pay := ⟨bs, cs, sp, wv, by unfold DSt.pay; rw [if_pos hp]; exact h1⟩
    have H := Lib.hid (And.intro h2 (fr_one h.own hf))
    clear hb hf h h1 h2 h0
    generalize D.power = p at *
    go_enter Tryz.func75, Tryz.ntmps75
    go_wp2
    go_ret
    exact ⟨rfl, H.out⟩
  · have h2 : IsDisk w b S D.pay := ⟨bs, cs, sp, wv, by unfold DSt.pay; rw [if_neg hp]; exact h⟩
    have H := Lib.hid (And.intro h2 (Fr.refl S w))
    clear h h2 h0
    generalize D.power = p at *
    go_enter Tryz.func75, Tryz.ntmps75
    go_wp2
    go_ret
    exact ⟨rfl, H.out⟩
end Go.Proofs.YtchilnjocnkodaaGreat

namespace Go.Proofs.YtchilnjocnkodaaGreat
open Go.RowKit

theorem Tryz.infoWrite : (Tryz.prog.info? tWrite).map (fun i => (i.zero, i.size, i.bytes)) = some (some (.agg #[.int .i64 0, .string ByteArray.empty]), 2, 24) := by kernel_rfl
theorem Tryz.rowWrite : RowT Tryz.prog 72 tWrite 2 24 := by
  obtain ⟨i0, hi, hz0, hz1, hz2⟩ := info_parts Tryz.infoWrite
  exact ⟨⟨i0, _, Tryz.underlying72, hi, hz0, hz1, hz2, rfl⟩, by decide, by decide⟩

set_option maxHeartbeats 400000 in
theorem write_off {b : Nat} {S : Nat → Prop} {D : DSt} {w : World} (h : IsDisk w b S D) (h0 : D.off = true) (i : Int) (s : ByteArray) :
    Calls Tryz.prog 54 #[.pointer (some ⟨b, 0, none⟩), .int .i64 i, .string s] w fun e w' => e = .returned (.int .i64 7) ∧ w = w' := by
  obtain ⟨bs, cs, sp, wv, h⟩ := h
  have c3 : w.cell? ⟨b, 3, none⟩ = some (.bool true) := by rw [h.head.cell rfl, h0]
  go_enter Tryz.func54, Tryz.ntmps54
  go_wp2
  go_ret
  exact ⟨rfl, rfl⟩

set_option maxHeartbeats 400000 in
theorem write_arg {b : Nat} {S : Nat → Prop} {D : DSt} {w : World} (h : IsDisk w b S D) (h0 : D.off = false) (i : Int) (s : ByteArray)
    (hi : (i < 0 ∨ (D.safe.length : Int) ≤ i) ∨ s.size ≠ 64) :
    Calls Tryz.prog 54 #[.pointer (some ⟨b, 0, none⟩), .int .i64 i, .string s] w fun e w' => e = .returned (.int .i64 1) ∧ w = w' := by
  obtain ⟨bs, cs, sp, wv, h⟩ := h
  have c3 : w.cell? ⟨b, 3, none⟩ = some (.bool false) := by rw [h.head.cell rfl, h0]
  have c0 := h.head.cell (j := 0) rfl
  have hn := h.ok.len
  clear h h0
  generalize D.safe.length = n at *
  rcases hi with (hi | hi) | hi
  · go_enter Tryz.func54, Tryz.ntmps54
    go_wp2
    go_ret
    exact ⟨rfl, rfl⟩
  · have h2 : ¬ i < 0 := by omega
    go_enter Tryz.func54, Tryz.ntmps54
    go_wp2
    go_ret
    exact ⟨rfl, rfl⟩
  · by_cases h2 : i < 0
    · go_enter Tryz.func54, Tryz.ntmps54
      go_wp2
      go_ret
      exact ⟨rfl, rfl⟩
    · by_cases h3 : (n : Int) ≤ i
      · go_enter Tryz.func54, Tryz.ntmps54
        go_wp2
        go_ret
        exact ⟨rfl, rfl⟩
      · go_enter Tryz.func54, Tryz.ntmps54
        go_wp2
        go_ret
        exact ⟨rfl, rfl⟩

set_option maxHeartbeats 400000 in
theorem write_dead {b : Nat} {S : Nat → Prop} {D : DSt} {w : World} (h : IsDisk w b S D) (h0 : D.off = false) (i : Int) (s : ByteArray)
    (h1 : 0 ≤ i) (h2 : i < D.safe.length) (h3 : s.size = 64) (h4 : D.power = 0) :
    Calls Tryz.prog 54 #[.pointer (some ⟨b, 0, none⟩), .int .i64 i, .string s] w fun e w' => e = .returned (.int .i64 7) ∧ IsDisk w' b S D.die ∧ Fr S w w' := by
  have HA := Lib.hid (act_dead h h4)
  obtain ⟨bs, cs, sp, wv, h⟩ := h
  have c3 : w.cell? ⟨b, 3, none⟩ = some (.bool false) := by rw [h.head.cell rfl, h0]
  have c0 := h.head.cell (j := 0) rfl
  have hn := h.ok.len
  clear h h0 h4
  generalize D.safe.length = n at *
  have h5 : ¬ i < 0 := by omega
  go_enter Tryz.func54, Tryz.ntmps54
  go_wp2_with (go_at_call 75; refine HA.out.mono ?_; rintro e w' ⟨rfl, hd, hf⟩)
  go_ret
  exact ⟨rfl, hd, hf⟩

theorem DSt.Ok.pay {D : DSt} (h : D.Ok) : D.pay.Ok := by
  obtain ⟨h1, h0, h2, h3, h4, h5, h6⟩ := h
  refine ⟨h1, h0, h2, h3, h4, ?_, ?_⟩
  all_goals (unfold DSt.pay; simp only; split <;> omega)

set_option maxRecDepth 100000 in
set_option maxHeartbeats 1000000 in
theorem write_ok {b : Nat} {S : Nat → Prop} {D : DSt} {w : World} (h : IsDisk w b S D) (h0 : D.off = false) (i : Nat) (s : ByteArray)
    (h2 : i < D.safe.length) (h3 : s.size = 64) (h4 : D.power ≠ 0) (hl : (D.wait.length + 1) * 24 ≤ 140737488355328) :
    Calls Tryz.prog 54 #[.pointer (some ⟨b, 0, none⟩), .int .i64 i, .string s] w fun e w' =>
      e = .returned (.int .i64 0) ∧ IsDisk w' b (Plus S w w') { D.pay with wait := D.wait ++ [(i, s)] } ∧ Fr S w w' := by
  have HA := Lib.hid (act_live h h4)
  obtain ⟨bs, cs, sp, wv, h⟩ := h
  have c3 : w.cell? ⟨b, 3, none⟩ = some (.bool false) := by rw [h.head.cell rfl, h0]
  have c0 := h.head.cell (j := 0) rfl
  have hn := h.ok.len
  have HL := Lib.hid hl
  clear h h0 h4 hl
  have H3 := Lib.hid h3
  have HI := Lib.hid (show i < D.pay.safe.length from h2)
  have h3' : (s.size : Int) = 64 := by omega
  clear h3
  have hi0 : (i : Int) < (D.safe.length : Int) := by omega
  go_enter Tryz.func54, Tryz.ntmps54
  go_wp2_with fail
  refine HA.out.mono ?_; rintro e w1 ⟨rfl, hd, hf⟩
  obtain ⟨bs1, cs1, sp1, wv1, hd⟩ := hd
  have d1 := hd.head.cell (j := 1) rfl; have g1 := hd.head.free 1
  have hown := hd.wait
  have HD := Lib.hid hd
  have HF := Lib.hid hf
  clear hd hf c3 c0
  go_wp2_with (at_builtin; go_loud (refine wpList_append_mine rfl (ho := rfl) (s := .tmp 40) (x := .tmp 44) Tryz.rowWrite rfl (hown.alloc _) rfl (srcs_two w1 _ _ _ 1 rfl rfl) HL.out ?_); skip)
  intro v' w2 hown2 hf2 hv2 _
  obtain ⟨g', cap', rfl⟩ := row_succ hown2
  have d2 := ((HD.out.head.alloc _).fr hf2 (fun e => (HD.out.apart e).2.1 rfl)).cell (j := 1) rfl
  have g2 := ((HD.out.head.alloc _).fr hf2 (fun e => (HD.out.apart e).2.1 rfl)).free 1
  go_wp2
  go_ret
  have hw := HD.out.wrote (((Fr.refl _ w1).alloc _).trans hf2) hown2 (fun k hk => (hv2 k hk).imp id (fun h => Nat.le_of_succ_le h)) HI.out H3.out
  exact ⟨rfl, hw.1.mono (plus_mono HF.out.size (Nat.le_refl _)), HF.out.trans hw.2⟩
end Go.Proofs.YtchilnjocnkodaaGreat

namespace Go.Proofs.YtchilnjocnkodaaGreat
open Go.RowKit

set_option maxHeartbeats 400000 in
theorem flush_off {b : Nat} {S : Nat → Prop} {D : DSt} {w : World} (h : IsDisk w b S D) (h0 : D.off = true) :
    Calls Tryz.prog 76 #[.pointer (some ⟨b, 0, none⟩)] w fun e w' => e = .returned (.int .i64 7) ∧ w = w' := by
  obtain ⟨bs, cs, sp, wv, h⟩ := h
  have c3 : w.cell? ⟨b, 3, none⟩ = some (.bool true) := by rw [h.head.cell rfl, h0]
  go_enter Tryz.func76, Tryz.ntmps76
  go_wp2
  go_ret
  exact ⟨rfl, rfl⟩

set_option maxHeartbeats 400000 in
theorem flush_dead {b : Nat} {S : Nat → Prop} {D : DSt} {w : World} (h : IsDisk w b S D) (h0 : D.off = false) (h4 : D.power = 0) :
    Calls Tryz.prog 76 #[.pointer (some ⟨b, 0, none⟩)] w fun e w' => e = .returned (.int .i64 7) ∧ IsDisk w' b S D.die ∧ Fr S w w' := by
  have HA := Lib.hid (act_dead h h4)
  obtain ⟨bs, cs, sp, wv, h⟩ := h
  have c3 : w.cell? ⟨b, 3, none⟩ = some (.bool false) := by rw [h.head.cell rfl, h0]
  clear h h0 h4
  go_enter Tryz.func76, Tryz.ntmps76
  go_wp2_with (go_at_call 75; refine HA.out.mono ?_; rintro e w' ⟨rfl, hd, hf⟩)
  go_ret
  exact ⟨rfl, hd, hf⟩

set_option maxRecDepth 100000 in
set_option maxHeartbeats 1000000 in
theorem flush_ok1 {b : Nat} {S : Nat → Prop} {D D1 : DSt} {w : World} (hD : D1 = D.pay) (h : IsDisk w b S D) (h0 : D.off = false) (h4 : D.power ≠ 0) (hl : D1.wait.length ≤ 9223372036854775807) :
    Calls Tryz.prog 76 #[.pointer (some ⟨b, 0, none⟩)] w fun e w' =>
      e = .returned (.int .i64 0) ∧ IsDisk w' b S { D1 with safe := puts D1.safe D1.wait, wait := [] } ∧ Fr S w w' := by
  have HA := Lib.hid (act_live h h4)
  rw [← hD] at HA
  clear hD
  obtain ⟨bs, cs, sp, wv, h⟩ := h
  have c3 : w.cell? ⟨b, 3, none⟩ = some (.bool false) := by rw [h.head.cell rfl, h0]
  clear h h0 h4
  go_enter Tryz.func76, Tryz.ntmps76
  go_wp2_with fail
  refine HA.out.mono ?_; rintro e w1 ⟨rfl, hd, hf⟩
  obtain ⟨bs1, cs1, sp1, wv1, hd⟩ := hd
  obtain ⟨ao, cap, rfl⟩ : ∃ ao cap, wv1 = .slice ao D1.wait.length cap := by
    rcases row_form hd.wait with ⟨h1, h2⟩ | ⟨g, cap, h1⟩
    · exact ⟨none, 0, by rw [h1, h2]⟩
    · exact ⟨_, _, h1⟩
  have d1 := hd.head.cell (j := 1) rfl
  have HD := Lib.hid hd
  have HF := Lib.hid hf
  obtain ⟨n, hn⟩ : ∃ n, n = D1.wait.length := ⟨_, rfl⟩
  rw [← hn] at d1 hl
  have HN := Lib.hid hn
  clear hd hf c3 hn
  go_wp2_with fail
  go_loopw [23] (fun i wr => ∃ k : Nat, k ≤ n ∧ i = .int .i64 k ∧ IsDskAt kD wr b bs1 cs1 sp1 (.slice ao D1.wait.length cap) S { D1 with safe := puts D1.safe (D1.wait.take k) } ∧ Fr S w1 wr) (fun i _ => n - (intOf i).toNat)
  case atStart => exact ⟨0, Nat.zero_le _, rfl, HD.out, Fr.refl _ _⟩
  case round =>
    obtain ⟨k, hk, rfl, hd, hf⟩ := hrel
    by_cases hlt : k < n
    · have hkw : k < D1.wait.length := by rw [← HN.out]; exact hlt
      obtain ⟨x, hx⟩ : ∃ x, D1.wait[k]? = some x := ⟨_, List.getElem?_eq_getElem hkw⟩
      obtain ⟨g, cap', hg⟩ : ∃ g cap', (Value.slice ao D1.wait.length cap) = .slice (some ⟨g, 0, none⟩) D1.wait.length cap' := by
        rcases row_form hd.wait with ⟨_, h2⟩ | ⟨g, cap, h1⟩
        · simp only at h2; omega
        · exact ⟨_, _, h1⟩
      simp only [Value.slice.injEq, true_and] at hg
      obtain ⟨rfl, rfl⟩ := hg
      have e1 := hd.wait.cells (g := g) rfl (k * 2) _ (flatW_get hx).1
      have e2 := hd.wait.cells (g := g) rfl (k * 2 + 1) _ (flatW_get hx).2
      simp only [Addr.add_lit, Nat.zero_add] at e1 e2
      have hxl : x.1 < (puts D1.safe (D1.wait.take k)).length := by rw [puts_length]; exact HD.out.ok.at_ x (List.mem_of_getElem? hx)
      have p0 := hd.head.cell (j := 0) rfl
      obtain ⟨y, hy⟩ : ∃ y, (puts D1.safe (D1.wait.take k))[x.1]? = some y := ⟨_, List.getElem?_eq_getElem hxl⟩
      have q0 := hd.rows.cell (j := x.1) (v := .string y) (strs_get hy)
      have f0 := hd.rows.free x.1
      have hbl := hd.head.lt
      have hsl := hd.rows.lt
      have HD1 := Lib.hid hd
      have HF1 := Lib.hid hf
      have HK := Lib.hid hx
      have hxn : (x.1 : Int) < ((puts D1.safe (D1.wait.take k)).length : Int) := by omega
      clear hd hf hkw hx hy hxl
      obtain ⟨xi, xs⟩ := x
      simp only at *
      generalize (puts D1.safe (D1.wait.take k)).length = ns at *
      go_wp2_with fail
      refine wp_region_tail 9 (by kernel_rfl) (by kernel_rfl) ?_
      simp only [List.take_succ_cons, List.take_zero, List.drop_succ_cons, List.drop_zero]
      repeat still_step
      refine wpStill_nil ?_
      go_wp2_with fail
      go_roundw
      case rel =>
        have hp := HD1.out.put (i := xi) (s := xs) (HD1.out.ok.wsize (xi, xs) (List.mem_of_getElem? HK.out)) (by show xi < (puts _ _).length; rw [puts_length]; exact HD.out.ok.at_ (xi, xs) (List.mem_of_getElem? HK.out))
        refine ⟨k + 1, by omega, by go_num, ?_, ((HF1.out.set (.inl HD1.out.ownS) xi _).alloc _).drew⟩
        rw [puts_take _ HK.out]
        exact (hp.alloc _).drew
      case measure => simp [intOf]; omega
    · obtain rfl : k = n := by omega
      have d3 := hd.head.cell (j := 1) rfl
      have g3 := hd.head.free 1
      have HD1 := Lib.hid hd
      have HF1 := Lib.hid hf
      clear hd hf
      go_wp2_with fail
      go_ret
      have hd := HD1.out
      rw [HN.out, List.take_length] at hd
      exact ⟨rfl, hd.cleared, (HF.out.trans HF1.out).set (.inl hd.own) 1 _⟩

theorem flush_ok {b : Nat} {S : Nat → Prop} {D : DSt} {w : World} (h : IsDisk w b S D) (h0 : D.off = false) (h4 : D.power ≠ 0) (hl : D.wait.length * 24 ≤ 140737488355328) :
    Calls Tryz.prog 76 #[.pointer (some ⟨b, 0, none⟩)] w fun e w' =>
      e = .returned (.int .i64 0) ∧ IsDisk w' b S { D.pay with safe := puts D.safe D.wait, wait := [] } ∧ Fr S w w' :=
  flush_ok1 rfl h h0 h4 (by show D.wait.length ≤ _; omega)
end Go.Proofs.YtchilnjocnkodaaGreat

namespace Go.Proofs.YtchilnjocnkodaaGreat
open Go.RowKit

theorem Tryz.infoStr : (Tryz.prog.info? tStr).map (fun i => (i.zero, i.size, i.bytes)) = some (some (.string ByteArray.empty), 1, 16) := by kernel_rfl
theorem Tryz.rowStr : RowT Tryz.prog 22 tStr 1 16 := by
  obtain ⟨i0, hi, hz0, hz1, hz2⟩ := info_parts Tryz.infoStr
  exact ⟨⟨i0, _, Tryz.underlying22, hi, hz0, hz1, hz2, rfl⟩, by decide, by decide⟩

set_option maxHeartbeats 400000 in
theorem power_calls {b : Nat} {S : Nat → Prop} {D : DSt} {w : World} (h : IsDisk w b S D) (n : Int) (hn : n ≤ 9223372036854775807) :
    Calls Tryz.prog 8 #[.pointer (some ⟨b, 0, none⟩), .int .i64 n] w fun e w' => e = .returned (.tuple #[]) ∧ IsDisk w' b S (D.setPower n) ∧ Fr S w w' := by
  obtain ⟨bs, cs, sp, wv, h⟩ := h
  have c2 := h.head.cell (j := 2) rfl
  have f2 := h.head.free 2
  have hb := h.head.set 2 (.int .i64 (if n < 0 then -1 else n))
  have hf : Fr (· = b) w (w.setCell ⟨b, 2, none⟩ (.int .i64 (if n < 0 then -1 else n))) := Fr.setCell (S := (· = b)) rfl w 2 _
  have h1 := h.turn hb hf (by split <;> omega) (by split <;> omega)
  have H2 : ∀ m : Int, m = (if n < 0 then -1 else n) → IsDisk (w.setCell ⟨b, 2, none⟩ (.int .i64 m)) b S (D.setPower n) ∧ Fr S w (w.setCell ⟨b, 2, none⟩ (.int .i64 m)) := by
    rintro m rfl
    exact And.intro ⟨bs, cs, sp, wv, h1⟩ (fr_one h.own hf)
  have H := Lib.hid H2
  clear hb hf h h1 H2
  go_enter Tryz.func8, Tryz.ntmps8
  go_wp2
  all_goals
    go_end0
    refine ⟨rfl, H.out _ ?_⟩
    split <;> omega

set_option maxHeartbeats 400000 in
theorem waiting_calls {b : Nat} {S : Nat → Prop} {D : DSt} {w : World} (h : IsDisk w b S D) :
    Calls Tryz.prog 19 #[.pointer (some ⟨b, 0, none⟩)] w fun e w' => e = .returned (.int .i64 D.wait.length) ∧ w = w' := by
  obtain ⟨bs, cs, sp, wv, h⟩ := h
  have c1 := h.head.cell (j := 1) rfl
  rcases row_form h.wait with ⟨h1, h2⟩ | ⟨g, cap, h1⟩
  · rw [h1] at c1
    rw [h2]
    clear h h1 h2
    go_enter Tryz.func19, Tryz.ntmps19
    go_wp2
    go_ret
    exact ⟨rfl, rfl⟩
  · rw [h1] at c1
    clear h h1
    go_enter Tryz.func19, Tryz.ntmps19
    go_wp2
    go_ret
    exact ⟨rfl, rfl⟩

set_option maxHeartbeats 400000 in
theorem sectors_calls {b : Nat} {S : Nat → Prop} {D : DSt} {w : World} (h : IsDisk w b S D) :
    Calls Tryz.prog 30 #[.pointer (some ⟨b, 0, none⟩)] w fun e w' => e = .returned (.int .i64 D.safe.length) ∧ w = w' := by
  obtain ⟨bs, cs, sp, wv, h⟩ := h
  have c1 := h.head.cell (j := 0) rfl
  clear h
  go_enter Tryz.func30, Tryz.ntmps30
  go_wp2
  go_ret
  exact ⟨rfl, rfl⟩

set_option maxHeartbeats 400000 in
theorem clone_strs {g n c : Nat} {l : List ByteArray} {w : World} (h : Srcs w (.slice (some ⟨g, 0, none⟩) n c) n 1 (strs l)) (hn : n * 16 ≤ 140737488355328) :
    Calls Tryz.prog 41 #[.slice (some ⟨g, 0, none⟩) n c] w fun e w' => ∃ v, e = .returned v ∧ w'.ownsRow 0 tStr 1 v n (strs l) ∧ (∀ k, v.ownBlock = some k → w.heap.size ≤ k) ∧ Fr Nob w w' := by
  have hnil := fun (w : World) => Lib.run_eql_slice_nil (P := Tryz.prog) w
  have hown : (w.alloc (.cells #[] tStr)).ownsRow 0 tStr 1 (.slice (some ⟨w.heap.size, 0, none⟩) 0 0) 0 [] := World.ownsRow_made w #[] 0 (Nat.zero_le _) (by unfold maxLen; omega) rfl
  have HS := Lib.hid h
  have HN := Lib.hid hn
  clear h hn
  go_enter Tryz.func41, Tryz.ntmps41
  go_wp2_with (at_builtin; refine wpList_append_mine rfl (ho := rfl) (s := .tmp 5) (x := .tmp 6) Tryz.rowStr rfl hown rfl (HS.out.alloc _) (by have := HN.out; omega) ?_; intro v' w2 hown2 hf2 hv2 _; obtain ⟨ao2, c2, rfl⟩ := row_any hown2)
  go_ret
  rw [Nat.zero_add, List.nil_append] at hown2
  refine ⟨.slice ao2 n c2, rfl, hown2, fun k hk => ?_, ?_⟩
  · rcases hv2 k (by rw [Nat.zero_add]; exact hk) with h | h
    · have : w.heap.size = k := Option.some.inj h
      omega
    · exact Nat.le_of_succ_le (by simpa using h)
  · refine Fr.trans' ((Fr.refl Nob w).alloc _) hf2 (fun i hi e => ?_)
    have : w.heap.size = i := Option.some.inj e
    omega

set_option maxHeartbeats 400000 in
theorem image_calls {b : Nat} {S : Nat → Prop} {D : DSt} {w : World} (h : IsDisk w b S D) :
    Calls Tryz.prog 14 #[.pointer (some ⟨b, 0, none⟩)] w fun e w' => ∃ v, e = .returned v ∧ w'.ownsRow 0 tStr 1 v D.safe.length (strs D.safe) ∧ (∀ k, v.ownBlock = some k → w.heap.size ≤ k) ∧ Fr Nob w w' := by
  obtain ⟨bs, cs, sp, wv, h⟩ := h
  have c1 := h.head.cell (j := 0) rfl
  have hs := h.srcs cs
  have HC := Lib.hid (clone_strs hs (by have := h.ok.len; omega))
  clear h hs
  go_enter Tryz.func14, Tryz.ntmps14
  go_wp2_with (go_at_call 41; refine HC.out.mono ?_; rintro e w' ⟨v, rfl, H⟩)
  go_ret
  exact ⟨v, rfl, H⟩
end Go.Proofs.YtchilnjocnkodaaGreat
