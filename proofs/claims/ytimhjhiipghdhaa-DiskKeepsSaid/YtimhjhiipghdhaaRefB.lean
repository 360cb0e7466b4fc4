/- The document's disk: Flush, Read. -/
import Derived.Test.YtimhjhiipghdhaaRefA
import Derived.Test.YtimhjhiipghdhaaDskH
namespace Go.Proofs.Ytimhjhiipghdhaa
open Go.RowKit

set_option maxHeartbeats 400000 in
theorem rflush_off {b : Nat} {S : Nat → Prop} {D : DSt} {w : World} (h : IsRef w b S D) (h0 : D.off = true) :
    Calls Try.prog 33 #[.pointer (some ⟨b, 0, none⟩)] w fun e w' => e = .returned (.int .i64 7) ∧ w = w' := by
  obtain ⟨bs, cs, sp, wv, h⟩ := h
  have c3 : w.cell? ⟨b, 3, none⟩ = some (.bool true) := by rw [h.head.cell rfl, h0]
  go_enter Try.func33, Try.ntmps33
  go_wp2
  go_ret
  exact ⟨rfl, rfl⟩

set_option maxHeartbeats 400000 in
theorem rflush_dead {b : Nat} {S : Nat → Prop} {D : DSt} {w : World} (h : IsRef w b S D) (h0 : D.off = false) (h4 : D.power = 0) :
    Calls Try.prog 33 #[.pointer (some ⟨b, 0, none⟩)] w fun e w' => e = .returned (.int .i64 7) ∧ IsRef w' b S D.die ∧ Fr S w w' := by
  have HA := Lib.hid (ract_dead h h4)
  obtain ⟨bs, cs, sp, wv, h⟩ := h
  have c3 : w.cell? ⟨b, 3, none⟩ = some (.bool false) := by rw [h.head.cell rfl, h0]
  clear h h0 h4
  go_enter Try.func33, Try.ntmps33
  go_wp2_with (go_at_call 45; refine HA.out.mono ?_; rintro e w' ⟨rfl, hd, hf⟩)
  go_ret
  exact ⟨rfl, hd, hf⟩

set_option maxRecDepth 100000 in
set_option maxHeartbeats 1000000 in
theorem rflush_ok1 {b : Nat} {S : Nat → Prop} {D D1 : DSt} {w : World} (hD : D1 = D.pay) (h : IsRef w b S D) (h0 : D.off = false) (h4 : D.power ≠ 0) (hl : D1.wait.length ≤ 9223372036854775807) :
    Calls Try.prog 33 #[.pointer (some ⟨b, 0, none⟩)] w fun e w' =>
      e = .returned (.int .i64 0) ∧ IsRef w' b S { D1 with safe := puts D1.safe D1.wait, wait := [] } ∧ Fr S w w' := by
  have HA := Lib.hid (ract_live h h4)
  rw [← hD] at HA
  clear hD
  obtain ⟨bs, cs, sp, wv, h⟩ := h
  have c3 : w.cell? ⟨b, 3, none⟩ = some (.bool false) := by rw [h.head.cell rfl, h0]
  clear h h0 h4
  go_enter Try.func33, Try.ntmps33
  go_wp2_with fail
  refine HA.out.mono ?_; rintro e w1 ⟨rfl, hd, hf⟩
  obtain ⟨bs1, cs1, sp1, wv1, hd⟩ := hd
  obtain ⟨ao, cap, rfl⟩ : ∃ ao cap, wv1 = .slice ao D1.wait.length cap := by
    rcases row_form hd.wait with ⟨h1, h2⟩ | ⟨g, cap, h1⟩
    · exact ⟨none, 0, by rw [h1, h2]⟩
    · exact ⟨_, _, h1⟩
  have d1 := hd.head.cell (j := 1) rfl
  have HD := Lib.hid hd
  have HF := Lib.hid hf
  obtain ⟨n, hn⟩ : ∃ n, n = D1.wait.length := ⟨_, rfl⟩
  rw [← hn] at d1 hl
  have HN := Lib.hid hn
  clear hd hf c3 hn
  go_wp2_with fail
  go_loopw [4] (fun i wr => ∃ k : Nat, k ≤ n ∧ i = .int .i64 k ∧ IsDskAt kR wr b bs1 cs1 sp1 (.slice ao D1.wait.length cap) S { D1 with safe := puts D1.safe (D1.wait.take k) } ∧ Fr S w1 wr) (fun i _ => n - (intOf i).toNat)
  case atStart => exact ⟨0, Nat.zero_le _, rfl, HD.out, Fr.refl _ _⟩
  case round =>
    obtain ⟨k, hk, rfl, hd, hf⟩ := hrel
    by_cases hlt : k < n
    · have hkw : k < D1.wait.length := by rw [← HN.out]; exact hlt
      obtain ⟨x, hx⟩ : ∃ x, D1.wait[k]? = some x := ⟨_, List.getElem?_eq_getElem hkw⟩
      obtain ⟨g, cap', hg⟩ : ∃ g cap', (Value.slice ao D1.wait.length cap) = .slice (some ⟨g, 0, none⟩) D1.wait.length cap' := by
        rcases row_form hd.wait with ⟨_, h2⟩ | ⟨g, cap, h1⟩
        · simp only at h2; omega
        · exact ⟨_, _, h1⟩
      simp only [Value.slice.injEq, true_and] at hg
      obtain ⟨rfl, rfl⟩ := hg
      have e1 := hd.wait.cells (g := g) rfl (k * 2) _ (flatW_get hx).1
      have e2 := hd.wait.cells (g := g) rfl (k * 2 + 1) _ (flatW_get hx).2
      simp only [Addr.add_lit, Nat.zero_add] at e1 e2
      have hxl : x.1 < (puts D1.safe (D1.wait.take k)).length := by rw [puts_length]; exact HD.out.ok.at_ x (List.mem_of_getElem? hx)
      have p0 := hd.head.cell (j := 0) rfl
      have p1 : wr.cell? ⟨b, 1, none⟩ = some (.slice (some ⟨g, 0, none⟩) n cap) := by rw [HN.out]; exact hd.head.cell rfl
      obtain ⟨y, hy⟩ : ∃ y, (puts D1.safe (D1.wait.take k))[x.1]? = some y := ⟨_, List.getElem?_eq_getElem hxl⟩
      have q0 := hd.rows.cell (j := x.1) (v := .string y) (strs_get hy)
      have f0 := hd.rows.free x.1
      have hbl := hd.head.lt
      have hsl := hd.rows.lt
      have HD1 := Lib.hid hd
      have HF1 := Lib.hid hf
      have HK := Lib.hid hx
      have hxn : (x.1 : Int) < ((puts D1.safe (D1.wait.take k)).length : Int) := by omega
      clear hd hf hkw hx hy hxl
      obtain ⟨xi, xs⟩ := x
      simp only at *
      generalize (puts D1.safe (D1.wait.take k)).length = ns at *
      go_wp2_with fail
      refine wp_region_tail 21 (by kernel_rfl) (by kernel_rfl) ?_
      simp only [List.take_succ_cons, List.take_zero, List.drop_succ_cons, List.drop_zero]
      repeat still_step
      refine wpStill_nil ?_
      go_wp2_with fail
      go_roundw
      case rel =>
        have hp := HD1.out.put (i := xi) (s := xs) (HD1.out.ok.wsize (xi, xs) (List.mem_of_getElem? HK.out)) (by show xi < (puts _ _).length; rw [puts_length]; exact HD.out.ok.at_ (xi, xs) (List.mem_of_getElem? HK.out))
        refine ⟨k + 1, by omega, by go_num, ?_, (HF1.out.set (.inl HD1.out.ownS) xi _).drew⟩
        rw [puts_take _ HK.out]
        exact hp.drew
      case measure => simp [intOf]; omega
    · obtain rfl : k = n := by omega
      have d3 : wr.cell? ⟨b, 1, none⟩ = some (.slice ao k cap) := by rw [HN.out]; exact hd.head.cell rfl
      have g3 := hd.head.free 1
      have HD1 := Lib.hid hd
      have HF1 := Lib.hid hf
      clear hd hf
      go_wp2_with fail
      go_ret
      have hd := HD1.out
      rw [HN.out, List.take_length] at hd
      exact ⟨rfl, hd.cleared, (HF.out.trans HF1.out).set (.inl hd.own) 1 _⟩

theorem rflush_ok {b : Nat} {S : Nat → Prop} {D : DSt} {w : World} (h : IsRef w b S D) (h0 : D.off = false) (h4 : D.power ≠ 0) (hl : D.wait.length * 24 ≤ 140737488355328) :
    Calls Try.prog 33 #[.pointer (some ⟨b, 0, none⟩)] w fun e w' =>
      e = .returned (.int .i64 0) ∧ IsRef w' b S { D.pay with safe := puts D.safe D.wait, wait := [] } ∧ Fr S w w' :=
  rflush_ok1 rfl h h0 h4 (by show D.wait.length ≤ _; omega)

set_option maxHeartbeats 400000 in
theorem rread_off {b : Nat} {S : Nat → Prop} {D : DSt} {w : World} (h : IsRef w b S D) (h0 : D.off = true) (i : Int) :
    Calls Try.prog 31 #[.pointer (some ⟨b, 0, none⟩), .int .i64 i] w fun e w' => e = .returned (.tuple #[.string ⟨#[]⟩, .int .i64 7]) ∧ w = w' := by
  obtain ⟨bs, cs, sp, wv, h⟩ := h
  have c3 : w.cell? ⟨b, 3, none⟩ = some (.bool true) := by rw [h.head.cell rfl, h0]
  clear h h0
  go_enter Try.func31, Try.ntmps31
  go_wp2
  go_ret2
  exact ⟨rfl, rfl⟩

set_option maxHeartbeats 400000 in
theorem rread_arg {b : Nat} {S : Nat → Prop} {D : DSt} {w : World} (h : IsRef w b S D) (h0 : D.off = false) (i : Int) (hi : i < 0 ∨ (D.safe.length : Int) ≤ i) :
    Calls Try.prog 31 #[.pointer (some ⟨b, 0, none⟩), .int .i64 i] w fun e w' => e = .returned (.tuple #[.string ⟨#[]⟩, .int .i64 1]) ∧ w = w' := by
  obtain ⟨bs, cs, sp, wv, h⟩ := h
  have c3 : w.cell? ⟨b, 3, none⟩ = some (.bool false) := by rw [h.head.cell rfl, h0]
  have c0 := h.head.cell (j := 0) rfl
  clear h h0
  generalize D.safe.length = n at *
  by_cases h2 : i < 0
  · go_enter Try.func31, Try.ntmps31
    go_wp2
    go_ret2
    exact ⟨rfl, rfl⟩
  · have hi2 : (n : Int) ≤ i := by omega
    go_enter Try.func31, Try.ntmps31
    go_wp2
    go_ret2
    exact ⟨rfl, rfl⟩

set_option maxRecDepth 100000 in
set_option maxHeartbeats 1000000 in
theorem rread_ok {b : Nat} {S : Nat → Prop} {D : DSt} {w : World} (h : IsRef w b S D) (h0 : D.off = false) (i : Nat) (hi : i < D.safe.length) (hl : D.wait.length ≤ 9223372036854775807) :
    Calls Try.prog 31 #[.pointer (some ⟨b, 0, none⟩), .int .i64 i] w fun e w' => e = .returned (.tuple #[.string (D.sec i), .int .i64 0]) ∧ w = w' := by
  obtain ⟨bs, cs, sp, wv, h⟩ := h
  have c3 : w.cell? ⟨b, 3, none⟩ = some (.bool false) := by rw [h.head.cell rfl, h0]
  have c0 := h.head.cell (j := 0) rfl
  obtain ⟨ao, cap, rfl⟩ := row_any h.wait
  have c1 := h.head.cell (j := 1) rfl
  obtain ⟨y, hy⟩ : ∃ y, D.safe[i]? = some y := ⟨_, List.getElem?_eq_getElem hi⟩
  have q1 : w.cell? ⟨bs, i, none⟩ = some (.string y) := h.rows.cell (strs_get hy)
  have hi2 : (i : Int) < (D.safe.length : Int) := by omega
  have HW := Lib.hid h.wait
  have HY := Lib.hid hy
  obtain ⟨n, hn⟩ : ∃ n, n = D.wait.length := ⟨_, rfl⟩
  rw [← hn] at c1 hl
  have HN := Lib.hid hn
  clear h h0 hy hn hi
  go_enter Try.func31, Try.ntmps31
  go_wp2_with fail
  go_loop [6, 7] (fun s j => ∃ k : Nat, k ≤ n ∧ j = .int .i64 k ∧ s = .string ((lastOf (D.wait.take k) i).getD y)) (fun _ j => n - (intOf j).toNat)
  case atStart => exact ⟨0, Nat.zero_le _, rfl, rfl⟩
  case round =>
    obtain ⟨k, hk, rfl, rfl⟩ := hrel
    by_cases hlt : k < n
    · obtain ⟨x, hx⟩ : ∃ x, D.wait[k]? = some x := ⟨_, List.getElem?_eq_getElem (by rw [← HN.out]; exact hlt)⟩
      have hwt := HW.out
      obtain ⟨g, cap', hg⟩ : ∃ g cap', (Value.slice ao D.wait.length cap) = .slice (some ⟨g, 0, none⟩) D.wait.length cap' := by
        rcases row_form hwt with ⟨_, h2⟩ | ⟨g, cap, h1⟩
        · have := HN.out; omega
        · exact ⟨_, _, h1⟩
      simp only [Value.slice.injEq, true_and] at hg
      obtain ⟨rfl, rfl⟩ := hg
      have e1 := hwt.cells (g := g) rfl (k * 2) _ (flatW_get hx).1
      have e2 := hwt.cells (g := g) rfl (k * 2 + 1) _ (flatW_get hx).2
      simp only [Addr.add_lit, Nat.zero_add] at e1 e2
      have HL := Lib.hid (lastOf_take hx i)
      clear hwt hx
      by_cases hxi : x.1 = i
      · have hx' : ((x.1 : Int) == (i : Int)) = true := by rw [beq_iff_eq]; omega
        have HX := Lib.hid hxi
        clear hxi
        go_wp2
        go_round
        case rel => exact ⟨k + 1, by omega, by go_num, by rw [HL.out, if_pos HX.out]; rfl⟩
        case measure => simp [intOf]; omega
      · have hx' : ((x.1 : Int) == (i : Int)) = false := by rw [beq_eq_false_iff_ne]; omega
        have HX := Lib.hid hxi
        clear hxi
        go_wp2
        go_round
        case rel => exact ⟨k + 1, by omega, by go_num, by rw [HL.out, if_neg HX.out]⟩
        case measure => simp [intOf]; omega
    · obtain rfl : k = n := by omega
      go_wp2
      go_ret2
      have e : D.sec i = (lastOf (D.wait.take k) i).getD y := by
        rw [HN.out, List.take_length]
        unfold DSt.sec
        rw [HY.out]
        cases lastOf D.wait i <;> rfl
      exact ⟨by rw [e]; rfl, rfl⟩
end Go.Proofs.Ytimhjhiipghdhaa
