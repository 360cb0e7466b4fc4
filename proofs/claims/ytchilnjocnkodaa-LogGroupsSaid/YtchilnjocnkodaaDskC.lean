/- The program's disk: Flush. -/
import Derived.Test.YtchilnjocnkodaaDskB
namespace Go.Proofs.Ytchilnjocnkodaa
open Go.RowKit

set_option maxHeartbeats 400000 in
theorem flush_off {b : Nat} {S : Nat → Prop} {D : DSt} {w : World} (h : IsDisk w b S D) (h0 : D.off = true) :
    Calls Try.prog 64 #[.pointer (some ⟨b, 0, none⟩)] w fun e w' => e = .returned (.int .i64 7) ∧ w = w' := by
  obtain ⟨bs, cs, sp, wv, h⟩ := h
  have c3 : w.cell? ⟨b, 3, none⟩ = some (.bool true) := by rw [h.head.cell rfl, h0]
  go_enter Try.func64, Try.ntmps64
  go_wp2
  go_ret
  exact ⟨rfl, rfl⟩

set_option maxHeartbeats 400000 in
theorem flush_dead {b : Nat} {S : Nat → Prop} {D : DSt} {w : World} (h : IsDisk w b S D) (h0 : D.off = false) (h4 : D.power = 0) :
    Calls Try.prog 64 #[.pointer (some ⟨b, 0, none⟩)] w fun e w' => e = .returned (.int .i64 7) ∧ IsDisk w' b S D.die ∧ Fr S w w' := by
  have HA := Lib.hid (act_dead h h4)
  obtain ⟨bs, cs, sp, wv, h⟩ := h
  have c3 : w.cell? ⟨b, 3, none⟩ = some (.bool false) := by rw [h.head.cell rfl, h0]
  clear h h0 h4
  go_enter Try.func64, Try.ntmps64
  go_wp2_with (go_at_call 63; refine HA.out.mono ?_; rintro e w' ⟨rfl, hd, hf⟩)
  go_ret
  exact ⟨rfl, hd, hf⟩

set_option maxRecDepth 100000 in
set_option maxHeartbeats 1000000 in
theorem flush_ok1 {b : Nat} {S : Nat → Prop} {D D1 : DSt} {w : World} (hD : D1 = D.pay) (h : IsDisk w b S D) (h0 : D.off = false) (h4 : D.power ≠ 0) (hl : D1.wait.length ≤ 9223372036854775807) :
    Calls Try.prog 64 #[.pointer (some ⟨b, 0, none⟩)] w fun e w' =>
      e = .returned (.int .i64 0) ∧ IsDisk w' b S { D1 with safe := puts D1.safe D1.wait, wait := [] } ∧ Fr S w w' := by
  have HA := Lib.hid (act_live h h4)
  rw [← hD] at HA
  clear hD
  obtain ⟨bs, cs, sp, wv, h⟩ := h
  have c3 : w.cell? ⟨b, 3, none⟩ = some (.bool false) := by rw [h.head.cell rfl, h0]
  clear h h0 h4
  go_enter Try.func64, Try.ntmps64
  go_wp2_with fail
  refine HA.out.mono ?_; rintro e w1 ⟨rfl, hd, hf⟩
  obtain ⟨bs1, cs1, sp1, wv1, hd⟩ := hd
  obtain ⟨ao, cap, rfl⟩ : ∃ ao cap, wv1 = .slice ao D1.wait.length cap := by
    rcases row_form hd.wait with ⟨h1, h2⟩ | ⟨g, cap, h1⟩
    · exact ⟨none, 0, by rw [h1, h2]⟩
    · exact ⟨_, _, h1⟩
  have d1 := hd.head.cell (j := 1) rfl
  have HD := Lib.hid hd
  have HF := Lib.hid hf
  obtain ⟨n, hn⟩ : ∃ n, n = D1.wait.length := ⟨_, rfl⟩
  rw [← hn] at d1 hl
  have HN := Lib.hid hn
  clear hd hf c3 hn
  go_wp2_with fail
  go_loopw [23] (fun i wr => ∃ k : Nat, k ≤ n ∧ i = .int .i64 k ∧ IsDskAt kD wr b bs1 cs1 sp1 (.slice ao D1.wait.length cap) S { D1 with safe := puts D1.safe (D1.wait.take k) } ∧ Fr S w1 wr) (fun i _ => n - (intOf i).toNat)
  case atStart => exact ⟨0, Nat.zero_le _, rfl, HD.out, Fr.refl _ _⟩
  case round =>
    obtain ⟨k, hk, rfl, hd, hf⟩ := hrel
    by_cases hlt : k < n
    · have hkw : k < D1.wait.length := by rw [← HN.out]; exact hlt
      obtain ⟨x, hx⟩ : ∃ x, D1.wait[k]? = some x := ⟨_, List.getElem?_eq_getElem hkw⟩
      obtain ⟨g, cap', hg⟩ : ∃ g cap', (Value.slice ao D1.wait.length cap) = .slice (some ⟨g, 0, none⟩) D1.wait.length cap' := by
        rcases row_form hd.wait with ⟨_, h2⟩ | ⟨g, cap, h1⟩
        · simp only at h2; omega
        · exact ⟨_, _, h1⟩
      simp only [Value.slice.injEq, true_and] at hg
      obtain ⟨rfl, rfl⟩ := hg
      have e1 := hd.wait.cells (g := g) rfl (k * 2) _ (flatW_get hx).1
      have e2 := hd.wait.cells (g := g) rfl (k * 2 + 1) _ (flatW_get hx).2
      simp only [Addr.add_lit, Nat.zero_add] at e1 e2
      have hxl : x.1 < (puts D1.safe (D1.wait.take k)).length := by rw [puts_length]; exact HD.out.ok.at_ x (List.mem_of_getElem? hx)
      have p0 := hd.head.cell (j := 0) rfl
      obtain ⟨y, hy⟩ : ∃ y, (puts D1.safe (D1.wait.take k))[x.1]? = some y := ⟨_, List.getElem?_eq_getElem hxl⟩
      have q0 := hd.rows.cell (j := x.1) (v := .string y) (strs_get hy)
      have f0 := hd.rows.free x.1
      have hbl := hd.head.lt
      have hsl := hd.rows.lt
      have HD1 := Lib.hid hd
      have HF1 := Lib.hid hf
      have HK := Lib.hid hx
      have hxn : (x.1 : Int) < ((puts D1.safe (D1.wait.take k)).length : Int) := by omega
      clear hd hf hkw hx hy hxl
      obtain ⟨xi, xs⟩ := x
      simp only at *
      generalize (puts D1.safe (D1.wait.take k)).length = ns at *
      go_wp2_with fail
      refine wp_region_tail 9 (by kernel_rfl) (by kernel_rfl) ?_
      simp only [List.take_succ_cons, List.take_zero, List.drop_succ_cons, List.drop_zero]
      repeat still_step
      refine wpStill_nil ?_
      go_wp2_with fail
      go_roundw
      case rel =>
        have hp := HD1.out.put (i := xi) (s := xs) (HD1.out.ok.wsize (xi, xs) (List.mem_of_getElem? HK.out)) (by show xi < (puts _ _).length; rw [puts_length]; exact HD.out.ok.at_ (xi, xs) (List.mem_of_getElem? HK.out))
        refine ⟨k + 1, by omega, by go_num, ?_, ((HF1.out.set (.inl HD1.out.ownS) xi _).alloc _).drew⟩
        rw [puts_take _ HK.out]
        exact (hp.alloc _).drew
      case measure => simp [intOf]; omega
    · obtain rfl : k = n := by omega
      have d3 := hd.head.cell (j := 1) rfl
      have g3 := hd.head.free 1
      have HD1 := Lib.hid hd
      have HF1 := Lib.hid hf
      clear hd hf
      go_wp2_with fail
      go_ret
      have hd := HD1.out
      rw [HN.out, List.take_length] at hd
      exact ⟨rfl, hd.cleared, (HF.out.trans HF1.out).set (.inl hd.own) 1 _⟩

theorem flush_ok {b : Nat} {S : Nat → Prop} {D : DSt} {w : World} (h : IsDisk w b S D) (h0 : D.off = false) (h4 : D.power ≠ 0) (hl : D.wait.length * 24 ≤ 140737488355328) :
    Calls Try.prog 64 #[.pointer (some ⟨b, 0, none⟩)] w fun e w' =>
      e = .returned (.int .i64 0) ∧ IsDisk w' b S { D.pay with safe := puts D.safe D.wait, wait := [] } ∧ Fr S w w' :=
  flush_ok1 rfl h h0 h4 (by show D.wait.length ≤ _; omega)
end Go.Proofs.Ytchilnjocnkodaa
