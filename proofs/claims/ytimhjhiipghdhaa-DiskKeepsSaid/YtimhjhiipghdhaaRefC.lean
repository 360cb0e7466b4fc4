/- The document's disk: Crash. -/
import Derived.Test.YtimhjhiipghdhaaRefB
namespace Go.Proofs.Ytimhjhiipghdhaa
open Go.RowKit

set_option maxRecDepth 100000 in
set_option maxHeartbeats 1000000 in
theorem rcrash_calls {b : Nat} {S : Nat → Prop} {D : DSt} {w : World} (h : IsRef w b S D) (keep : Nat) (hkeep : keep < 18446744073709551616) (hl : D.wait.length ≤ 9223372036854775807) :
    Calls Try.prog 35 #[.pointer (some ⟨b, 0, none⟩), .int .u64 keep] w fun e w' =>
      e = .returned (.tuple #[]) ∧ IsRef w' b S (D.crash keep) ∧ Fr S w w' := by
  obtain ⟨bs, cs, sp, wv, hd⟩ := h
  obtain ⟨ao, cap, rfl⟩ := row_any hd.wait
  have d1 := hd.head.cell (j := 1) rfl
  have HD := Lib.hid hd
  obtain ⟨n, hn⟩ : ∃ n, n = D.wait.length := ⟨_, rfl⟩
  rw [← hn] at d1 hl
  have HN := Lib.hid hn
  have HK := Lib.hid hkeep
  clear hd hn hkeep
  go_enter Try.func35, Try.ntmps35
  go_wp2_with fail
  go_loopw [4] (fun i wr => ∃ k : Nat, k ≤ n ∧ i = .int .i64 k ∧ IsDskAt kR wr b bs cs sp (.slice ao D.wait.length cap) S { D with safe := puts D.safe (keptTo keep D.wait k) } ∧ Fr S w wr) (fun i _ => n - (intOf i).toNat)
  case atStart => exact ⟨0, Nat.zero_le _, rfl, HD.out, Fr.refl _ _⟩
  case round =>
    obtain ⟨k, hk, rfl, hd, hf⟩ := hrel
    by_cases hlt : k < n
    · have hkw : k < D.wait.length := by rw [← HN.out]; exact hlt
      obtain ⟨x, hx⟩ : ∃ x, D.wait[k]? = some x := ⟨_, List.getElem?_eq_getElem hkw⟩
      obtain ⟨g, cap', hg⟩ : ∃ g cap', (Value.slice ao D.wait.length cap) = .slice (some ⟨g, 0, none⟩) D.wait.length cap' := by
        rcases row_form hd.wait with ⟨_, h2⟩ | ⟨g, cap, h1⟩
        · simp only at h2; omega
        · exact ⟨_, _, h1⟩
      simp only [Value.slice.injEq, true_and] at hg
      obtain ⟨rfl, rfl⟩ := hg
      have e1 := hd.wait.cells (g := g) rfl (k * 2) _ (flatW_get hx).1
      have e2 := hd.wait.cells (g := g) rfl (k * 2 + 1) _ (flatW_get hx).2
      simp only [Addr.add_lit, Nat.zero_add] at e1 e2
      have hxl : x.1 < (puts D.safe (keptTo keep D.wait k)).length := by rw [puts_length]; exact HD.out.ok.at_ x (List.mem_of_getElem? hx)
      have p0 := hd.head.cell (j := 0) rfl
      have p1 : wr.cell? ⟨b, 1, none⟩ = some (.slice (some ⟨g, 0, none⟩) n cap) := by rw [HN.out]; exact hd.head.cell rfl
      obtain ⟨y, hy⟩ : ∃ y, (puts D.safe (keptTo keep D.wait k))[x.1]? = some y := ⟨_, List.getElem?_eq_getElem hxl⟩
      have q0 := hd.rows.cell (j := x.1) (v := .string y) (strs_get hy)
      have f0 := hd.rows.free x.1
      have hbl := hd.head.lt
      have hsl := hd.rows.lt
      have HD1 := Lib.hid hd
      have HF1 := Lib.hid hf
      have HX := Lib.hid hx
      have hxn : (x.1 : Int) < ((puts D.safe (keptTo keep D.wait k)).length : Int) := by omega
      clear hd hf hkw hx hy hxl
      obtain ⟨xi, xs⟩ := x
      simp only at *
      generalize (puts D.safe (keptTo keep D.wait k)).length = ns at *
      go_wp2_with fail
      have hk64 : (k : Int) % 64 = ((k % 64 : Nat) : Int) := by omega
      obtain ⟨r, hr⟩ : ∃ r, r = k % 64 := ⟨_, rfl⟩
      rw [← hr] at hk64
      have hr64 : r < 64 := by omega
      have HR := Lib.hid hr
      have HKK := Lib.hid hk64
      clear hr
      go_loop [5, 6] (fun c t => ∃ j : Nat, j ≤ r ∧ c = .int .u64 ((keep / 2 ^ j : Nat) : Int) ∧ t = .int .i64 j) (fun _ t => r - (intOf t).toNat)
      case atStart => exact ⟨0, Nat.zero_le _, by simp, rfl⟩
      case round =>
        obtain ⟨j, hj, rfl, rfl⟩ := hrel
        have hq : ((keep / 2 ^ j : Nat) : Int) ≤ 18446744073709551615 := by
          have h1 := HK.out
          have h2 : keep / 2 ^ j ≤ keep := Nat.div_le_self _ _
          generalize keep / 2 ^ j = q at *
          omega
        have HQ : Hid (keep / 2 ^ (j + 1) = keep / 2 ^ j / 2) := by show _ = _; rw [Nat.pow_succ, Nat.div_div_eq_div_mul]
        obtain ⟨q, hqq⟩ : ∃ q, q = keep / 2 ^ j := ⟨_, rfl⟩
        rw [← hqq] at hq HQ ⊢
        have HQQ := Lib.hid hqq
        clear hqq
        by_cases hjr : j < r
        · go_wp2
          go_round
          case rel => exact ⟨j + 1, by omega, by rw [HQ.out]; go_num, by go_num⟩
          case measure => simp [intOf]; omega
        · obtain rfl : j = r := by omega
          go_wp2_with fail
          · have hbit : ((q : Int) % 2 == 1) = true := by assumption
            have HB : Hid (keep / 2 ^ (k % 64) % 2 = 1) := by
              show _ = _
              rw [beq_iff_eq] at hbit
              rw [← HR.out, ← HQQ.out]; omega
            clear hbit
            refine wp_region_tail 21 (by kernel_rfl) (by kernel_rfl) ?_
            simp only [List.take_succ_cons, List.take_zero, List.drop_succ_cons, List.drop_zero]
            repeat still_step
            refine wpStill_nil ?_
            go_wp2_with fail
            go_roundw
            case rel =>
              have hp := HD1.out.put (i := xi) (s := xs) (HD1.out.ok.wsize (xi, xs) (List.mem_of_getElem? HX.out)) (by show xi < (puts _ _).length; rw [puts_length]; exact HD.out.ok.at_ (xi, xs) (List.mem_of_getElem? HX.out))
              refine ⟨k + 1, by omega, by go_num, ?_, (HF1.out.set (.inl HD1.out.ownS) xi _).drew⟩
              rw [keptTo_yes HX.out HB.out, puts_snoc]
              exact hp.drew
            case measure => simp [intOf]; omega
          · have hbit : ((q : Int) % 2 == 1) = false := by assumption
            have hb : keep / 2 ^ (k % 64) % 2 ≠ 1 := by
              rw [beq_eq_false_iff_ne] at hbit
              rw [← HR.out, ← HQQ.out]; omega
            go_roundw
            case rel =>
              refine ⟨k + 1, by omega, by go_num, ?_, HF1.out⟩
              rw [keptTo_no HX.out hb]
              exact HD1.out
            case measure => simp [intOf]; omega
    · obtain rfl : k = n := by omega
      have d3 : wr.cell? ⟨b, 1, none⟩ = some (.slice ao k cap) := by rw [HN.out]; exact hd.head.cell rfl
      have d4 := hd.head.cell (j := 2) rfl
      have d5 := hd.head.cell (j := 3) rfl
      have g3 := hd.head.free 1
      have g4 := hd.head.free 2
      have g5 := hd.head.free 3
      have HD1 := Lib.hid hd
      have HF1 := Lib.hid hf
      clear hd hf
      go_wp2_with fail
      go_end0
      have hd := HD1.out
      rw [HN.out, keptTo_all] at hd
      refine ⟨rfl, ?_, ((HF1.out.set (.inl hd.own) 1 _).set (.inl hd.own) 3 _).set (.inl hd.own) 2 _⟩
      exact hd.crashed
end Go.Proofs.Ytimhjhiipghdhaa
