/- The program's disk: Crash. -/
import Derived.Test.YtchilnjocnkodaaGreatDskG
namespace Go.Proofs.YtchilnjocnkodaaGreat
open Go.RowKit

/-- The first k writes, those of them that are kept. -/
def keptTo (keep : Nat) (w : List (Nat × ByteArray)) (k : Nat) : List (Nat × ByteArray) :=
  ((w.zipIdx.take k).filter (fun x => keep / 2 ^ (x.2 % 64) % 2 == 1)).map (·.1)
theorem keptTo_all (keep : Nat) (w : List (Nat × ByteArray)) : keptTo keep w w.length = kept keep w := by
  unfold keptTo kept; rw [List.take_of_length_le (by simp)]
theorem keptTo_yes {keep : Nat} {w : List (Nat × ByteArray)} {k : Nat} {x : Nat × ByteArray} (h : w[k]? = some x) (hb : keep / 2 ^ (k % 64) % 2 = 1) : keptTo keep w (k + 1) = keptTo keep w k ++ [x] := by
  unfold keptTo
  rw [List.take_add_one, show w.zipIdx[k]? = some (x, k) by simp [h], List.filter_append, List.map_append]
  simp [hb]
theorem keptTo_no {keep : Nat} {w : List (Nat × ByteArray)} {k : Nat} {x : Nat × ByteArray} (h : w[k]? = some x) (hb : keep / 2 ^ (k % 64) % 2 ≠ 1) : keptTo keep w (k + 1) = keptTo keep w k := by
  unfold keptTo
  rw [List.take_add_one, show w.zipIdx[k]? = some (x, k) by simp [h], List.filter_append, List.map_append]
  simp [hb]

theorem bit_eq (keep k : Nat) (h : keep < 18446744073709551616) : bits BinOp.and IntKind.u64 ((keep : Int) / 2 ^ k) 1 = ((keep / 2 ^ k % 2 : Nat) : Int) := by
  have e : ((keep : Int) / 2 ^ k) = ((keep / 2 ^ k : Nat) : Int) := by simp
  have h2 : keep / 2 ^ k ≤ keep := Nat.div_le_self _ _
  rw [e]
  generalize keep / 2 ^ k = q at *
  rw [and_one_u64 _ (by omega) (by omega)]
  omega
theorem bit_yes {keep k : Nat} (hk : keep < 18446744073709551616) (h : (bits BinOp.and IntKind.u64 ((keep : Int) / 2 ^ k) 1 == 1) = true) : keep / 2 ^ k % 2 = 1 := by
  rw [bit_eq keep k hk, beq_iff_eq] at h
  omega
theorem bit_no {keep k : Nat} (hk : keep < 18446744073709551616) (h : (bits BinOp.and IntKind.u64 ((keep : Int) / 2 ^ k) 1 == 1) = false) : keep / 2 ^ k % 2 ≠ 1 := by
  rw [bit_eq keep k hk, beq_eq_false_iff_ne] at h
  omega

set_option maxRecDepth 100000 in
set_option maxHeartbeats 1000000 in
theorem crash_calls {b : Nat} {S : Nat → Prop} {D : DSt} {w : World} (h : IsDisk w b S D) (keep : Nat) (hkeep : keep < 18446744073709551616) (hl : D.wait.length ≤ 9223372036854775807) :
    Calls Tryz.prog 10 #[.pointer (some ⟨b, 0, none⟩), .int .u64 keep] w fun e w' =>
      e = .returned (.tuple #[]) ∧ IsDisk w' b S (D.crash keep) ∧ Fr S w w' := by
  obtain ⟨bs, cs, sp, wv, hd⟩ := h
  obtain ⟨ao, cap, rfl⟩ := row_any hd.wait
  have d1 := hd.head.cell (j := 1) rfl
  have HD := Lib.hid hd
  obtain ⟨n, hn⟩ : ∃ n, n = D.wait.length := ⟨_, rfl⟩
  rw [← hn] at d1 hl
  have HN := Lib.hid hn
  have HK := Lib.hid hkeep
  clear hd hn hkeep
  go_enter Tryz.func10, Tryz.ntmps10
  go_wp2_with fail
  go_loopw [13] (fun i wr => ∃ k : Nat, k ≤ n ∧ i = .int .i64 k ∧ IsDskAt kD wr b bs cs sp (.slice ao D.wait.length cap) S { D with safe := puts D.safe (keptTo keep D.wait k) } ∧ Fr S w wr) (fun i _ => n - (intOf i).toNat)
  case atStart => exact ⟨0, Nat.zero_le _, rfl, HD.out, Fr.refl _ _⟩
  case round =>
    obtain ⟨k, hk, rfl, hd, hf⟩ := hrel
    by_cases hlt : k < n
    · have hkw : k < D.wait.length := by rw [← HN.out]; exact hlt
      obtain ⟨x, hx⟩ : ∃ x, D.wait[k]? = some x := ⟨_, List.getElem?_eq_getElem hkw⟩
      obtain ⟨g, cap', hg⟩ : ∃ g cap', (Value.slice ao D.wait.length cap) = .slice (some ⟨g, 0, none⟩) D.wait.length cap' := by
        rcases row_form hd.wait with ⟨_, h2⟩ | ⟨g, cap, h1⟩
        · simp only at h2; omega
        · exact ⟨_, _, h1⟩
      simp only [Value.slice.injEq, true_and] at hg
      obtain ⟨rfl, rfl⟩ := hg
      have e1 := hd.wait.cells (g := g) rfl (k * 2) _ (flatW_get hx).1
      have e2 := hd.wait.cells (g := g) rfl (k * 2 + 1) _ (flatW_get hx).2
      simp only [Addr.add_lit, Nat.zero_add] at e1 e2
      have hxl : x.1 < (puts D.safe (keptTo keep D.wait k)).length := by rw [puts_length]; exact HD.out.ok.at_ x (List.mem_of_getElem? hx)
      have p0 := hd.head.cell (j := 0) rfl
      obtain ⟨y, hy⟩ : ∃ y, (puts D.safe (keptTo keep D.wait k))[x.1]? = some y := ⟨_, List.getElem?_eq_getElem hxl⟩
      have q0 := hd.rows.cell (j := x.1) (v := .string y) (strs_get hy)
      have f0 := hd.rows.free x.1
      have hbl := hd.head.lt
      have hsl := hd.rows.lt
      have HD1 := Lib.hid hd
      have HF1 := Lib.hid hf
      have HX := Lib.hid hx
      have hxn : (x.1 : Int) < ((puts D.safe (keptTo keep D.wait k)).length : Int) := by omega
      clear hd hf hkw hx hy hxl
      obtain ⟨xi, xs⟩ := x
      simp only at *
      generalize (puts D.safe (keptTo keep D.wait k)).length = ns at *
      go_wp2_with fail
      · have hbit : (bits BinOp.and IntKind.u64 ((keep : Int) / 2 ^ (k % 64)) 1 == 1) = true := by assumption
        have hb := bit_yes HK.out hbit
        have HB := Lib.hid hb
        clear hbit hb
        refine wp_region_tail 9 (by kernel_rfl) (by kernel_rfl) ?_
        simp only [List.take_succ_cons, List.take_zero, List.drop_succ_cons, List.drop_zero]
        repeat still_step
        refine wpStill_nil ?_
        go_wp2_with fail
        go_roundw
        case rel =>
          have hp := HD1.out.put (i := xi) (s := xs) (HD1.out.ok.wsize (xi, xs) (List.mem_of_getElem? HX.out)) (by show xi < (puts _ _).length; rw [puts_length]; exact HD.out.ok.at_ (xi, xs) (List.mem_of_getElem? HX.out))
          refine ⟨k + 1, by omega, by go_num, ?_, ((HF1.out.set (.inl HD1.out.ownS) xi _).alloc _).drew⟩
          rw [keptTo_yes HX.out HB.out, puts_snoc]
          exact (hp.alloc _).drew
        case measure => simp [intOf]; omega
      · have hbit : (bits BinOp.and IntKind.u64 ((keep : Int) / 2 ^ (k % 64)) 1 == 1) = false := by assumption
        have hb := bit_no HK.out hbit
        go_roundw
        case rel =>
          refine ⟨k + 1, by omega, by go_num, ?_, (HF1.out.alloc _)⟩
          rw [keptTo_no HX.out hb]
          exact HD1.out.alloc _
        case measure => simp [intOf]; omega
    · obtain rfl : k = n := by omega
      have hbl := hd.head
      have d3 := hd.head.cell (j := 1) rfl
      have d4 := hd.head.cell (j := 2) rfl
      have d5 := hd.head.cell (j := 3) rfl
      have g3 := hd.head.free 1
      have g4 := hd.head.free 2
      have g5 := hd.head.free 3
      have HD1 := Lib.hid hd
      have HF1 := Lib.hid hf
      clear hd hf hbl
      go_wp2_with fail
      go_end0
      have hd := HD1.out
      rw [HN.out, keptTo_all] at hd
      refine ⟨rfl, ?_, ((HF1.out.set (.inl hd.own) 1 _).set (.inl hd.own) 3 _).set (.inl hd.own) 2 _⟩
      exact hd.crashed
end Go.Proofs.YtchilnjocnkodaaGreat
