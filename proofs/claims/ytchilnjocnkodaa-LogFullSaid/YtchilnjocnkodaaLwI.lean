/- LogFull's walk. -/
import Derived.Test.YtchilnjocnkodaaLwE
namespace Go.Proofs.Ytchilnjocnkodaa
open Go.RowKit

/-- So many home sectors are staged, one behind the other. -/
structure FullSt (H : Nat → ByteArray) (k : Nat) (L : LSt) : Prop where
  calm : Calm 68 H L.D
  dead : L.dead = false
  ok : L.Ok
  len : L.stg.length = min k 30
  at_ : ∀ j, L.stg.at j = none ↔ min k 30 ≤ j

section
variable {H : Nat → ByteArray} {k : Nat} {L : LSt}
theorem full_may (h : FullSt H k L) {i : Nat} (hi : i < 68) : L.mayE i = 0 := by
  unfold LSt.mayE
  rw [if_neg (by simp [h.dead]), if_neg]
  rw [h.calm.len]; omega
theorem full_step (h : FullSt H k L) (hk : k < 68) (s : ByteArray) : L.setE k (secOf s) = (if k < 30 then 0 else 4) ∧ FullSt H (k + 1) (L.set k (secOf s)) := by
  have hmay := full_may h hk
  have hnone : L.stg.at k = none := (h.at_ k).2 (by omega)
  obtain ⟨e1, e2⟩ := set_D L k (secOf s)
  have hE : L.setE k (secOf s) = if k < 30 then 0 else 4 := by
    unfold LSt.setE
    rw [if_neg (by simp [hmay]), if_neg (by simp [secOf_size]), Int.toNat_natCast]
    by_cases h30 : k < 30
    · rw [if_neg (by have := h.len; omega), if_pos h30]
    · rw [if_pos ⟨hnone, by have := h.len; omega⟩, if_neg h30]
  refine ⟨hE, by rw [e1]; exact h.calm, by rw [e2]; exact h.dead, set_good h.ok _ _, ?_, ?_⟩
  · unfold LSt.set
    rw [hE]
    by_cases h30 : k < 30
    · rw [if_pos h30, if_neg (by simp)]
      show (L.stg.put (k : Int).toNat (secOf s)).length = _
      rw [Int.toNat_natCast, put_len h.ok.ok, if_pos hnone, h.len]; omega
    · rw [if_neg h30, if_pos (by simp), h.len]; omega
  · intro j
    unfold LSt.set
    rw [hE]
    by_cases h30 : k < 30
    · rw [if_pos h30, if_neg (by simp)]
      show (L.stg.put (k : Int).toNat (secOf s)).at j = none ↔ _
      rw [Int.toNat_natCast, at_put _ h.ok.ok]
      by_cases hj : j = k
      · rw [if_pos hj]; simp; omega
      · rw [if_neg hj, h.at_ j]; omega
    · rw [if_neg h30, if_pos (by simp), h.at_ j]; omega
theorem full_again (h : FullSt H k L) (s : ByteArray) : L.setE 0 (secOf s) = 0 ∧ (L.set 0 (secOf s)).getS 0 = secOf s ∧ (L.set 0 (secOf s)).count = (if k = 0 then 1 else min k 30) := by
  have hmay := full_may h (i := 0) (by omega)
  have hmay : L.mayE 0 = 0 := hmay
  have hz : ¬ (L.stg.at 0 = none ∧ L.stg.length = 30) := by
    rintro ⟨h1, h2⟩
    have h1 := (h.at_ 0).1 h1
    have := h.len
    omega
  have hE : L.setE 0 (secOf s) = 0 := by
    unfold LSt.setE
    rw [if_neg (by simp [hmay]), if_neg (by simp [secOf_size])]
    show (if L.stg.at 0 = none ∧ L.stg.length = 30 then (4 : Int) else 0) = 0
    rw [if_neg hz]
  have hset : L.set 0 (secOf s) = { L with stg := L.stg.put 0 (secOf s) } := by
    unfold LSt.set
    rw [if_neg (by simp [hE])]
    rfl
  refine ⟨hE, ?_, ?_⟩
  · rw [hset]
    unfold LSt.getS
    have hm2 : (LSt.mk L.D (L.stg.put 0 (secOf s)) L.dead).mayE 0 = 0 := hmay
    rw [if_neg (by simp [hm2])]
    show (match (L.stg.put 0 (secOf s)).at 0 with | some s => s | none => L.D.readS (32 + 0)) = secOf s
    rw [at_put _ h.ok.ok, if_pos rfl]
  · rw [hset]
    unfold LSt.count
    rw [if_neg (by simp [h.dead])]
    show (L.stg.put 0 (secOf s)).length = _
    rw [put_len h.ok.ok]
    by_cases hk : k = 0
    · rw [if_pos hk, if_pos ((h.at_ 0).2 (by omega)), h.len]; omega
    · rw [if_neg hk, if_neg (fun h1 => by have := (h.at_ 0).1 h1; omega), h.len]
end
theorem idle_full {H : Nat → ByteArray} {L : LSt} (h : Idle 68 H L) : FullSt H 0 L where
  calm := h.calm
  dead := h.dead
  ok := h.ok
  len := by rw [h.stg]; rfl
  at_ j := by rw [h.stg]; exact ⟨fun _ => by omega, fun _ => rfl⟩

def tAgain : ByteArray := secOf ⟨#[97, 103, 97, 105, 110]⟩
set_option maxRecDepth 100000 in
set_option maxHeartbeats 8000000 in
theorem logFull_calls {n : Int} {s : ByteArray} (hs : s.size ≤ 140737488351232) (w : World) :
    Calls Try.prog 6 #[.int .i64 n, .string s] w fun e w' => e = .returned (.bool true) ∧ Fr Nob w w' := by
  have HS := Lib.hid hs
  have L2 := (Live.start w).lv
  have hlX := loc_emp
  clear hs
  go_enter Try.func6, Try.ntmps6
  go_wp2_with fail
  refine (L2.calls hlX (shown_calls _)).mono ?_
  rintro e w1 ⟨rfl, L3⟩
  clear L2
  go_wp2_with fail
  refine (new_ok 100 w1 (by omega) (by omega)).mono ?_
  rintro e w2 ⟨d, rfl, hd, hf⟩
  have L4 : Lv Nob w (Star (dskA kD d (DSt.fresh 100)) Emp) w2 := L3.new hlX hf hd
  clear L3 hd hf
  have hOp := (calm_fresh 68).opens
  go_wp2_with fail
  refine (lv_opens L4 hlX hOp.1 (by simp [DSt.fresh])).mono ?_
  rintro e w3 ⟨b, rfl, L5⟩
  have hI0 := idle_full (idle_fresh 68)
  have hRel : ∃ (L : LSt), FullSt (fun _ => nought) 0 L ∧ LV Nob w b d L Emp w3 := ⟨_, hI0, L5⟩
  have HFR0 := Lib.hid L5.fr
  clear L4 L5 hOp hI0
  have hcase : n < 0 ∨ (¬ n < 0 ∧ 60 < n) ∨ ∃ N : Nat, N ≤ 60 ∧ n = (N : Int) := by
    by_cases h : n < 0
    · exact .inl h
    · by_cases h2 : 60 < n
      · exact .inr (.inl ⟨h, h2⟩)
      · exact .inr (.inr ⟨n.toNat, by omega, by omega⟩)
  rcases hcase with h0 | ⟨h0, h60⟩ | ⟨N, hN60, rfl⟩
  · clear hRel
    go_wp2_with fail
    go_ret
    exact ⟨rfl, HFR0.out⟩
  · clear hRel
    go_wp2_with fail
    go_ret
    exact ⟨rfl, HFR0.out⟩
  · go_wp2_with fail
    go_loopw [10] (fun s10 wr => ∃ k : Nat, k ≤ N ∧ s10 = .int .i64 k ∧ ∃ (L : LSt), FullSt (fun _ => nought) k L ∧ LV Nob w b d L Emp wr) (fun s10 _ => N - (intOf s10).toNat)
    case atStart => exact ⟨0, Nat.zero_le _, rfl, hRel⟩
    case round =>
      obtain ⟨k, hk, rfl, L, hI, hL⟩ := hrel
      have HI := Lib.hid hI
      clear hRel hI
      by_cases hlt : k < N
      · have hst := full_step HI.out (by omega) s
        have HST := Lib.hid hst
        clear hst
        go_wp2_with fail
        refine (hL.calls (LV.loc hlX) (sector_calls s wr (by have := HS.out; omega))).mono ?_
        rintro e w5 ⟨rfl, L5⟩
        clear hL
        go_wp2_with fail
        refine (lv_set L5 hlX HI.out.ok k (secOf s)).mono ?_
        rw [HST.out.1]
        rintro e w6 ⟨rfl, L6⟩
        clear L5
        by_cases h30 : k < 30
        · rw [if_pos h30]
          go_wp2_with fail
          go_roundw
          case rel => exact ⟨k + 1, hlt, by go_num, _, HST.out.2, L6⟩
          case measure => simp [intOf]; omega
        · rw [if_neg h30]
          go_wp2_with fail
          go_roundw
          case rel => exact ⟨k + 1, hlt, by go_num, _, HST.out.2, L6⟩
          case measure => simp [intOf]; omega
      · obtain rfl : k = N := by omega
        have hag := full_again HI.out ⟨#[97, 103, 97, 105, 110]⟩
        have HAG := Lib.hid hag
        have hw0 : (L.set 0 tAgain).D.wait.length * 24 ≤ 140737488355328 := by rw [(set_D L 0 tAgain).1, HI.out.calm.wait]; decide
        have HW0 := Lib.hid hw0
        have b1 : (tAgain.toList == (secOf ⟨#[97, 103, 97, 105, 110]⟩).toList) = true := by rw [bytes_beq]; exact decide_eq_true rfl
        clear hag hw0 hlt
        go_wp2_with fail
        refine (hL.calls (LV.loc hlX) (sector_calls ⟨#[97, 103, 97, 105, 110]⟩ _ (by decide))).mono ?_
        rintro e w5 ⟨rfl, L5⟩
        clear hL
        go_wp2_with fail
        refine (lv_set L5 hlX HI.out.ok 0 tAgain).mono ?_
        rw [show L.setE 0 tAgain = 0 from HAG.out.1]
        rintro e w6 ⟨rfl, L6⟩
        clear L5
        go_wp2_with fail
        refine (lv_get L6 hlX HW0.out 0).mono ?_
        rw [show (L.set 0 tAgain).getS 0 = tAgain from HAG.out.2.1]
        rintro e w7 ⟨rfl, L7⟩
        clear L6
        have hkk : (k = 0) ∨ (0 < k ∧ k ≤ 30) ∨ 30 < k := by omega
        rcases hkk with rfl | ⟨h1, h2⟩ | h1
        · go_wp2_with fail
          refine (L7.calls (LV.loc hlX) (sector_calls ⟨#[97, 103, 97, 105, 110]⟩ _ (by decide))).mono ?_
          rintro e w8 ⟨rfl, L8⟩
          have L8 : LV Nob w b d (L.set 0 tAgain) Emp w8 := L8
          clear L7
          go_wp2_with fail
          refine (lv_staged L8).mono ?_
          rw [show (L.set 0 tAgain).count = 1 from HAG.out.2.2]
          rintro e w9 ⟨rfl, rfl⟩
          have HFR := Lib.hid L8.fr
          clear L8
          go_wp2_with fail
          go_ret
          exact ⟨rfl, HFR.out⟩
        · have hc : (L.set 0 tAgain).count = k := by
            rw [show (L.set 0 tAgain).count = _ from HAG.out.2.2, if_neg (by omega)]; omega
          have HC := Lib.hid hc
          clear hc
          have z1 : ((k : Int) == 0) = false := by rw [beq_eq_false_iff_ne]; omega
          go_wp2_with fail
          refine (L7.calls (LV.loc hlX) (sector_calls ⟨#[97, 103, 97, 105, 110]⟩ _ (by decide))).mono ?_
          rintro e w8 ⟨rfl, L8⟩
          have L8 : LV Nob w b d (L.set 0 tAgain) Emp w8 := L8
          clear L7
          go_wp2_with fail
          refine (lv_staged L8).mono ?_
          rw [HC.out]
          rintro e w9 ⟨rfl, rfl⟩
          have HFR := Lib.hid L8.fr
          clear L8
          go_wp2_with fail
          go_ret
          exact ⟨rfl, HFR.out⟩
        · have hc : (L.set 0 tAgain).count = 30 := by
            rw [show (L.set 0 tAgain).count = _ from HAG.out.2.2, if_neg (by omega)]; omega
          have HC := Lib.hid hc
          clear hc
          go_wp2_with fail
          refine (L7.calls (LV.loc hlX) (sector_calls ⟨#[97, 103, 97, 105, 110]⟩ _ (by decide))).mono ?_
          rintro e w8 ⟨rfl, L8⟩
          have L8 : LV Nob w b d (L.set 0 tAgain) Emp w8 := L8
          clear L7
          go_wp2_with fail
          refine (lv_staged L8).mono ?_
          rw [HC.out]
          rintro e w9 ⟨rfl, rfl⟩
          have HFR := Lib.hid L8.fr
          clear L8
          go_wp2_with fail
          go_ret
          exact ⟨rfl, HFR.out⟩
end Go.Proofs.Ytchilnjocnkodaa
