/- The document's volume: Room. -/
import Derived.Test.YtfldhmeenbdkiaaGreatDoorRvA
namespace Go.Proofs.YtfldhmeenbdkiaaGreatDoor
open Go.RowKit

theorem takes_le38' {n : Nat} (h : n ≤ 2368) : takesP n ≤ 38 := by unfold takesP sectorsP; split <;> omega
theorem sumT_le' {A : Nat → Node} (h : ∀ n, n < 32 → (A n).data.length ≤ 2368) : ∀ j, j ≤ 32 → sumT A j ≤ 38 * j
  | 0, _ => Nat.zero_le _
  | j + 1, hj => by
    have := sumT_le' h j (by omega)
    have := takes_le38' (h j (by omega))
    unfold sumT
    omega

section
variable {S0 : Nat → Prop} {w0 w : World} {r nb c m : Nat} {sp : List Value} {A : Nat → Node} {B R : Asr}
set_option maxRecDepth 100000 in
set_option maxHeartbeats 1000000 in
theorem rroom_calls (hL : Lv S0 w0 (Star (rvA r nb c sp m A) B) w) (hm : m ≤ 512) (hA : ∀ n, n < 32 → (A n).data.length ≤ 2368) :
    Calls Tryz.prog 18 #[.pointer (some ⟨r, 0, none⟩)] w fun e w' => e = .returned (.int .i64 ((m : Int) - 9 - sumT A 32)) ∧ w = w' := by
  obtain ⟨z, hz⟩ : ∃ z, z = sumT A 32 := ⟨_, rfl⟩
  rw [← hz]
  have HZ : Hid (∀ j, j = 32 → sumT A j = z) := Lib.hid (fun j hj => by rw [hj, hz])
  clear hz
  have HC := Lib.hid (rv_cells hL)
  have c0 := HC.out.1
  have c1 := HC.out.2.1
  have HA := Lib.hid hA
  have HM := Lib.hid hm
  have wr0 : IntKind.i64.wrap ((m : Int) - 9) = (m : Int) - 9 := by rw [IntKind.wrap_i64] <;> omega
  clear hL hA hm
  go_enter Tryz.func18, Tryz.ntmps18
  go_wp2_with fail
  go_loopw [3, 4] (fun s3 s4 wr => ∃ (j : Nat) (y : Int), j ≤ 32 ∧ Hid (y = (m : Int) - 9 - sumT A j) ∧ s3 = .int .i64 y ∧ s4 = .int .i64 j ∧ wr = w) (fun _ s4 _ => 32 - (intOf s4).toNat)
  case atStart => exact ⟨0, (m : Int) - 9, Nat.zero_le _, Lib.hid (by simp [sumT]), rfl, rfl, rfl⟩
  case round =>
    obtain ⟨j, y, hj, HY, rfl, rfl, hwr⟩ := hrel
    rw [hwr]
    clear hwr
    by_cases hlt : j < 32
    · obtain ⟨_, _, d2⟩ := HC.out.2.2 j hlt
      have hle := sumT_le' HA.out (j + 1) hlt
      have hl2 := HA.out j hlt
      have hlt2 : (j : Int) < 32 := by omega
      have hm := HM.out
      have hss : sumT A (j + 1) = sumT A j + takesP (A j).data.length := rfl
      have hds := dataB_size (A j)
      have hy := HY.out
      obtain ⟨y2, hy2⟩ : ∃ y2 : Int, y2 = (m : Int) - 9 - sumT A (j + 1) := ⟨_, rfl⟩
      have wr1 : IntKind.i64.wrap (y - (takesP (A j).data.length : Int)) = y2 := by rw [IntKind.wrap_i64] <;> omega
      have HY2 := Lib.hid hy2
      have HT := Lib.hid (rtakes_calls (A j).data.length (by omega))
      rw [← hds] at HT wr1
      generalize dataB (A j) = db at *
      generalize takesP db.size = tk at *
      clear hle hl2 hm hss hds hy hy2 HY
      go_wp2_with fail
      refine (HT.out _).mono ?_
      rintro e w2 ⟨rfl, rfl⟩
      go_wp2_with fail
      go_roundw
      case rel => exact ⟨j + 1, y2, hlt, HY2, rfl, by go_num, by first | trivial | rfl⟩
      case measure => simp [intOf]; omega
    · have hzz : y = (m : Int) - 9 - z := by rw [HY.out, HZ.out j (by omega)]
      have HZZ := Lib.hid hzz
      clear hzz HZ HA HC HY
      go_wp2_with fail
      go_ret
      first | exact ⟨rfl, rfl⟩ | exact ⟨by rw [HZZ.out]; rfl, rfl⟩
end
end Go.Proofs.YtfldhmeenbdkiaaGreatDoor
