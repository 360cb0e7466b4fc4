/- How many sectors a size takes: the document's. -/
import Derived.Test.YtfldhmeenbdkiaaGreatDoorMJ
namespace Go.Proofs.YtfldhmeenbdkiaaGreatDoor
open Go.RowKit

set_option maxRecDepth 100000 in
set_option maxHeartbeats 400000 in
theorem rsectors_calls (n : Nat) (hn : n ≤ 65536) (w : World) :
    Calls Tryz.prog 91 #[.int .i64 n] w fun e w' => e = .returned (.int .i64 (sectorsP n : Nat)) ∧ w = w' := by
  have h5 : (n : Int).tdiv 64 = ((n / 64 : Nat) : Int) := by rw [Int.tdiv_eq_ediv_of_nonneg (by omega)]; omega
  have h6 : (n : Int).tmod 64 = ((n % 64 : Nat) : Int) := by rw [Int.tmod_eq_emod_of_nonneg (by omega)]; omega
  have h7 : IntKind.i64.wrap ((n / 64 : Nat) : Int) = ((n / 64 : Nat) : Int) := by rw [IntKind.wrap_i64] <;> omega
  have h8 : IntKind.i64.wrap ((n % 64 : Nat) : Int) = ((n % 64 : Nat) : Int) := by rw [IntKind.wrap_i64] <;> omega
  by_cases h : n % 64 = 0
  · have hs : sectorsP n = n / 64 := by unfold sectorsP; omega
    rw [hs]
    have h9 : ¬ (0 : Int) < ((n % 64 : Nat) : Int) := by omega
    clear h hn hs
    generalize hq : n / 64 = q at *
    generalize hr : n % 64 = r at *
    clear hq hr
    go_enter Tryz.func91, Tryz.ntmps91
    go_wp2_with fail
    go_ret
    exact ⟨rfl, rfl⟩
  · have hs : sectorsP n = n / 64 + 1 := by unfold sectorsP; omega
    rw [hs]
    have h9 : (0 : Int) < ((n % 64 : Nat) : Int) := by omega
    have h10 : IntKind.i64.wrap (((n / 64 : Nat) : Int) + 1) = ((n / 64 + 1 : Nat) : Int) := by rw [IntKind.wrap_i64] <;> omega
    clear h hn hs
    generalize n / 64 + 1 = q1 at *
    generalize hq : n / 64 = q at *
    generalize hr : n % 64 = r at *
    clear hq hr
    go_enter Tryz.func91, Tryz.ntmps91
    go_wp2_with fail
    go_ret
    exact ⟨rfl, rfl⟩

set_option maxRecDepth 100000 in
set_option maxHeartbeats 400000 in
theorem rtakes_calls (n : Nat) (hn : n ≤ 65536) (w : World) :
    Calls Tryz.prog 56 #[.int .i64 n] w fun e w' => e = .returned (.int .i64 (takesP n : Nat)) ∧ w = w' := by
  have HC := Lib.hid (rsectors_calls n hn w)
  have hs : sectorsP n ≤ 65536 := by unfold sectorsP; omega
  unfold takesP
  generalize sectorsP n = m at *
  clear hn
  by_cases h : 5 < m
  · rw [if_pos h]
    have h' : (5 : Int) < (m : Int) := by omega
    go_enter Tryz.func56, Tryz.ntmps56
    go_wp2_with fail
    refine HC.out.mono ?_
    rintro e w1 ⟨rfl, rfl⟩
    go_wp2_with fail
    go_ret
    exact ⟨by first | rfl | (congr 2), rfl⟩
  · rw [if_neg h]
    have h' : ¬ (5 : Int) < (m : Int) := by omega
    go_enter Tryz.func56, Tryz.ntmps56
    go_wp2_with fail
    refine HC.out.mono ?_
    rintro e w1 ⟨rfl, rfl⟩
    go_wp2_with fail
    go_ret
    exact ⟨rfl, rfl⟩
end Go.Proofs.YtfldhmeenbdkiaaGreatDoor
