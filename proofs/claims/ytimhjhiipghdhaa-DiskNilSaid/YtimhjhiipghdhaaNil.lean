/- The calls of a disk that is nil. -/
import Derived.Test.YtimhjhiipghdhaaLawC
namespace Go.Proofs.Ytimhjhiipghdhaa
open Go.RowKit

set_option maxRecDepth 100000
set_option maxHeartbeats 400000

theorem nil_read (i : Int) (w : World) : Calls Try.prog 14 #[.pointer none, .int .i64 i] w fun e w' => e = .returned (.tuple #[.string ⟨#[]⟩, .int .i64 1]) ∧ Fr Nob w w' := by
  go_enter Try.func14, Try.ntmps14
  go_wp2
  refine bodyPost_ret (v := .tuple #[.string ⟨#[]⟩, .int .i64 1]) (by simp [results, Try.results14, go_sem]) rfl ⟨rfl, ?_⟩
  exact (((Fr.refl _ _).alloc _).alloc _).alloc _
theorem nil_write (i : Int) (s : ByteArray) (w : World) : Calls Try.prog 12 #[.pointer none, .int .i64 i, .string s] w fun e w' => e = .returned (.int .i64 1) ∧ Fr Nob w w' := by
  go_enter Try.func12, Try.ntmps12
  go_wp2
  go_ret
  exact ⟨rfl, Fr.refl _ _⟩
theorem nil_flush (w : World) : Calls Try.prog 13 #[.pointer none] w fun e w' => e = .returned (.int .i64 1) ∧ Fr Nob w w' := by
  go_enter Try.func13, Try.ntmps13
  go_wp2
  go_ret
  exact ⟨rfl, Fr.refl _ _⟩
theorem nil_power (i : Int) (w : World) : Calls Try.prog 23 #[.pointer none, .int .i64 i] w fun e w' => e = .returned (.tuple #[]) ∧ Fr Nob w w' := by
  go_enter Try.func23, Try.ntmps23
  go_wp2
  exact ⟨rfl, .tuple #[], results_none rfl _ _ _, rfl, Fr.refl _ _⟩
theorem nil_crash (k : Nat) (w : World) : Calls Try.prog 15 #[.pointer none, .int .u64 k] w fun e w' => e = .returned (.tuple #[]) ∧ Fr Nob w w' := by
  go_enter Try.func15, Try.ntmps15
  go_wp2
  exact ⟨rfl, .tuple #[], results_none rfl _ _ _, rfl, Fr.refl _ _⟩
theorem nil_image (w : World) : Calls Try.prog 21 #[.pointer none] w fun e w' => e = .returned (.slice none 0 0) ∧ Fr Nob w w' := by
  go_enter Try.func21, Try.ntmps21
  go_wp2
  go_ret
  exact ⟨rfl, Fr.refl _ _⟩
theorem nil_waiting (w : World) : Calls Try.prog 19 #[.pointer none] w fun e w' => e = .returned (.int .i64 0) ∧ Fr Nob w w' := by
  go_enter Try.func19, Try.ntmps19
  go_wp2
  go_ret
  exact ⟨rfl, Fr.refl _ _⟩
theorem nil_sectors (w : World) : Calls Try.prog 22 #[.pointer none] w fun e w' => e = .returned (.int .i64 0) ∧ Fr Nob w w' := by
  go_enter Try.func22, Try.ntmps22
  go_wp2
  go_ret
  exact ⟨rfl, Fr.refl _ _⟩

set_option maxHeartbeats 4000000 in
/-- DiskNil, walked. -/
theorem nil_calls (i : Int) (s : ByteArray) (k : Nat) (w : World) : Calls Try.prog 6 #[.int .i64 i, .string s, .int .u64 k] w fun e w' => e = .returned (.bool true) ∧ Fr Nob w w' := by
  go_enter Try.func6, Try.ntmps6
  go_wp2_with fail
  refine (shown_calls w).mono ?_
  rintro e w1 ⟨rfl, h1⟩
  go_wp2_with fail
  refine (nil_read i w1).mono ?_
  rintro e w2 ⟨rfl, h2⟩
  go_wp2_with fail
  refine (nil_write i s w2).mono ?_
  rintro e w3 ⟨rfl, h3⟩
  go_wp2_with fail
  refine (nil_flush w3).mono ?_
  rintro e w4 ⟨rfl, h4⟩
  go_wp2_with fail
  refine (nil_power i w4).mono ?_
  rintro e w5 ⟨rfl, h5⟩
  go_wp2_with fail
  refine (nil_crash k w5).mono ?_
  rintro e w6 ⟨rfl, h6⟩
  go_wp2_with fail
  refine (nil_image w6).mono ?_
  rintro e w7 ⟨rfl, h7⟩
  go_wp2_with fail
  refine (nil_waiting w7).mono ?_
  rintro e w8 ⟨rfl, h8⟩
  go_wp2_with fail
  refine (nil_sectors w8).mono ?_
  rintro e w9 ⟨rfl, h9⟩
  go_wp2_with fail
  go_ret
  exact ⟨rfl, (((((((h1.trans h2).trans h3).trans h4).trans h5).trans h6).trans h7).trans h8).trans h9⟩
end Go.Proofs.Ytimhjhiipghdhaa
