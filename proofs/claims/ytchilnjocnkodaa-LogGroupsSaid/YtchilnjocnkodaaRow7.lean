/- The frame of a row: what is asked of the program once; rows of texts and of numbers that come in. -/
import Derived.Test.YtchilnjocnkodaaOpen
import Derived.Test.YtchilnjocnkodaaSec07
namespace Go.Proofs.Ytchilnjocnkodaa
open Go.ChangeShapes Go.WideShapes Go.ChangeAt Go.RowKit Go.Deep

theorem Try.own : ownKnob Try.prog.godebug = none := by kernel_rfl
theorem Try.laidOut : laidOutB Try.prog = true := by kernel_rfl
theorem wf_u64 {n : Int} (h : (Lit.int .u64 n).wf = true) : ∃ k : Nat, n = k ∧ k < 18446744073709551616 := by
  have h1 := bounds_u64 h
  exact ⟨n.toNat, by omega, by omega⟩
theorem wf_i64 {n : Int} (h : (Lit.int .i64 n).wf = true) : n ≤ 9223372036854775807 := (bounds_i64 h).2
end Go.Proofs.Ytchilnjocnkodaa
