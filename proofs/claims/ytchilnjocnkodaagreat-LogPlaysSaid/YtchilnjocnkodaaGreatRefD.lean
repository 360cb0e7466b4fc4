/- The document's disk: Takes, Noughts, Same, New. -/
import Derived.Test.YtchilnjocnkodaaGreatMRefA
import Derived.Test.YtchilnjocnkodaaGreatSame
namespace Go.Proofs.YtchilnjocnkodaaGreat
open Go.RowKit

set_option maxHeartbeats 400000 in
theorem takes_yes (n : Nat) (w : World) (h1 : 48 ≤ n) (h2 : n ≤ 544) :
    Calls Tryz.prog 49 #[.int .i64 n] w fun e w' => e = .returned (.bool true) ∧ w = w' := by
  go_enter Tryz.func49, Tryz.ntmps49
  go_wp2
  go_ret
  exact ⟨by simp; omega, rfl⟩
set_option maxHeartbeats 400000 in
theorem takes_no (n : Int) (w : World) (h : n < 48 ∨ 544 < n) :
    Calls Tryz.prog 49 #[.int .i64 n] w fun e w' => e = .returned (.bool false) ∧ w = w' := by
  rcases h with h | h
  · go_enter Tryz.func49, Tryz.ntmps49
    go_wp2
    go_ret
    exact ⟨rfl, rfl⟩
  · have h2 : ¬ n < 48 := by omega
    go_enter Tryz.func49, Tryz.ntmps49
    go_wp2
    go_ret
    exact ⟨by simp; omega, rfl⟩
end Go.Proofs.YtchilnjocnkodaaGreat
