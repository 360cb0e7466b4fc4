/- The statements' own helpers of layer 7: sector. -/
import Derived.Test.YtchilnjocnkodaaGreatSame
namespace Go.Proofs.YtchilnjocnkodaaGreat
open Go.RowKit

/-- A text, filled up to a sector, or cut. -/
def secOf (s : ByteArray) : ByteArray := (s ++ nought).extract 0 64
theorem secOf_size (s : ByteArray) : (secOf s).size = 64 := by
  unfold secOf
  rw [ByteArray.size_extract, ByteArray.size_append, nought_size]
  omega

set_option maxHeartbeats 400000 in
theorem sector_calls (s : ByteArray) (w : World) (hs : s.size ≤ 1000000000000000) :
    Calls Tryz.prog 22 #[.string s] w fun e w' => e = .returned (.string (secOf s)) ∧ Fr Nob w w' := by
  have hsz : (s ++ nought).size = s.size + 64 := by rw [ByteArray.size_append, nought_size]
  have hz := nought_size
  go_enter Tryz.func22, Tryz.ntmps22
  go_wp2_with (go_at_call 45; refine (noughts_calls _).mono ?_; rintro e w2 ⟨rfl, hf2⟩)
  go_ret
  exact ⟨rfl, hf2⟩
end Go.Proofs.YtchilnjocnkodaaGreat
