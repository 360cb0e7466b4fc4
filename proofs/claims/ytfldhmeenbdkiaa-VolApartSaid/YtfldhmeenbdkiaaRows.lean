/-
  No cell of these rows narrows 'for every input' (looked for: loops, veiled, ifaces, maps, wideKeys, modest, calm, conditions, laid).
  DERIVED. THE GIVEN ROWS OF THIS SEAT. 4 by the template 'for every input the law returns true; each argument reads behind the call as it read before'; 0 by the template 'total and deterministic' (their statements: YtfldhmeenbdkiaaTotals.lean).
  GIVEN WITH THE SEED: the statements are not yours to turn. If you find one false, say at which input.
  Laid BY PROGRAM, IN A SANDBOX (cutbox-rows.mjs): the forced cells as the released guide's own fill.sh prints them over the translation efb36394e7093dc3… (all of the seat's roots in one cut). By AI agents, Wed Nov 11 2026. No macro, syntax, notation, axiom, sorry.
-/
import Derived.Test.YtfldhmeenbdkiaaChecked
import GoSem.Claim
import GoSem.ClaimJoined
import GoSem.ClaimMapViews
import Derived.JoinedTies
import Derived.KernelRfl
namespace Go.Proofs.Ytfldhmeenbdkiaa
/- THE CELL 'sum', in the pinned program and in every row, IS THE sha256 OF THE DUMP (.gsa) THAT YtfldhmeenbdkiaaProg.lean LOADS. Nothing in Lean hashes anything: it is a label: what it is worth is what the hold of that sum in a sandbox is worth. -/
noncomputable def Try.pinned : Pinned := { name := "ytfldhmeenbdkiaa", sum := "efb36394e7093dc3dfefc976dcaa785973d7ed9de681fa2332a54129198764c6", checked := Try.checked }
namespace Rows
def none {H : Type} : Left H := { results := [], args := [] }

/-- 'binnaclelaw08.VolApart': WHATEVER THE INPUT: true; the input reads as it did. -/
def volApartSpec : ChangeSpec := { name := "volApart", fn := fun _ => fun
  | [d] => { results := [.lit (.bool true)], args := [d] }
  | _ => none }
def volApartRow : OpenClaim := { program := "ytfldhmeenbdkiaa", sum := "efb36394e7093dc3dfefc976dcaa785973d7ed9de681fa2332a54129198764c6", func := "binnacle/binnaclelaw08.VolApart", spec := "volApart", inPlace := ["internal/abi.NoEscape", "internal/bytealg.MakeNoZero"], unfollowed := true, recurses := true, apart := false }
def VolApartSaid : Prop := volApartRow.holds Try.pinned (OpenSpec.ofChange volApartSpec)

/-- ITS FALSE NEIGHBOUR: 'it returns false'. Refute it at one input. -/
def volApartWrong : ChangeSpec := { name := "volApart", fn := fun _ => fun
  | [d] => { results := [.lit (.bool false)], args := [d] }
  | _ => none }
def VolApartWrongFalsely : Prop := volApartRow.holds Try.pinned (OpenSpec.ofChange volApartWrong)

/-- 'binnaclelaw08.VolCuts': WHATEVER THE INPUT: true; the input reads as it did. -/
def volCutsSpec : ChangeSpec := { name := "volCuts", fn := fun _ => fun
  | [d1, d2, d3] => { results := [.lit (.bool true)], args := [d1, d2, d3] }
  | _ => none }
def volCutsRow : OpenClaim := { program := "ytfldhmeenbdkiaa", sum := "efb36394e7093dc3dfefc976dcaa785973d7ed9de681fa2332a54129198764c6", func := "binnacle/binnaclelaw08.VolCuts", spec := "volCuts", inPlace := ["internal/abi.NoEscape", "internal/bytealg.MakeNoZero"], unfollowed := true, recurses := true, apart := false }
def VolCutsSaid : Prop := volCutsRow.holds Try.pinned (OpenSpec.ofChange volCutsSpec)

/-- ITS FALSE NEIGHBOUR: 'it returns false'. Refute it at one input. -/
def volCutsWrong : ChangeSpec := { name := "volCuts", fn := fun _ => fun
  | [d1, d2, d3] => { results := [.lit (.bool false)], args := [d1, d2, d3] }
  | _ => none }
def VolCutsWrongFalsely : Prop := volCutsRow.holds Try.pinned (OpenSpec.ofChange volCutsWrong)

/-- 'binnaclelaw08.VolLinks': WHATEVER THE INPUT: true; the input reads as it did. -/
def volLinksSpec : ChangeSpec := { name := "volLinks", fn := fun _ => fun
  | [d] => { results := [.lit (.bool true)], args := [d] }
  | _ => none }
def volLinksRow : OpenClaim := { program := "ytfldhmeenbdkiaa", sum := "efb36394e7093dc3dfefc976dcaa785973d7ed9de681fa2332a54129198764c6", func := "binnacle/binnaclelaw08.VolLinks", spec := "volLinks", inPlace := ["internal/abi.NoEscape", "internal/bytealg.MakeNoZero"], unfollowed := true, recurses := true, apart := false }
def VolLinksSaid : Prop := volLinksRow.holds Try.pinned (OpenSpec.ofChange volLinksSpec)

/-- ITS FALSE NEIGHBOUR: 'it returns false'. Refute it at one input. -/
def volLinksWrong : ChangeSpec := { name := "volLinks", fn := fun _ => fun
  | [d] => { results := [.lit (.bool false)], args := [d] }
  | _ => none }
def VolLinksWrongFalsely : Prop := volLinksRow.holds Try.pinned (OpenSpec.ofChange volLinksWrong)

/-- 'binnaclelaw08.VolPieces': WHATEVER THE INPUT: true; the input reads as it did. -/
def volPiecesSpec : ChangeSpec := { name := "volPieces", fn := fun _ => fun
  | [d] => { results := [.lit (.bool true)], args := [d] }
  | _ => none }
def volPiecesRow : OpenClaim := { program := "ytfldhmeenbdkiaa", sum := "efb36394e7093dc3dfefc976dcaa785973d7ed9de681fa2332a54129198764c6", func := "binnacle/binnaclelaw08.VolPieces", spec := "volPieces", inPlace := ["internal/abi.NoEscape", "internal/bytealg.MakeNoZero"], unfollowed := true, recurses := true, apart := false }
def VolPiecesSaid : Prop := volPiecesRow.holds Try.pinned (OpenSpec.ofChange volPiecesSpec)

/-- ITS FALSE NEIGHBOUR: 'it returns false'. Refute it at one input. -/
def volPiecesWrong : ChangeSpec := { name := "volPieces", fn := fun _ => fun
  | [d] => { results := [.lit (.bool false)], args := [d] }
  | _ => none }
def VolPiecesWrongFalsely : Prop := volPiecesRow.holds Try.pinned (OpenSpec.ofChange volPiecesWrong)

/- THE SECOND FORM. 'bulk': how many values and letters a reading holds, each counted each time it is reached (what is shared counts as often as it is met; a slice's spare places count too). A statement '..UptoSaid' is the law's where the arguments, and the package variables that the reading takes, are together of bulk at most 1048576: NARROWER than '..Said'. Prove '..Said' where nothing that the law and all that it calls make is longer than what came in: it says more and counts as full. Else prove '..UptoSaid'. A law counts once. -/
mutual
def uptoBulk {H : Type} : DataW H → Nat
  | .lit (.string bytes) => bytes.length + 1
  | .lit _ => 1
  | .nil => 1
  | .ptr d => uptoBulk d + 1
  | .slice elems spare => uptoBulkAll elems + uptoBulkAll spare + 1
  | .agg parts => uptoBulkAll parts + 1
  | .iface _ d => uptoBulk d + 1
  | .map entries => uptoBulkEntries entries + 1
  | .held _ => 1
def uptoBulkAll {H : Type} : List (DataW H) → Nat
  | [] => 0
  | d :: r => uptoBulk d + uptoBulkAll r
def uptoBulkEntries {H : Type} : List (Lit × DataW H) → Nat
  | [] => 0
  | x :: r => uptoBulkEntry x + uptoBulkEntries r
def uptoBulkEntry {H : Type} : Lit × DataW H → Nat
  | (.string bytes, d) => bytes.length + uptoBulk d + 1
  | (_, d) => uptoBulk d + 1
 end
def uptoSmall : (H : Type) → List (DataW H) → Bool := fun _ ds => decide (uptoBulkAll ds ≤ 1048576)
def OpenSpec.upto (s : _root_.Go.ChangeSpec) : _root_.Go.OpenSpec := { _root_.Go.OpenSpec.ofChange s with cond := some uptoSmall }

/-- 'binnaclelaw08.VolApart', WHERE WHAT IT READS IS OF BULK AT MOST 1048576: true; the input reads as it did. -/
def volApartUptoRow : OpenClaim := { program := "ytfldhmeenbdkiaa", sum := "efb36394e7093dc3dfefc976dcaa785973d7ed9de681fa2332a54129198764c6", func := "binnacle/binnaclelaw08.VolApart", spec := "volApart", inPlace := ["internal/abi.NoEscape", "internal/bytealg.MakeNoZero"], unfollowed := true, recurses := true, apart := false, narrowed := true }
def VolApartUptoSaid : Prop := volApartUptoRow.holds Try.pinned (OpenSpec.upto volApartSpec)

/-- 'binnaclelaw08.VolCuts', WHERE WHAT IT READS IS OF BULK AT MOST 1048576: true; the input reads as it did. -/
def volCutsUptoRow : OpenClaim := { program := "ytfldhmeenbdkiaa", sum := "efb36394e7093dc3dfefc976dcaa785973d7ed9de681fa2332a54129198764c6", func := "binnacle/binnaclelaw08.VolCuts", spec := "volCuts", inPlace := ["internal/abi.NoEscape", "internal/bytealg.MakeNoZero"], unfollowed := true, recurses := true, apart := false, narrowed := true }
def VolCutsUptoSaid : Prop := volCutsUptoRow.holds Try.pinned (OpenSpec.upto volCutsSpec)

/-- 'binnaclelaw08.VolLinks', WHERE WHAT IT READS IS OF BULK AT MOST 1048576: true; the input reads as it did. -/
def volLinksUptoRow : OpenClaim := { program := "ytfldhmeenbdkiaa", sum := "efb36394e7093dc3dfefc976dcaa785973d7ed9de681fa2332a54129198764c6", func := "binnacle/binnaclelaw08.VolLinks", spec := "volLinks", inPlace := ["internal/abi.NoEscape", "internal/bytealg.MakeNoZero"], unfollowed := true, recurses := true, apart := false, narrowed := true }
def VolLinksUptoSaid : Prop := volLinksUptoRow.holds Try.pinned (OpenSpec.upto volLinksSpec)

/-- 'binnaclelaw08.VolPieces', WHERE WHAT IT READS IS OF BULK AT MOST 1048576: true; the input reads as it did. -/
def volPiecesUptoRow : OpenClaim := { program := "ytfldhmeenbdkiaa", sum := "efb36394e7093dc3dfefc976dcaa785973d7ed9de681fa2332a54129198764c6", func := "binnacle/binnaclelaw08.VolPieces", spec := "volPieces", inPlace := ["internal/abi.NoEscape", "internal/bytealg.MakeNoZero"], unfollowed := true, recurses := true, apart := false, narrowed := true }
def VolPiecesUptoSaid : Prop := volPiecesUptoRow.holds Try.pinned (OpenSpec.upto volPiecesSpec)

end Rows
end Go.Proofs.Ytfldhmeenbdkiaa
