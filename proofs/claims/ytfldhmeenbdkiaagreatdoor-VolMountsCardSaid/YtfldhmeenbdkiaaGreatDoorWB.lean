/- The document's example of layer 8. -/
import Derived.Test.YtfldhmeenbdkiaaGreatDoorWA
import Derived.Test.YtfldhmeenbdkiaaGreatDoorNV
namespace Go.Proofs.YtfldhmeenbdkiaaGreatDoor
open Go.RowKit

def shX : ByteArray := ⟨#[120]⟩
def sh0 : LSt := freshL 48
def sh1 : LSt := vformat sh0
def sh2 : LSt := vnew sh1 1
def sh3 : LSt := vwrite sh2 0 0 (textP 65)
def sh4 : LSt := vwrite sh3 0 65 (textP 255)
def sh5 : LSt := sh4.commit
def sh6 : LSt := vwrite sh5 0 320 shX
def sh7 : LSt := vwrite sh6 0 384 shX
def sh8 : LSt := vcutD sh7 0 320
instance (L : LSt) (x : Ino) (left : Nat) : Decidable (CutOk L x left) :=
  if h : sectorsP x.size ≤ 37 ∧ (∀ k : Fin (sectorsP x.size), left ≤ k.1 → vat (cutF left L x k.1).1 (cutF left L x k.1).2 k.1 < 512) ∧ (5 < sectorsP x.size → left ≤ 5 → (cutF left L x (sectorsP x.size)).2.a5 < 512) then
    .isTrue ⟨h.1, fun k h1 h2 => h.2.1 ⟨k, h2⟩ h1, h.2.2⟩ else .isFalse fun c => h ⟨c.size, fun k h1 => c.at_ k.1 h1 k.2, c.ind⟩
theorem sh_facts1 : sh0.getE 0 = 0 ∧ sh0.count = 0 ∧ sh1.getE 0 = 0 ∧ vroom sh1 = 7 ∧ newR sh1 1 = 0 ∧ vnewE sh1 1 = 0 := by
  refine ⟨?_, ?_, ?_, ?_, ?_, ?_⟩ <;> decide +kernel
theorem sh_facts2 : sh3.getE 0 = 0 ∧ vroom sh3 = 5 := by
  refine ⟨?_, ?_⟩ <;> decide +kernel
theorem sh_facts3 : sh6.getE 0 = 0 ∧ vroom sh6 = 0 := by
  refine ⟨?_, ?_⟩ <;> decide +kernel
theorem sh_facts4 : vwriteE sh6 0 384 shX = 1 ∧ vcutE sh7 0 320 = 0 ∧ sh8.getE 0 = 0 ∧ vroom sh8 = 2 := by
  refine ⟨?_, ?_, ?_, ?_⟩ <;> decide +kernel
theorem sh_cut : CutOk sh7 (vfindX sh7 0) (sectorsP (320 : Int).toNat) := by decide +kernel
theorem sh_wait : sh0.D.wait.length = 0 ∧ sh4.D.wait.length = 0 ∧ sh5.D.wait.length = 0 := by
  refine ⟨?_, ?_, ?_⟩ <;> decide +kernel
end Go.Proofs.YtfldhmeenbdkiaaGreatDoor
