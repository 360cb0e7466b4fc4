/- The program's disk: act. -/
import Derived.Test.YtchilnjocnkodaaDskR
namespace Go.Proofs.Ytchilnjocnkodaa
open Go.RowKit

abbrev tDisk : Nat := 60
abbrev tWrite : Nat := 73
abbrev kD : Kd := ⟨tDisk, tWrite, by decide, by decide, by decide⟩
abbrev IsDisk (w : World) (b : Nat) (S : Nat → Prop) (D : DSt) : Prop := IsDsk kD w b S D

set_option maxHeartbeats 400000 in
theorem act_dead {b : Nat} {S : Nat → Prop} {D : DSt} {w : World} (h : IsDisk w b S D) (h0 : D.power = 0) :
    Calls Try.prog 63 #[.pointer (some ⟨b, 0, none⟩)] w fun e w' => e = .returned (.bool false) ∧ IsDisk w' b S D.die ∧ Fr S w w' := by
  obtain ⟨bs, cs, sp, wv, h⟩ := h
  have c2 : w.cell? ⟨b, 2, none⟩ = some (.int .i64 0) := by rw [h.head.cell rfl, h0]
  have c3 := h.head.cell (j := 3) rfl
  have f3 := h.head.free 3
  have hb := h.head.set 3 (.bool true)
  have hf : Fr (· = b) w (w.setCell ⟨b, 3, none⟩ (.bool true)) := Fr.setCell (S := (· = b)) rfl w 3 _
  have H := Lib.hid (And.intro (⟨bs, cs, sp, wv, h.turn hb hf h.ok.lo h.ok.hi⟩ : IsDisk _ b S D.die) (fr_one h.own hf))
  clear hb hf h
  go_enter Try.func63, Try.ntmps63
  go_wp2
  go_ret
  exact ⟨rfl, H.out⟩

set_option maxHeartbeats 400000 in
theorem act_live {b : Nat} {S : Nat → Prop} {D : DSt} {w : World} (h : IsDisk w b S D) (h0 : D.power ≠ 0) :
    Calls Try.prog 63 #[.pointer (some ⟨b, 0, none⟩)] w fun e w' => e = .returned (.bool true) ∧ IsDisk w' b S D.pay ∧ Fr S w w' := by
  obtain ⟨bs, cs, sp, wv, h⟩ := h
  have c2 := h.head.cell (j := 2) rfl
  have f2 := h.head.free 2
  have ep : (D.power == 0) = false := by simpa using h0
  have hlo := h.ok.lo
  have hhi := h.ok.hi
  by_cases hp : 0 < D.power
  · have hb := h.head.set 2 (.int .i64 (D.power - 1))
    have hf : Fr (· = b) w (w.setCell ⟨b, 2, none⟩ (.int .i64 (D.power - 1))) := Fr.setCell (S := (· = b)) rfl w 2 _
    have h1 := h.turn hb hf (by omega) (by omega)
    have h2 : IsDisk (w.setCell ⟨b, 2, none⟩ (.int .i64 (D.power - 1))) b S D.pay := ⟨bs, cs, sp, wv, by unfold DSt.pay; rw [if_pos hp]; exact h1⟩
    have H := Lib.hid (And.intro h2 (fr_one h.own hf))
    clear hb hf h h1 h2 h0
    generalize D.power = p at *
    go_enter Try.func63, Try.ntmps63
    go_wp2
    go_ret
    exact ⟨rfl, H.out⟩
  · have h2 : IsDisk w b S D.pay := ⟨bs, cs, sp, wv, by unfold DSt.pay; rw [if_neg hp]; exact h⟩
    have H := Lib.hid (And.intro h2 (Fr.refl S w))
    clear h h2 h0
    generalize D.power = p at *
    go_enter Try.func63, Try.ntmps63
    go_wp2
    go_ret
    exact ⟨rfl, H.out⟩
end Go.Proofs.Ytchilnjocnkodaa
