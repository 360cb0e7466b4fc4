/- The statements' own helpers of layer 6: shown. -/
import Derived.Test.YtimhjhiipghdhaaDskT
namespace Go.Proofs.Ytimhjhiipghdhaa
open Go.RowKit

def sA : ByteArray := secOf ⟨#[97]⟩
def sB : ByteArray := secOf ⟨#[98]⟩
def sC : ByteArray := secOf ⟨#[99]⟩
def shD2 : DSt := ((DSt.fresh 48).write 3 sA).write 3 sB
def shD3 : DSt := shD2.crash 1
def shD5 : DSt := (shD3.setPower 1).write 4 sC
def shD6 : DSt := shD5.flush
def shD7 : DSt := shD6.crash 1
theorem sh1 : shD2.readS 3 = sB ∧ shD3.readS 3 = sA ∧ (shD3.setPower 1).writeE 4 sC = 0 ∧ shD5.flushE = 7 ∧ shD6.readE 4 = 7 ∧ shD7.safe.length = 48 ∧ shD7.safe[4]? = some sC := by
  refine ⟨?_, ?_, ?_, ?_, ?_, ?_, ?_⟩ <;> decide +kernel

set_option maxRecDepth 100000 in
set_option maxHeartbeats 4000000 in
theorem shown_calls (w : World) : Calls Try.prog 9 #[] w fun e w' => e = .returned (.bool true) ∧ Fr Nob w w' := by
  obtain ⟨e1, e2, e3, e4, e5, e6, e7⟩ := sh1
  have L0 := Live.start w
  have E1 := Lib.hid e1
  have E2 := Lib.hid e2
  have E3 := Lib.hid e3
  have E4 := Lib.hid e4
  have E5 := Lib.hid e5
  have E6 := Lib.hid e6
  have E7 := Lib.hid e7
  clear e1 e2 e3 e4 e5 e6 e7
  go_enter Try.func9, Try.ntmps9
  go_wp2_with fail
  refine (new_ok 48 w (by omega) (by omega)).mono ?_
  rintro e w1 ⟨b, rfl, hd, hf⟩
  have L1 : Live w (Star (dskA kD b (DSt.fresh 48)) Emp) w1 := L0.new loc_emp hf hd
  clear L0 hd hf
  go_wp2_with fail
  refine (L1.calls (loc_star (loc_dsk _ _ _) loc_emp) (sector_calls ⟨#[97]⟩ w1 (by decide))).mono ?_
  rintro e w2 ⟨rfl, L2⟩
  clear L1
  go_wp2_with fail
  refine (L2.op ((d_write 3 sA (by decide)).left loc_emp)).mono ?_
  rintro e w3 ⟨rfl, L3⟩
  clear L2
  go_wp2_with fail
  refine (L3.calls (loc_star (loc_dsk _ _ _) loc_emp) (sector_calls ⟨#[98]⟩ w3 (by decide))).mono ?_
  rintro e w4 ⟨rfl, L4⟩
  clear L3
  go_wp2_with fail
  refine (L4.op ((d_write 3 sB (by decide +kernel)).left loc_emp)).mono ?_
  rintro e w5 ⟨rfl, L5⟩
  clear L4
  have L5 : Live w (Star (dskA kD b shD2) Emp) w5 := L5
  go_wp2_with fail
  refine (L5.op ((d_read 3 (by decide +kernel)).left loc_emp)).mono ?_
  rintro e w6 ⟨he, L6⟩
  rw [E1.out] at he
  subst he
  clear L5
  go_wp2_with fail
  refine (L6.op ((d_crash 1 (by decide) (by decide +kernel)).left loc_emp)).mono ?_
  rintro e w7 ⟨rfl, L7⟩
  have L7 : Live w (Star (dskA kD b shD3) Emp) w7 := L7
  clear L6
  go_wp2_with fail
  refine (L7.op ((d_read 3 (by decide +kernel)).left loc_emp)).mono ?_
  rintro e w8 ⟨he, L8⟩
  rw [E2.out] at he
  subst he
  clear L7
  go_wp2_with fail
  refine (L8.op ((d_power 1 (by decide)).left loc_emp)).mono ?_
  rintro e w9 ⟨rfl, L9⟩
  clear L8
  go_wp2_with fail
  refine (L9.calls (loc_star (loc_dsk _ _ _) loc_emp) (sector_calls ⟨#[99]⟩ w9 (by decide))).mono ?_
  rintro e w10 ⟨rfl, L10⟩
  clear L9
  go_wp2_with fail
  refine (L10.op ((d_write 4 sC (by decide +kernel)).left loc_emp)).mono ?_
  rintro e w11 ⟨he, L11⟩
  rw [E3.out] at he
  subst he
  have L11 : Live w (Star (dskA kD b shD5) Emp) w11 := L11
  clear L10
  go_wp2_with fail
  refine (L11.op ((d_flush (by decide +kernel)).left loc_emp)).mono ?_
  rintro e w12 ⟨he, L12⟩
  rw [E4.out] at he
  subst he
  have L12 : Live w (Star (dskA kD b shD6) Emp) w12 := L12
  clear L11
  go_wp2_with fail
  refine (L12.op ((d_read 4 (by decide +kernel)).left loc_emp)).mono ?_
  rintro e w13 ⟨he, L13⟩
  rw [E5.out] at he
  subst he
  clear L12
  go_wp2_with fail
  refine (L13.op ((d_crash 1 (by decide) (by decide +kernel)).left loc_emp)).mono ?_
  rintro e w14 ⟨rfl, L14⟩
  have L14 : Live w (Star (dskA kD b shD7) Emp) w14 := L14
  clear L13
  go_wp2_with fail
  obtain ⟨S, hS⟩ := L14.first
  refine (image_calls hS).mono ?_
  rintro e w15 ⟨v, rfl, hrow, hnew, hf⟩
  rw [E6.out] at hrow
  obtain ⟨g, cap, rfl⟩ := row_succ (n := 47) hrow
  have hc : w15.cell? ⟨g, 4, none⟩ = some (.string sC) := by
    have h1 := hrow.cells (g := g) rfl 4 (.string sC) (by have := E7.out; simp [strs, this])
    simpa [Addr.add] using h1
  have F15 := L14.fr.trans hf
  have HF := Lib.hid F15
  clear L14 hS hrow hnew hf F15
  go_wp2_with fail
  have hcp : ∀ p : FrFrom w15, p.w.cell? ⟨g, 4, none⟩ = some (.string sC) := fun p => p.fr.cell hc (fun h => h)
  have b1 : (sB.toList == (secOf ⟨#[98]⟩).toList) = true := by rw [bytes_beq]; exact decide_eq_true rfl
  have b2 : (sA.toList == (secOf ⟨#[97]⟩).toList) = true := by rw [bytes_beq]; exact decide_eq_true rfl
  have b3 : (sC.toList == (secOf ⟨#[99]⟩).toList) = true := by rw [bytes_beq]; exact decide_eq_true rfl
  refine wp_region_from (by kernel_rfl) (by kernel_rfl) ?_
  repeat (quiet_step (first | (go_at_call_of 11 (Value.string ⟨#[98]⟩); exact Calls.frfrom (sector_calls ⟨#[98]⟩ _ (by decide))) | (go_at_call_of 11 (Value.string ⟨#[97]⟩); exact Calls.frfrom (sector_calls ⟨#[97]⟩ _ (by decide))) | (go_at_call_of 11 (Value.string ⟨#[99]⟩); exact Calls.frfrom (sector_calls ⟨#[99]⟩ _ (by decide)))))
  refine wpQuiet_nil ?_
  rintro _ ⟨p, rfl⟩
  go_wp2
  go_ret
  exact ⟨rfl, HF.out.trans p.fr⟩
end Go.Proofs.Ytimhjhiipghdhaa
