/- The statements' own helpers of layer 7: shown. -/
import Derived.Test.YtchilnjocnkodaaGreatMLgF
import Derived.Test.YtchilnjocnkodaaGreatSec07
namespace Go.Proofs.YtchilnjocnkodaaGreat
open Go.RowKit

def tA : ByteArray := secOf ⟨#[97]⟩
def tB : ByteArray := secOf ⟨#[98]⟩
def exD : DSt := DSt.fresh 48
def exL0 : LSt := ⟨exD.opened, [], false⟩
def exL2 : LSt := (exL0.set 0 tA).set 5 tB
def exL3 : LSt := { exL2 with D := exL2.D.setPower 4 }
def exD5 : DSt := exL3.commit.D.crash 1
def exL6 : LSt := ⟨exD5.opened, [], false⟩
theorem ex_facts : exD.openE = 0 ∧ exL2.count = 2 ∧ exL3.commitE = 7 ∧ exD5.openE = 0 ∧ exL6.getS 0 = tA ∧ exL6.getS 5 = tB := by
  refine ⟨?_, ?_, ?_, ?_, ?_, ?_⟩ <;> decide +kernel
theorem ex_waits : exD.wait.length = 0 ∧ exL3.D.wait.length = 0 ∧ exL3.commit.D.wait.length ≤ 100 ∧ exD5.wait.length = 0 ∧ exL6.D.wait.length = 0 := by
  refine ⟨?_, ?_, ?_, ?_, ?_⟩ <;> decide +kernel

set_option maxRecDepth 100000 in
set_option maxHeartbeats 4000000 in
theorem shown_calls (w : World) : Calls Tryz.prog 4 #[] w fun e w' => e = .returned (.bool true) ∧ Fr Nob w w' := by
  obtain ⟨e1, e2, e3, e4, e5, e6⟩ := ex_facts
  obtain ⟨f1, f2, f3, f4, f5⟩ := ex_waits
  have k0 : exL0.Ok := good_nil _
  have k1 := set_good k0 0 tA
  have k2 : exL2.Ok := set_good k1 5 tB
  have k3 : exL3.Ok := k2
  have K0 := Lib.hid k0
  have K1 := Lib.hid k1
  have K3 := Lib.hid k3
  have E1 := Lib.hid e1
  have E2 := Lib.hid e2
  have E3 := Lib.hid e3
  have E4 := Lib.hid e4
  have E5 := Lib.hid e5
  have E6 := Lib.hid e6
  have F1 := Lib.hid f1
  have F2 := Lib.hid f2
  have F3 := Lib.hid f3
  have F4 := Lib.hid f4
  have F5 := Lib.hid f5
  clear e1 e2 e3 e4 e5 e6 f1 f2 f3 f4 f5 k0 k1 k2 k3
  go_enter Tryz.func4, Tryz.ntmps4
  go_wp2_with fail
  refine (new_ok 48 w (by omega) (by omega)).mono ?_
  rintro e w1 ⟨d, rfl, hd, hf⟩
  have L1 : Lv Nob w (Star (dskA kD d exD) Emp) w1 := ((Live.start w).new loc_emp hf hd).lv
  clear hd hf
  go_wp2_with fail
  refine (lv_opens L1 loc_emp E1.out (by have := F1.out; omega)).mono ?_
  rintro e w2 ⟨b, rfl, L2⟩
  clear L1
  go_wp2_with fail
  refine (L2.calls (LV.loc loc_emp) (sector_calls ⟨#[97]⟩ w2 (by decide))).mono ?_
  rintro e w3 ⟨rfl, L3⟩
  clear L2
  go_wp2_with fail
  refine (lv_set (L := exL0) L3 loc_emp K0.out 0 tA).mono ?_
  rintro e w4 ⟨rfl, L4⟩
  clear L3
  go_wp2_with fail
  refine (L4.calls (LV.loc loc_emp) (sector_calls ⟨#[98]⟩ w4 (by decide))).mono ?_
  rintro e w5 ⟨rfl, L5⟩
  clear L4
  go_wp2_with fail
  refine (lv_set L5 loc_emp K1.out 5 tB).mono ?_
  rintro e w6 ⟨rfl, L6⟩
  have L6 : LV Nob w b d exL2 Emp w6 := L6
  clear L5
  go_wp2_with fail
  refine (lv_staged L6).mono ?_
  rintro e w7 ⟨he, rfl⟩
  rw [E2.out] at he
  subst he
  go_wp2_with fail
  refine (lv_disk L6 loc_emp (d_power 4 (by decide))).mono ?_
  rintro e w8 ⟨rfl, L8⟩
  have L8 : LV Nob w b d exL3 Emp w8 := L8
  clear L6
  go_wp2_with fail
  refine (lv_commit L8 loc_emp K3.out (by have := F2.out; omega)).mono ?_
  rintro e w9 ⟨he, L9⟩
  rw [E3.out] at he
  subst he
  clear L8
  go_wp2_with fail
  refine (lv_disk L9 loc_emp (d_crash 1 (by decide) (by have := F3.out; omega))).mono ?_
  rintro e w10 ⟨rfl, L10⟩
  have L10 : Lv Nob w (Star (dskA kD d exD5) Emp) w10 := L10.gone
  clear L9
  go_wp2_with fail
  refine (lv_opens L10 loc_emp E4.out (by have := F4.out; omega)).mono ?_
  rintro e w11 ⟨m, rfl, L11⟩
  have L11 : LV Nob w m d exL6 Emp w11 := L11
  clear L10
  go_wp2_with fail
  refine (lv_get L11 loc_emp (by have := F5.out; omega) 0).mono ?_
  rintro e w12 ⟨he, L12⟩
  rw [E5.out] at he
  subst he
  clear L11
  go_wp2_with fail
  refine (lv_get L12 loc_emp (by have := F5.out; omega) 5).mono ?_
  rintro e w13 ⟨he, L13⟩
  rw [E6.out] at he
  subst he
  have HF := Lib.hid L13.fr
  clear L12 L13
  have b1 : (tA.toList == (secOf ⟨#[97]⟩).toList) = true := by rw [bytes_beq]; exact decide_eq_true rfl
  have b2 : (tB.toList == (secOf ⟨#[98]⟩).toList) = true := by rw [bytes_beq]; exact decide_eq_true rfl
  go_wp2_with fail
  refine (sector_calls ⟨#[97]⟩ _ (by decide)).mono ?_
  rintro e w14 ⟨rfl, hf14⟩
  go_wp2_with fail
  refine (sector_calls ⟨#[98]⟩ _ (by decide)).mono ?_
  rintro e w15 ⟨rfl, hf15⟩
  go_wp2_with fail
  go_ret
  exact ⟨rfl, (HF.out.trans hf14).trans hf15⟩
end Go.Proofs.YtchilnjocnkodaaGreat
