/- VolNil: its walk. -/
import Derived.Test.YtfldhmeenbdkiaaGreatDoorVnA
namespace Go.Proofs.YtfldhmeenbdkiaaGreatDoor
open Go.RowKit

set_option maxRecDepth 100000 in
set_option maxHeartbeats 4000000 in
theorem volnil_calls (w : World) (n : Int) (s : ByteArray) : Calls Tryz.prog 4 #[.int .i64 n, .string s] w fun e w' => e = .returned (.bool true) ∧ Fr Nob w w' := by
  have LS : Lv Nob w Emp w := (Live.start w).lv
  have HH := Lib.hid (Lv.calls LS loc_emp (vshown_calls w))
  clear LS
  go_enter Tryz.func4, Tryz.ntmps4
  go_wp2_with fail
  refine HH.out.mono ?_
  rintro e w0 ⟨rfl, L⟩
  have HN := Lib.hid (nnew_calls L loc_emp n)
  clear L HH
  go_wp2_with fail
  refine HN.out.mono ?_
  rintro e w1 ⟨rfl, L⟩
  have HN1 := Lib.hid (nfree_calls L loc_emp n)
  clear L HN
  go_wp2_with fail
  refine HN1.out.mono ?_
  rintro e w2 ⟨rfl, L⟩
  have hN2 := nstat_calls L loc_emp n
  rw [show statV Ino.free = .agg #[.int .i64 0, .int .i64 0, .int .i64 0] from rfl] at hN2
  have HN2 := Lib.hid hN2
  clear hN2
  clear L HN1
  go_wp2_with fail
  refine HN2.out.mono ?_
  rintro e w3 ⟨rfl, L⟩
  have HN3 := Lib.hid (nlink_calls (L.alloc loc_emp (.cells #[.int .i64 0, .int .i64 0, .int .i64 0] tStat)) loc_emp n 1)
  clear L HN2
  go_wp2_with fail
  refine HN3.out.mono ?_
  rintro e w4 ⟨rfl, L⟩
  have HN4 := Lib.hid (nread_calls L loc_emp n 0 1)
  clear L HN3
  go_wp2_with fail
  refine HN4.out.mono ?_
  rintro e w5 ⟨rfl, L⟩
  have HN5 := Lib.hid (nwrite_calls L loc_emp n 0 s)
  clear L HN4
  go_wp2_with fail
  refine HN5.out.mono ?_
  rintro e w6 ⟨rfl, L⟩
  have HN6 := Lib.hid (ncut_calls L loc_emp n 0)
  clear L HN5
  go_wp2_with fail
  refine HN6.out.mono ?_
  rintro e w7 ⟨rfl, L⟩
  have HN7 := Lib.hid (nroom_calls L loc_emp)
  clear L HN6
  go_wp2_with fail
  refine HN7.out.mono ?_
  rintro e w8 ⟨rfl, L⟩
  have HN8 := Lib.hid (nformat_calls L loc_emp)
  clear L HN7
  go_wp2_with fail
  refine HN8.out.mono ?_
  rintro e w9 ⟨rfl, L⟩
  have HN9 := Lib.hid (nmount_calls L loc_emp)
  clear L HN8
  go_wp2_with fail
  refine HN9.out.mono ?_
  rintro e w10 ⟨rfl, L⟩
  have HFR := Lib.hid L.fr
  clear L HN9
  go_wp2_with fail
  go_ret
  exact ⟨rfl, HFR.out⟩
end Go.Proofs.YtfldhmeenbdkiaaGreatDoor
