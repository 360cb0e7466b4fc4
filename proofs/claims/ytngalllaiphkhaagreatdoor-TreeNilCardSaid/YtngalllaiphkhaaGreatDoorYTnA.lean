import Derived.Test.YtngalllaiphkhaaGreatDoorYTI
namespace Go.Proofs.YtngalllaiphkhaaGreatDoor
open Go.RowKit
open Go.Lib (hid)
set_option maxRecDepth 100000
set_option maxHeartbeats 16000000
set_option linter.unusedVariables false
set_option linter.unusedSimpArgs false
theorem nt_alive (w:World):Calls Tryz.prog 42 #[.pointer none] w fun e w'=>e = .returned (.int .i64 1) /\ Fr Nob w w':=by
 go_enter Tryz.func42,Tryz.ntmps42
 go_wp2_with fail
 go_ret
 exact ⟨rfl,Fr.refl _ _⟩
theorem nt_find (n:Int) (s:ByteArray) (w:World):Calls Tryz.prog 13 #[.pointer none,.int .i64 n,.string s] w fun e w'=>e = .returned (.tuple #[.int .i64 0,.int .i64 1]) /\ Fr Nob w w':=by
 have HA:=hid (nt_alive w)
 go_enter Tryz.func13,Tryz.ntmps13
 go_wp2_with fail
 refine HA.out.mono ?_
 rintro e w2 ⟨rfl,hf⟩
 go_wp2_with fail
 go_ret2
 exact ⟨rfl,hf⟩
theorem nt_make (n k:Int) (s:ByteArray) (w:World):Calls Tryz.prog 15 #[.pointer none,.int .i64 n,.string s,.int .i64 k] w fun e w'=>e = .returned (.tuple #[.int .i64 0,.int .i64 1]) /\ Fr Nob w w':=by
 have HA:=hid (nt_alive w)
 go_enter Tryz.func15,Tryz.ntmps15
 go_wp2_with fail
 refine HA.out.mono ?_
 rintro e w2 ⟨rfl,hf⟩
 go_wp2_with fail
 go_ret2
 exact ⟨rfl,hf⟩
theorem nt_link (n:Int) (s u:ByteArray) (w:World):Calls Tryz.prog 16 #[.pointer none,.int .i64 n,.string s,.string u] w fun e w'=>e = .returned (.int .i64 1) /\ Fr Nob w w':=by
 have HA:=hid (nt_alive w)
 go_enter Tryz.func16,Tryz.ntmps16
 go_wp2_with fail
 refine HA.out.mono ?_
 rintro e w2 ⟨rfl,hf⟩
 go_wp2_with fail
 go_ret
 exact ⟨rfl,hf⟩
theorem nt_unlink (n:Int) (s:ByteArray) (w:World):Calls Tryz.prog 19 #[.pointer none,.int .i64 n,.string s] w fun e w'=>e = .returned (.int .i64 1) /\ Fr Nob w w':=by
 have HA:=hid (nt_alive w)
 go_enter Tryz.func19,Tryz.ntmps19
 go_wp2_with fail
 refine HA.out.mono ?_
 rintro e w2 ⟨rfl,hf⟩
 go_wp2_with fail
 go_ret
 exact ⟨rfl,hf⟩
theorem nt_stat (n:Int) (w:World):Calls Tryz.prog 14 #[.pointer none,.int .i64 n] w fun e w'=>e = .returned (.tuple #[.agg #[.int .i64 0,.int .i64 0,.int .i64 0],.int .i64 1]) /\ Fr Nob w w':=by
 have HA:=hid (nt_alive (w.alloc (.cells #[.int .i64 0,.int .i64 0,.int .i64 0] tStat9)))
 go_enter Tryz.func14,Tryz.ntmps14
 go_wp2_with fail
 refine HA.out.mono ?_
 rintro e w2 ⟨rfl,hf⟩
 have hb:Blk w2 w.heap.size tStat9 [.int .i64 0,.int .i64 0,.int .i64 0]:=(Blk.new w tStat9 [.int .i64 0,.int .i64 0,.int .i64 0]).fr hf (fun h=>h)
 have z0:=hb.cell (j:=0) rfl
 have z1:=hb.cell (j:=1) rfl
 have z2:=hb.cell (j:=2) rfl
 have f0:=hb.free 0
 have f1:=hb.free 1
 have f2:=hb.free 2
 have HBL:=hid hb
 have HFS:Hid (Fr Nob w (((w2.setCell ⟨w.heap.size,0,none⟩ (.int .i64 0)).setCell ⟨w.heap.size,1,none⟩ (.int .i64 0)).setCell ⟨w.heap.size,2,none⟩ (.int .i64 0))) :=
  hid ((((((Fr.refl _ _).alloc _).trans hf).set (b:=w.heap.size) (.inr (Nat.le_refl _)) 0 _).set (b:=w.heap.size) (.inr (Nat.le_refl _)) 1 _).set (b:=w.heap.size) (.inr (Nat.le_refl _)) 2 _)
 clear hb hf HA
 go_wp2_with fail
 refine bodyPost_ret (results_blk_tmp rfl rfl (((HBL.out.set 0 _).set 1 _).set 2 _) Tryz.underlying30 rfl Tryz.sizeStat9) rfl ?_
 exact ⟨rfl,HFS.out⟩
theorem nt_file (n:Int) (w:World):Calls Tryz.prog 53 #[.pointer none,.int .i64 n] w fun e w'=>e = .returned (.int .i64 1) /\ Fr Nob w w':=by
 have HA:=hid (nt_stat n w)
 go_enter Tryz.func53,Tryz.ntmps53
 go_wp2_with fail
 refine HA.out.mono ?_
 rintro e w2 ⟨rfl,hf⟩
 go_wp2_with fail
 go_ret
 exact ⟨rfl,hf.alloc _⟩
theorem nt_cut (n:Int) (w:World):Calls Tryz.prog 31 #[.pointer none,.int .i64 n] w fun e w'=>e = .returned (.int .i64 1) /\ Fr Nob w w':=by
 have HA:=hid (nt_file n w)
 go_enter Tryz.func31,Tryz.ntmps31
 go_wp2_with fail
 refine HA.out.mono ?_
 rintro e w2 ⟨rfl,hf⟩
 go_wp2_with fail
 go_ret
 exact ⟨rfl,hf⟩
theorem nt_drop (n:Int) (w:World):Calls Tryz.prog 32 #[.pointer none,.int .i64 n] w fun e w'=>e = .returned (.int .i64 1) /\ Fr Nob w w':=by
 have HA:=hid (nt_stat n w)
 go_enter Tryz.func32,Tryz.ntmps32
 go_wp2_with fail
 refine HA.out.mono ?_
 rintro e w2 ⟨rfl,hf⟩
 go_wp2_with fail
 go_ret
 exact ⟨rfl,hf.alloc _⟩
theorem nt_open (w:World):Calls Tryz.prog 63 #[.pointer none] w fun e w'=>e = .returned (.tuple #[.pointer none,.int .i64 1]) /\ Fr Nob w w':=by
 go_enter Tryz.func63,Tryz.ntmps63
 go_wp2_with fail
 go_ret2
 exact ⟨rfl,(Fr.refl _ _).alloc _⟩
theorem nt_format (w:World):Calls Tryz.prog 33 #[.pointer none] w fun e w'=>e = .returned (.tuple #[.pointer none,.int .i64 1]) /\ Fr Nob w w':=by
 have HA:=hid (nt_open w)
 go_enter Tryz.func33,Tryz.ntmps33
 go_wp2_with fail
 refine HA.out.mono ?_
 rintro e w2 ⟨rfl,hf⟩
 go_wp2_with fail
 go_ret2
 exact ⟨rfl,hf⟩
theorem nt_mount (w:World):Calls Tryz.prog 25 #[.pointer none] w fun e w'=>e = .returned (.tuple #[.pointer none,.int .i64 1]) /\ Fr Nob w w':=by
 have HA:=hid (nt_open w)
 go_enter Tryz.func25,Tryz.ntmps25
 go_wp2_with fail
 refine HA.out.mono ?_
 rintro e w2 ⟨rfl,hf⟩
 go_wp2_with fail
 go_ret2
 exact ⟨rfl,hf⟩
end Go.Proofs.YtngalllaiphkhaaGreatDoor
