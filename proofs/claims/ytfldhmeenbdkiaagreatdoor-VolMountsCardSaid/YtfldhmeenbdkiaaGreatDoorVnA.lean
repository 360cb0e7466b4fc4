/- A volume that is nil: its calls. -/
import Derived.Test.YtfldhmeenbdkiaaGreatDoorWC
namespace Go.Proofs.YtfldhmeenbdkiaaGreatDoor
open Go.RowKit

section
variable {S0 : Nat → Prop} {w0 w : World} {B : Asr}
theorem Lv.rerow {c e : Nat} {cs ds : List Value} {w' : World} (h : Lv S0 w0 (Star (blkA c e cs) B) w) (hB : Loc B) (hb : Blk w' c e ds) (hf : Fr (· = c) w w') : Lv S0 w0 (Star (blkA c e ds) B) w' :=
  h.turn hB (turn_row hb hf)
theorem Lv.blk {c e : Nat} {cs : List Value} (h : Lv S0 w0 (Star (blkA c e cs) B) w) : Blk w c e cs := by
  obtain ⟨S, h⟩ := h.first
  exact h.1
theorem nalive_calls (hL : Lv S0 w0 B w) (_hB : Loc B) : Calls Tryz.prog 44 #[.pointer none] w fun e w' => e = .returned (.int .i64 1) ∧ Lv S0 w0 B w' := by
  go_enter Tryz.func44, Tryz.ntmps44
  go_wp2_with fail
  go_ret
  exact ⟨rfl, hL⟩
set_option maxRecDepth 100000 in
theorem nfind_calls (hL : Lv S0 w0 B w) (hB : Loc B) (n : Int) : Calls Tryz.prog 50 #[.pointer none, .int .i64 n] w fun e w' => e = .returned (.tuple #[inoV Ino.free, .int .i64 1]) ∧ Lv S0 w0 B w' := by
  have hB1 : Loc (Star (blkA w.heap.size tIno zeroI) B) := loc_star (loc_blk _ _ _) hB
  have HA := Lib.hid (nalive_calls (hL.box hB tIno zeroI) hB1)
  clear hL
  go_enter Tryz.func50, Tryz.ntmps50
  go_wp2_with fail
  refine HA.out.mono ?_
  rintro e w2 ⟨rfl, L2⟩
  have HB3 := Lib.hid L2.blk
  have HL2 := Lib.hid L2
  clear L2
  go_wp2_with (with_reducible show wpList _ _ _ _ _ _; refine wpList_store_blk (x := .tmp 4) (y := .tmp 12) rfl rfl rfl HB3.out (inoL Ino.free) rfl (Tryz.sizeInoL _) (zero_len _) (ino_one _) ?_; intro w4 hb4 hf4 hs4)
  refine bodyPost_ret (results_blk_tmp rfl rfl hb4 Tryz.underlying98 rfl (Tryz.sizeInoL _)) rfl ?_
  exact ⟨rfl, (HL2.out.rerow hB hb4 hf4).drop⟩
set_option maxRecDepth 100000 in
theorem nroom_calls (hL : Lv S0 w0 B w) (hB : Loc B)  : Calls Tryz.prog 17 #[.pointer none] w fun e w' => e = .returned (.tuple #[.int .i64 0, .int .i64 1]) ∧ Lv S0 w0 B w' := by
  have HA := Lib.hid (nalive_calls hL hB)
  go_enter Tryz.func17, Tryz.ntmps17
  go_wp2_with fail
  refine HA.out.mono ?_
  rintro e w2 ⟨rfl, L2⟩
  go_wp2_with fail
  go_ret2
  exact ⟨rfl, L2⟩
set_option maxRecDepth 100000 in
theorem nnew_calls (hL : Lv S0 w0 B w) (hB : Loc B) (n : Int) : Calls Tryz.prog 19 #[.pointer none, .int .i64 n] w fun e w' => e = .returned (.tuple #[.int .i64 0, .int .i64 1]) ∧ Lv S0 w0 B w' := by
  have HA := Lib.hid (nalive_calls hL hB)
  go_enter Tryz.func19, Tryz.ntmps19
  go_wp2_with fail
  refine HA.out.mono ?_
  rintro e w2 ⟨rfl, L2⟩
  go_wp2_with fail
  go_ret2
  exact ⟨rfl, L2⟩
set_option maxRecDepth 100000 in
theorem nformat_calls (hL : Lv S0 w0 B w) (hB : Loc B)  : Calls Tryz.prog 24 #[.pointer none] w fun e w' => e = .returned (.tuple #[.pointer none, .int .i64 1]) ∧ Lv S0 w0 B w' := by
  have HA := Lib.hid (nalive_calls hL hB)
  go_enter Tryz.func24, Tryz.ntmps24
  go_wp2_with fail
  go_ret2
  exact ⟨rfl, hL⟩
set_option maxRecDepth 100000 in
theorem nmount_calls (hL : Lv S0 w0 B w) (hB : Loc B)  : Calls Tryz.prog 11 #[.pointer none] w fun e w' => e = .returned (.tuple #[.pointer none, .int .i64 1]) ∧ Lv S0 w0 B w' := by
  have HA := Lib.hid (nalive_calls hL hB)
  go_enter Tryz.func11, Tryz.ntmps11
  go_wp2_with fail
  go_ret2
  exact ⟨rfl, hL⟩
set_option maxRecDepth 100000 in
theorem nstat_calls (hL : Lv S0 w0 B w) (hB : Loc B) (n : Int) : Calls Tryz.prog 13 #[.pointer none, .int .i64 n] w fun e w' => e = .returned (.tuple #[statV Ino.free, .int .i64 1]) ∧ Lv S0 w0 B w' := by
  have L1 := hL.box hB tStat zeroS
  have hB1 : Loc (Star (blkA w.heap.size tStat zeroS) B) := loc_star (loc_blk _ _ _) hB
  have HF := Lib.hid (nfind_calls L1 hB1 n)
  clear hL L1
  go_enter Tryz.func13, Tryz.ntmps13
  go_wp2_with fail
  refine HF.out.mono ?_
  rintro e w2 ⟨rfl, L2⟩
  have HB3 := Lib.hid (Blk.new w2 tIno zeroI)
  have HL3 := Lib.hid (L2.box hB1 tIno zeroI)
  clear L2
  go_wp2_with (first | (with_reducible show wpList _ _ _ _ _ _; refine wpList_store_blk (x := .tmp 6) (y := .tmp 12) rfl rfl rfl HB3.out (inoL Ino.free) rfl (Tryz.sizeInoL _) (zero_len _) (ino_one _) ?_; intro w4 hb4 hf4 hs4; have c0 := hb4.cell (j := 0) rfl; have c1 := hb4.cell (j := 1) rfl; have c2 := hb4.cell (j := 2) rfl; have L5 := (HL3.out.rerow hB1 hb4 hf4).drop; have HB5 := Lib.hid L5.blk; have HL5 := Lib.hid L5; clear L5 hb4 hf4) | (with_reducible show wpList _ _ _ _ _ _; refine wpList_store_blk (x := .tmp 4) (y := .tmp 20) rfl rfl rfl HB5.out (statL Ino.free) rfl (Tryz.sizeStatL _) (zeroS_len _) (stat_one _) ?_; intro w6 hb6 hf6 hs6))
  refine bodyPost_ret (results_blk_tmp rfl rfl hb6 Tryz.underlying41 rfl (Tryz.sizeStatL _)) rfl ?_
  exact ⟨rfl, (HL5.out.rerow hB hb6 hf6).drop⟩
set_option maxRecDepth 100000 in
theorem nlink_calls (hL : Lv S0 w0 B w) (hB : Loc B) (n : Int) (by_ : Int) : Calls Tryz.prog 21 #[.pointer none, .int .i64 n, .int .i64 by_] w fun e w' => e = .returned (.int .i64 1) ∧ Lv S0 w0 B w' := by
  have HF := Lib.hid (nfind_calls hL hB n)
  clear hL
  go_enter Tryz.func21, Tryz.ntmps21
  go_wp2_with fail
  refine HF.out.mono ?_
  rintro e w2 ⟨rfl, L2⟩
  have HB3 := Lib.hid (Blk.new w2 tIno zeroI)
  have HL3 := Lib.hid (L2.box hB tIno zeroI)
  clear L2
  go_wp2_with (with_reducible show wpList _ _ _ _ _ _; refine wpList_store_blk (x := .tmp 7) (y := .tmp 13) rfl rfl rfl HB3.out (inoL Ino.free) rfl (Tryz.sizeInoL _) (zero_len _) (ino_one _) ?_; intro w4 hb4 hf4 hs4; have L5 := (HL3.out.rerow hB hb4 hf4).drop; have HL5 := Lib.hid L5; clear L5 hb4 hf4)
  go_ret
  exact ⟨rfl, HL5.out⟩
set_option maxRecDepth 100000 in
theorem nfree_calls (hL : Lv S0 w0 B w) (hB : Loc B) (n : Int) : Calls Tryz.prog 20 #[.pointer none, .int .i64 n] w fun e w' => e = .returned (.int .i64 1) ∧ Lv S0 w0 B w' := by
  have HF := Lib.hid (nfind_calls hL hB n)
  clear hL
  go_enter Tryz.func20, Tryz.ntmps20
  go_wp2_with fail
  refine HF.out.mono ?_
  rintro e w2 ⟨rfl, L2⟩
  have HB3 := Lib.hid (Blk.new w2 tIno zeroI)
  have HL3 := Lib.hid (L2.box hB tIno zeroI)
  clear L2
  go_wp2_with (with_reducible show wpList _ _ _ _ _ _; refine wpList_store_blk (x := .tmp 5) (y := .tmp 11) rfl rfl rfl HB3.out (inoL Ino.free) rfl (Tryz.sizeInoL _) (zero_len _) (ino_one _) ?_; intro w4 hb4 hf4 hs4; have L5 := (HL3.out.rerow hB hb4 hf4).drop; have HL5 := Lib.hid L5; clear L5 hb4 hf4)
  go_ret
  exact ⟨rfl, HL5.out⟩
set_option maxRecDepth 100000 in
theorem ncut_calls (hL : Lv S0 w0 B w) (hB : Loc B) (n : Int) (size : Int) : Calls Tryz.prog 23 #[.pointer none, .int .i64 n, .int .i64 size] w fun e w' => e = .returned (.int .i64 1) ∧ Lv S0 w0 B w' := by
  have HF := Lib.hid (nfind_calls hL hB n)
  clear hL
  go_enter Tryz.func23, Tryz.ntmps23
  go_wp2_with fail
  refine HF.out.mono ?_
  rintro e w2 ⟨rfl, L2⟩
  have HB3 := Lib.hid (Blk.new w2 tIno zeroI)
  have HL3 := Lib.hid (L2.box hB tIno zeroI)
  clear L2
  go_wp2_with (with_reducible show wpList _ _ _ _ _ _; refine wpList_store_blk (x := .tmp 7) (y := .tmp 13) rfl rfl rfl HB3.out (inoL Ino.free) rfl (Tryz.sizeInoL _) (zero_len _) (ino_one _) ?_; intro w4 hb4 hf4 hs4; have L5 := (HL3.out.rerow hB hb4 hf4).drop; have HL5 := Lib.hid L5; clear L5 hb4 hf4)
  go_ret
  exact ⟨rfl, HL5.out⟩
set_option maxRecDepth 100000 in
theorem nwrite_calls (hL : Lv S0 w0 B w) (hB : Loc B) (n : Int) (off : Int) (s : ByteArray) : Calls Tryz.prog 22 #[.pointer none, .int .i64 n, .int .i64 off, .string s] w fun e w' => e = .returned (.int .i64 1) ∧ Lv S0 w0 B w' := by
  have HF := Lib.hid (nfind_calls hL hB n)
  clear hL
  go_enter Tryz.func22, Tryz.ntmps22
  go_wp2_with fail
  refine HF.out.mono ?_
  rintro e w2 ⟨rfl, L2⟩
  have HB3 := Lib.hid (Blk.new w2 tIno zeroI)
  have HL3 := Lib.hid (L2.box hB tIno zeroI)
  clear L2
  go_wp2_with (with_reducible show wpList _ _ _ _ _ _; refine wpList_store_blk (x := .tmp 9) (y := .tmp 20) rfl rfl rfl HB3.out (inoL Ino.free) rfl (Tryz.sizeInoL _) (zero_len _) (ino_one _) ?_; intro w4 hb4 hf4 hs4; have L5 := (HL3.out.rerow hB hb4 hf4).drop; have HL5 := Lib.hid L5; clear L5 hb4 hf4)
  go_ret
  exact ⟨rfl, HL5.out⟩
set_option maxRecDepth 100000 in
set_option maxHeartbeats 1000000 in
theorem nread_calls (hL : Lv S0 w0 B w) (hB : Loc B) (n : Int) (off : Int) (many : Int) : Calls Tryz.prog 15 #[.pointer none, .int .i64 n, .int .i64 off, .int .i64 many] w fun e w' => e = .returned (.tuple #[.string ⟨#[]⟩, .int .i64 1]) ∧ Lv S0 w0 B w' := by
  refine (callsIn_wide (n := 3)).1 ?_
  have b1 := hL.box hB tPVol [.pointer none]
  have l1 : Loc (Star (blkA w.heap.size tPVol [.pointer none]) B) := loc_star (loc_blk _ _ _) hB
  have HF := Lib.hid (nfind_calls b1 l1 n)
  obtain ⟨n0, hn0⟩ : ∃ n0, n0 = w.heap.size := ⟨_, rfl⟩
  rw [← hn0] at HF l1
  have HN := Lib.hid hn0
  have HL1 := Lib.hid l1
  clear hL b1 l1 hn0
  refine callsIn_of_wp_marks Tryz.func15 rfl trivial ?_ rfl
  simp only [Tryz.ntmps15, List.size_toArray, List.length_cons, List.length_nil, Nat.reduceAdd, Nat.reduceSub, Array.replicate_succ, Array.replicate_zero, List.push_toArray, List.append_toArray, List.nil_append, List.cons_append]
  rw [wpIn_wide]
  go_wp2_with fail
  rw [← HN.out]
  refine HF.out.mono ?_
  rintro e w2 ⟨rfl, L2⟩
  have HB3 := Lib.hid (Blk.new w2 tIno zeroI)
  have HL3 := Lib.hid (L2.box HL1.out tIno zeroI)
  have q0 := L2.blk.cell (j := 0) rfl
  clear L2
  go_wp2_with (with_reducible show wpList _ _ _ _ _ _; refine wpList_store_blk (x := .tmp 10) (y := .tmp 20) rfl rfl rfl HB3.out (inoL Ino.free) rfl (Tryz.sizeInoL _) (zero_len _) (ino_one _) ?_; intro w4 hb4 hf4 hs4; have L5 := HL3.out.rerow HL1.out hb4 hf4; have q5 := L5.drop.blk.cell (j := 0) rfl; have HL5 := Lib.hid L5; clear L5 hb4 hf4 hs4)
  refine ⟨_, results_tmp2 rfl _ _ _, rfl, HL5.out.drop.drop⟩
end
end Go.Proofs.YtfldhmeenbdkiaaGreatDoor
