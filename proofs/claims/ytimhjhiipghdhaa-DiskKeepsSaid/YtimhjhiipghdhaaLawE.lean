/- One act, by the program's disk and by the document's: both come to the same state. -/
import Derived.Test.YtimhjhiipghdhaaLawC
namespace Go.Proofs.Ytimhjhiipghdhaa
open Go.RowKit

def doStep (D : DSt) (a : ActD) : DSt :=
  if a.kind = 2 then D.write a.i (secOf a.s) else if a.kind = 3 then D.flush else if a.kind = 4 then D.setPower a.i else if a.kind = 5 then D.crash a.keep else if a.kind = 6 then D.write a.i a.s else D

theorem write_keeps (D : DSt) (i : Int) (s : ByteArray) : (D.write i s).safe.length = D.safe.length ∧ (D.write i s).wait.length ≤ D.wait.length + 1 := by
  unfold DSt.write
  split
  · exact ⟨rfl, by omega⟩
  · split
    · exact ⟨rfl, by omega⟩
    · split
      · exact ⟨rfl, Nat.le_succ _⟩
      · exact ⟨rfl, by simp⟩
theorem flush_keeps (D : DSt) : D.flush.safe.length = D.safe.length ∧ D.flush.wait.length ≤ D.wait.length := by
  unfold DSt.flush
  split
  · exact ⟨rfl, Nat.le_refl _⟩
  · split
    · exact ⟨rfl, Nat.le_refl _⟩
    · exact ⟨puts_length _ _, Nat.zero_le _⟩
theorem crash_keeps (D : DSt) (k : Nat) : (D.crash k).safe.length = D.safe.length ∧ (D.crash k).wait.length = 0 := ⟨puts_length _ _, rfl⟩
theorem doStep_keeps (D : DSt) (a : ActD) : (doStep D a).safe.length = D.safe.length ∧ (doStep D a).wait.length ≤ D.wait.length + 1 := by
  unfold doStep
  split
  · exact write_keeps D _ _
  split
  · exact ⟨(flush_keeps D).1, by have := (flush_keeps D).2; omega⟩
  split
  · exact ⟨rfl, Nat.le_succ _⟩
  split
  · exact ⟨(crash_keeps D _).1, by have := (crash_keeps D a.keep).2; omega⟩
  split
  · exact write_keeps D _ _
  · exact ⟨rfl, by omega⟩

/-- The value of an act. -/
def actV (a : ActD) : Value := .agg #[.int .i64 a.kind, .int .i64 a.i, .string a.s, .int .u64 a.keep]

set_option maxRecDepth 100000 in
set_option maxHeartbeats 4000000 in
theorem does_calls {w0 w : World} {b r : Nat} {D : DSt} {B : Asr} (a : ActD) (hL : Live w0 (Star (dskA kD b D) (Star (dskA kR r D) B)) w) (hB : Loc B) (ha : a.keep < 18446744073709551616 ∧ a.s.size ≤ 140737488351232) (hi : a.i ≤ 9223372036854775807)
    (hb1 : (D.wait.length + 1) * 24 ≤ 140737488355328) :
    Calls Try.prog 18 #[.pointer (some ⟨b, 0, none⟩), .pointer (some ⟨r, 0, none⟩), actV a] w fun e w' => e = .returned (.bool true) ∧ Live w0 (Star (dskA kD b (doStep D a)) (Star (dskA kR r (doStep D a)) B)) w' := by
  have HA := Lib.hid ha
  have HI := Lib.hid hi
  have HB1 := Lib.hid hb1
  have L1 := hL.box (loc_star (loc_dsk _ _ _) (loc_star (loc_dsk _ _ _) hB)) tAct (cellsA a)
  have hb := L1.first
  clear ha hi hb1 hL
  unfold actV
  by_cases k1 : a.kind = 1
  · have t1 : (a.kind == 1) = true := by rw [beq_iff_eq]; exact k1
    have hs : doStep D a = D := by unfold doStep; simp [k1]
    rw [hs]
    clear hs k1
    go_enter Try.func18, Try.ntmps18
    go_wp2_with fail
    refine (L1.op (((d_read a.i (by have := HB1.out; omega)).left (loc_star (loc_dsk _ _ _) hB)).right (loc_blk _ _ _))).mono ?_
    rintro e w2 ⟨rfl, L2⟩
    obtain ⟨S2, h2⟩ := L2.first
    have c1 := h2.1.cell (j := 1) rfl
    clear L1 hb h2
    go_wp2_with fail
    refine (L2.op ((((r_read a.i (by have := HB1.out; omega)).left hB).right (loc_dsk _ _ _)).right (loc_blk _ _ _))).mono ?_
    rintro e w3 ⟨rfl, L3⟩
    clear L2
    go_wp2_with fail
    go_ret
    exact ⟨rfl, L3.drop⟩
  have t1 : (a.kind == 1) = false := by rw [beq_eq_false_iff_ne]; exact k1
  by_cases k2 : a.kind = 2
  · have t2 : (a.kind == 2) = true := by rw [beq_iff_eq]; exact k2
    have hs : doStep D a = D.write a.i (secOf a.s) := by unfold doStep; simp [k2]
    rw [hs]
    clear hs k1 k2
    have L6 := L1.drew (loc_star (loc_blk _ _ _) (loc_star (loc_dsk _ _ _) (loc_star (loc_dsk _ _ _) hB)))
    go_enter Try.func18, Try.ntmps18
    go_wp2_with fail
    go_region_held3 (fun w' => w'.cell? ⟨w.heap.size, 1, none⟩ = some (.int .i64 a.i) ∧ w'.cell? ⟨w.heap.size, 2, none⟩ = some (.string a.s))
      (first | go_keep | exact ⟨c17, c27⟩ | exact ⟨c18, c28⟩)
      (first
        | (go_at_call 11; refine (L6.calls (loc_star (loc_blk _ _ _) (loc_star (loc_dsk _ _ _) (loc_star (loc_dsk _ _ _) hB))) (sector_calls a.s _ (by have := HA.out.2; omega))).mono ?_; rintro e w7 ⟨rfl, L7⟩; obtain ⟨S7, h7⟩ := L7.first; have c17 := h7.1.cell (j := 1) rfl; have c27 := h7.1.cell (j := 2) rfl)
        | (go_at_call 12; refine (L7.op (((d_write a.i (secOf a.s) HB1.out).left (loc_star (loc_dsk _ _ _) hB)).right (loc_blk _ _ _))).mono ?_; rintro e w8 ⟨rfl, L8⟩; obtain ⟨S8, h8⟩ := L8.first; have c18 := h8.1.cell (j := 1) rfl; have c28 := h8.1.cell (j := 2) rfl))
    clear L1 L6 L7 h7 c17 c27 hb
    go_wp2_with fail
    have L9 := L8.drew (loc_star (loc_blk _ _ _) (loc_star (loc_dsk _ _ _) (loc_star (loc_dsk _ _ _) hB)))
    go_region_held3 (fun w' => w'.cell? ⟨w.heap.size, 1, none⟩ = some (.int .i64 a.i) ∧ w'.cell? ⟨w.heap.size, 2, none⟩ = some (.string a.s))
      (first | go_keep | exact ⟨c18, c28⟩ | exact ⟨c19, c29⟩ | exact ⟨c1t, c2t⟩)
      (first
        | (go_at_call 11; refine (L9.calls (loc_star (loc_blk _ _ _) (loc_star (loc_dsk _ _ _) (loc_star (loc_dsk _ _ _) hB))) (sector_calls a.s _ (by have := HA.out.2; omega))).mono ?_; rintro e w10 ⟨rfl, L10⟩; obtain ⟨S10, h10⟩ := L10.first; have c19 := h10.1.cell (j := 1) rfl; have c29 := h10.1.cell (j := 2) rfl)
        | (go_at_call 32; refine (L10.op ((((r_write a.i (secOf a.s) HB1.out).left hB).right (loc_dsk _ _ _)).right (loc_blk _ _ _))).mono ?_; rintro e w11 ⟨rfl, L11⟩; obtain ⟨S11, h11⟩ := L11.first; have c1t := h11.1.cell (j := 1) rfl; have c2t := h11.1.cell (j := 2) rfl))
    go_wp2_with fail
    go_ret
    exact ⟨rfl, L11.drop⟩
  have t2 : (a.kind == 2) = false := by rw [beq_eq_false_iff_ne]; exact k2
  by_cases k3 : a.kind = 3
  · have t3 : (a.kind == 3) = true := by rw [beq_iff_eq]; exact k3
    have hs : doStep D a = D.flush := by unfold doStep; simp [k3]
    rw [hs]
    clear hs k1 k2 k3
    go_enter Try.func18, Try.ntmps18
    go_wp2_with fail
    refine (L1.op (((d_flush (by have := HB1.out; omega)).left (loc_star (loc_dsk _ _ _) hB)).right (loc_blk _ _ _))).mono ?_
    rintro e w2 ⟨rfl, L2⟩
    clear L1 hb
    go_wp2_with fail
    refine (L2.op ((((r_flush (by have := HB1.out; omega)).left hB).right (loc_dsk _ _ _)).right (loc_blk _ _ _))).mono ?_
    rintro e w3 ⟨rfl, L3⟩
    clear L2
    go_wp2_with fail
    go_ret
    exact ⟨rfl, L3.drop⟩
  have t3 : (a.kind == 3) = false := by rw [beq_eq_false_iff_ne]; exact k3
  by_cases k4 : a.kind = 4
  · have t4 : (a.kind == 4) = true := by rw [beq_iff_eq]; exact k4
    have hs : doStep D a = D.setPower a.i := by unfold doStep; simp [k4]
    rw [hs]
    clear hs k1 k2 k3 k4
    go_enter Try.func18, Try.ntmps18
    go_wp2_with fail
    refine (L1.op (((d_power a.i HI.out).left (loc_star (loc_dsk _ _ _) hB)).right (loc_blk _ _ _))).mono ?_
    rintro e w2 ⟨rfl, L2⟩
    obtain ⟨S2, h2⟩ := L2.first
    have c1 := h2.1.cell (j := 1) rfl
    clear L1 hb h2
    go_wp2_with fail
    refine (L2.op ((((r_power a.i HI.out).left hB).right (loc_dsk _ _ _)).right (loc_blk _ _ _))).mono ?_
    rintro e w3 ⟨rfl, L3⟩
    clear L2
    go_wp2_with fail
    go_ret
    exact ⟨rfl, L3.drop⟩
  have t4 : (a.kind == 4) = false := by rw [beq_eq_false_iff_ne]; exact k4
  by_cases k5 : a.kind = 5
  · have t5 : (a.kind == 5) = true := by rw [beq_iff_eq]; exact k5
    have hs : doStep D a = D.crash a.keep := by unfold doStep; simp [k5]
    rw [hs]
    clear hs k1 k2 k3 k4 k5
    go_enter Try.func18, Try.ntmps18
    go_wp2_with fail
    refine (L1.op (((d_crash a.keep HA.out.1 (by have := HB1.out; omega)).left (loc_star (loc_dsk _ _ _) hB)).right (loc_blk _ _ _))).mono ?_
    rintro e w2 ⟨rfl, L2⟩
    obtain ⟨S2, h2⟩ := L2.first
    have c1 := h2.1.cell (j := 3) rfl
    clear L1 hb h2
    go_wp2_with fail
    refine (L2.op ((((r_crash a.keep HA.out.1 (by have := HB1.out; omega)).left hB).right (loc_dsk _ _ _)).right (loc_blk _ _ _))).mono ?_
    rintro e w3 ⟨rfl, L3⟩
    clear L2
    go_wp2_with fail
    go_ret
    exact ⟨rfl, L3.drop⟩
  have t5 : (a.kind == 5) = false := by rw [beq_eq_false_iff_ne]; exact k5
  by_cases k6 : a.kind = 6
  · have t6 : (a.kind == 6) = true := by rw [beq_iff_eq]; exact k6
    have hs : doStep D a = D.write a.i a.s := by unfold doStep; simp [k6]
    rw [hs]
    clear hs k1 k2 k3 k4 k5 k6
    go_enter Try.func18, Try.ntmps18
    go_wp2_with fail
    refine (L1.op (((d_write a.i a.s HB1.out).left (loc_star (loc_dsk _ _ _) hB)).right (loc_blk _ _ _))).mono ?_
    rintro e w2 ⟨rfl, L2⟩
    obtain ⟨S2, h2⟩ := L2.first
    have c1 := h2.1.cell (j := 1) rfl
    have c2 := h2.1.cell (j := 2) rfl
    clear L1 hb h2
    go_wp2_with fail
    refine (L2.op ((((r_write a.i a.s HB1.out).left hB).right (loc_dsk _ _ _)).right (loc_blk _ _ _))).mono ?_
    rintro e w3 ⟨rfl, L3⟩
    clear L2
    go_wp2_with fail
    go_ret
    exact ⟨rfl, L3.drop⟩
  have t6 : (a.kind == 6) = false := by rw [beq_eq_false_iff_ne]; exact k6
  have hs : doStep D a = D := by unfold doStep; simp [k2, k3, k4, k5, k6]
  rw [hs]
  clear hs k1 k2 k3 k4 k5 k6
  go_enter Try.func18, Try.ntmps18
  go_wp2_with fail
  go_ret
  exact ⟨rfl, L1.drop⟩
end Go.Proofs.Ytimhjhiipghdhaa
