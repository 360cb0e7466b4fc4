/- LogPlays, walked. -/
import Derived.Test.YtchilnjocnkodaaGreatRlK
namespace Go.Proofs.YtchilnjocnkodaaGreat
open Go.RowKit

def Cur (w0 : World) (d rd : Nat) (D : DSt) (s10 s12 : Value) (w : World) : Prop :=
  (s10 = .pointer none ∧ s12 = .pointer none ∧ D.wait.length ≤ 70 ∧ Lv Nob w0 (Star (dskA kD d D) (Star (dskA kR rd D) Emp)) w) ∨
  (∃ b rb stg dead, s10 = .pointer (some ⟨b, 0, none⟩) ∧ s12 = .pointer (some ⟨rb, 0, none⟩) ∧ PInv ⟨D, stg, dead⟩ ∧ MV Nob w0 b d rb rd ⟨D, stg, dead⟩ ⟨D, stg, dead⟩ Emp w)
theorem Cur.disks {w0 w : World} {d rd : Nat} {D : DSt} {s10 s12 : Value} (h : Cur w0 d rd D s10 s12 w) : D.wait.length ≤ 70 ∧ Lv Nob w0 (Star (dskA kD d D) (Star (dskA kR rd D) Emp)) w := by
  rcases h with ⟨_, _, h1, h2⟩ | ⟨b, rb, stg, dead, _, _, h1, h2⟩
  · exact ⟨h1, h2⟩
  · exact ⟨h1.wait, (LV.gone h2).map fun _ h => star_less h⟩
theorem act_cells {w wr : World} {ao : Option Addr} {n c : Nat} {acts : List ActD} (h : Srcs w (.slice ao n c) acts.length 4 (flatA acts)) (hf : Fr Nob w wr) {k : Nat} {a : ActD} (hk : acts[k]? = some a) :
    ∃ g off, ao = some ⟨g, off, none⟩ ∧ wr.cell? ⟨g, off + k * 4, none⟩ = some (.int .i64 a.kind) ∧ wr.cell? ⟨g, off + k * 4 + 1, none⟩ = some (.int .i64 a.i) ∧
      wr.cell? ⟨g, off + k * 4 + 2, none⟩ = some (.string a.s) ∧ wr.cell? ⟨g, off + k * 4 + 3, none⟩ = some (.int .u64 a.keep) := by
  obtain ⟨g, off, rfl, c0⟩ := h.at (flatA_get hk 0 (by omega))
  obtain ⟨g1, o1, e1, c1⟩ := h.at (flatA_get hk 1 (by omega))
  obtain ⟨g2, o2, e2, c2⟩ := h.at (flatA_get hk 2 (by omega))
  obtain ⟨g3, o3, e3, c3⟩ := h.at (flatA_get hk 3 (by omega))
  simp only [Option.some.injEq, Addr.mk.injEq, and_true] at e1 e2 e3
  obtain ⟨rfl, rfl⟩ := e1
  obtain ⟨rfl, rfl⟩ := e2
  obtain ⟨rfl, rfl⟩ := e3
  exact ⟨g, off, rfl, hf.cell c0 (fun h => h), hf.cell c1 (fun h => h), hf.cell c2 (fun h => h), hf.cell c3 (fun h => h)⟩
theorem pull4a {w : World} {A B C D R : Asr} {U : Nat → Prop} (h : Star A (Star B (Star C (Star D R))) w U) : Star C (Star D (Star A (Star B R))) w U :=
  star_right (pullc h) fun _ h => pullc h
theorem disks_len {w0 w : World} {d : Nat} {D : DSt} {B : Asr} (h : Lv Nob w0 (Star (dskA kD d D) B) w) : D.safe.length ≤ 544 := by
  obtain ⟨_, _, _, _, _, h⟩ := h.first
  exact h.ok.len
theorem disk_cells {w0 w : World} {g : Nat} {a : ActD} {A1 A2 B : Asr} (h : Lv Nob w0 (Star A1 (Star A2 (Star (blkA g tAct7 (cellsA a)) B))) w) : w.cell? ⟨g, 1, none⟩ = some (.int .i64 a.i) ∧ w.cell? ⟨g, 3, none⟩ = some (.int .u64 a.keep) := by
  obtain ⟨_, ⟨_, _, _, ⟨_, _, _, ⟨_, _, h, _⟩, _⟩, _⟩, _⟩ := h
  exact ⟨h.1.cell (j := 1) rfl, h.1.cell (j := 3) rfl⟩
section
variable {S0 : Nat → Prop} {w0 w : World} {b d rb rd : Nat} {L M : LSt} {B : Asr}
theorem mv_power (h : MV S0 w0 b d rb rd L M B w) (hB : Loc B) (n : Int) (hn : n ≤ 9223372036854775807) :
    Calls Tryz.prog 8 #[.pointer (some ⟨d, 0, none⟩), .int .i64 n] w fun e w' => e = .returned (.tuple #[]) ∧ MV S0 w0 b d rb rd { L with D := L.D.setPower n } M B w' := lv_disk h (MV.locB hB) (d_power n hn)
theorem mv_rpower (h : MV S0 w0 b d rb rd L M B w) (hB : Loc B) (n : Int) (hn : n ≤ 9223372036854775807) :
    Calls Tryz.prog 9 #[.pointer (some ⟨rd, 0, none⟩), .int .i64 n] w fun e w' => e = .returned (.tuple #[]) ∧ MV S0 w0 b d rb rd L { M with D := M.D.setPower n } B w' :=
  (Lv.op (MV.ref h) (((r_power n hn).left (MV.locR hB)).right (loc_rl _ _ _ _))).mono fun _ _ ⟨h1, h2⟩ => ⟨h1, MV.back h2⟩
end

set_option maxRecDepth 100000 in
set_option maxHeartbeats 16000000 in
theorem logPlays_calls {ai aa : Option Addr} {ci ca : Nat} {l : List ByteArray} {m : Int} {acts : List ActD} {w : World} (hI : Srcs w (.slice ai l.length ci) l.length 1 (strs l)) (hl : l.length ≤ 9223372036854775807)
    (hS : Srcs w (.slice aa acts.length ca) acts.length 4 (flatA acts)) (hok : ActsOk acts) (hai : ∀ a ∈ acts, a.i ≤ 9223372036854775807) (hn63 : acts.length ≤ 140737488351232) :
    Calls Tryz.prog 3 #[.slice ai l.length ci, .int .i64 m, .slice aa acts.length ca] w fun e w' => e = .returned (.bool true) ∧ Fr Nob w w' := by
  have HI := Lib.hid hI
  have HLL := Lib.hid hl
  have HS := Lib.hid hS
  have HO := Lib.hid hok
  have HAI := Lib.hid hai
  obtain ⟨n, hn⟩ : ∃ n, n = acts.length := ⟨_, rfl⟩
  have HN := Lib.hid hn
  rw [← hn] at hn63 ⊢
  have L0 := (Live.start w).lv
  clear hI hl hS hok hai hn
  go_enter Tryz.func3, Tryz.ntmps3
  go_wp2_with fail
  refine (L0.calls loc_emp (shown_calls _)).mono ?_
  rintro e w1 ⟨rfl, L1⟩
  clear L0
  go_wp2_with fail
  refine (opened_calls HI.out HLL.out L1 loc_emp).mono ?_
  rintro e w2 ⟨d, rd, D0, rfl, hw0, L2⟩
  have HW0 := Lib.hid hw0
  obtain ⟨gE, hgE⟩ : ∃ s, s = D0.openE := ⟨_, rfl⟩
  have HGE := Lib.hid hgE
  have b2 : (gE == gE) = true := by simp
  clear L1 hw0 hgE
  go_wp2_with fail
  refine (open_calls L2 (loc_star (loc_dsk _ _ _) loc_emp) (by rw [HW0.out]; decide)).mono ?_
  have hw31 : (D0.wait.length + 31) * 24 ≤ 140737488355328 := by rw [HW0.out]; decide
  have HW31 := Lib.hid hw31
  clear hw31
  rintro e w3 (⟨hE, he, L3⟩ | ⟨hE, b, rfl, L3⟩)
  · rw [← HGE.out] at he
    subst he
    have HE := Lib.hid hE
    clear L2 hE
    go_wp2_with fail
    refine (ropen_calls (L3.map fun _ h => star_flip h) (loc_star (loc_dsk _ _ _) loc_emp) HW31.out).mono ?_
    rintro e w4 (⟨_, he, L4⟩ | ⟨hE', _⟩)
    · rw [← HGE.out] at he
      subst he
      have hC : Cur w d rd D0.opened (.pointer none) (.pointer none) w4 := .inl ⟨rfl, rfl, (opened_wait HW0.out).1, L4.map fun _ h => star_flip h⟩
      have HC := Lib.hid hC
      clear L3 L4 hC HE
      go_wp2_with fail
      go_loopw [10, 12, 14] (fun s10 s12 s14 wr => ∃ k : Nat, k ≤ n ∧ s14 = .int .i64 k ∧ ∃ D, Cur w d rd D s10 s12 wr) (fun _ _ s14 _ => n - (intOf s14).toNat)
      case atStart => exact ⟨0, Nat.zero_le _, rfl, _, HC.out⟩
      case round =>
        obtain ⟨k, hk, rfl, D, hcur⟩ := hrel
        have HCUR := Lib.hid hcur
        clear HC
        obtain ⟨hDw, hLd⟩ := hcur.disks
        have hle := disks_len hLd
        have HDW := Lib.hid hDw
        have HLE0 := Lib.hid hle
        by_cases hlt : k < n
        · obtain ⟨a, ha⟩ : ∃ a, acts[k]? = some a := ⟨_, List.getElem?_eq_getElem (by rw [← HN.out]; exact hlt)⟩
          obtain ⟨g, off, rfl, q0, q1, q2, q3⟩ := act_cells HS.out hLd.fr ha
          have HA := Lib.hid (HO.out a (List.mem_of_getElem? ha))
          have HAA := Lib.hid (HAI.out a (List.mem_of_getElem? ha))
          have hlX : Loc (Star (blkA wr.heap.size tAct7 (cellsA a)) Emp) := loc_star (loc_blk _ _ _) loc_emp
          clear ha hDw hle
          by_cases k6 : a.kind = 6
          · have t6 : (a.kind == 6) = true := by rw [beq_iff_eq]; exact k6
            have t5 : (a.kind == 5) = false := by rw [beq_eq_false_iff_ne, k6]; decide
            have L5 : Lv Nob w (Star (dskA kD d D) (Star (dskA kR rd D) (Star (blkA wr.heap.size tAct7 (cellsA a)) Emp))) (wr.alloc (.cells (cellsA a).toArray tAct7)) := (hLd.box (loc_star (loc_dsk _ _ _) (loc_star (loc_dsk _ _ _) loc_emp)) tAct7 (cellsA a)).map fun _ h => star_right (star_flip h) fun _ h => star_flip h
            obtain ⟨p1, p3⟩ := disk_cells L5
            clear hLd hcur HCUR k6
            go_wp2_with fail
            refine (L5.op ((d_crash a.keep HA.out.1 (by have := HDW.out; omega)).left (loc_star (loc_dsk _ _ _) hlX))).mono ?_
            rintro e w5 ⟨rfl, L6⟩
            obtain ⟨r1, r3⟩ := disk_cells L6
            clear L5 p1 p3
            go_wp2_with fail
            refine (L6.op (((r_crash a.keep HA.out.1 (by have := HDW.out; omega)).left hlX).right (loc_dsk _ _ _))).mono ?_
            rintro e w6 ⟨rfl, L7⟩
            clear L6 r1 r3
            obtain ⟨Dc, hDc⟩ : ∃ E, E = D.crash a.keep := ⟨_, rfl⟩
            have hDcw : Dc.wait = [] := by rw [hDc]; rfl
            have HDCW := Lib.hid hDcw
            have hle2 : Dc.opened.safe.length ≤ 544 := by rw [opened_safe, hDc]; show (puts D.safe _).length ≤ 544; rw [puts_length]; exact HLE0.out
            have HLE := Lib.hid hle2
            rw [← hDc] at L7
            obtain ⟨hE6, hhE6⟩ : ∃ s, s = Dc.openE := ⟨_, rfl⟩
            have HGE6 := Lib.hid hhE6
            have b6 : (hE6 == hE6) = true := by simp
            have hw31 : (Dc.wait.length + 31) * 24 ≤ 140737488355328 := by rw [hDcw]; decide
            have HW6 := Lib.hid hw31
            clear hDc hDcw hle2 hhE6 hw31
            go_wp2_with fail
            refine (open_calls L7 (loc_star (loc_dsk _ _ _) hlX) HW6.out).mono ?_
            rintro e w3' (⟨hE, he, L3⟩ | ⟨hE, b', rfl, L3⟩)
            · rw [← HGE6.out] at he
              subst he
              have HE := Lib.hid hE
              clear L7 hE
              go_wp2_with fail
              refine (ropen_calls (L3.map fun _ h => star_flip h) (loc_star (loc_dsk _ _ _) hlX) HW6.out).mono ?_
              rintro e w4' (⟨_, he, L4⟩ | ⟨hE', _⟩)
              · rw [← HGE6.out] at he
                subst he
                have hC : Cur w d rd Dc.opened (.pointer none) (.pointer none) w4' := .inl ⟨rfl, rfl, (opened_wait HDCW.out).1, L4.map fun _ h => star_right (star_flip h) fun _ h => star_less h⟩
                have HC2 := Lib.hid hC
                clear L3 L4 hC HE
                go_wp2_with fail
                go_roundw
                case rel => exact ⟨k + 1, hlt, by go_num, _, HC2.out⟩
                case measure => simp [intOf]; omega
              · exact absurd hE' HE.out
            · have HE := Lib.hid hE
              clear L7 hE
              go_wp2_with fail
              refine (ropen_calls (L3.map fun _ h => pullc h) (loc_star (loc_dsk _ _ _) (loc_star (loc_lg _ _ _ _) hlX)) HW6.out).mono ?_
              rintro e w4' (⟨hE', _⟩ | ⟨_, rb', rfl, L4⟩)
              · exact absurd HE.out hE'
              · have LM : MV Nob w b' d rb' rd ⟨Dc.opened, [], false⟩ ⟨Dc.opened, [], false⟩ (Star (blkA wr.heap.size tAct7 (cellsA a)) Emp) w4' := L4.map fun _ h => star_flip (pull4a h)
                have HPI := Lib.hid (pinv_new HDCW.out HE.out)
                obtain ⟨s0, s1, s2, s3⟩ := mv_act LM
                clear L3 L4 HE
                go_wp2_with fail
                refine (does_calls a LM hlX HPI.out.ok HLE.out HA.out.2 HPI.out.wait).mono ?_
                rintro e w8 ⟨rfl, L8⟩
                obtain ⟨M, hM⟩ : ∃ M, M = doesStep (LSt.mk Dc.opened [] false) a := ⟨_, rfl⟩
                have hpm : PInv M := by rw [hM]; exact pinv_does HPI.out a
                rw [← hM] at L8
                have HPM := Lib.hid hpm
                clear LM s0 s1 s2 s3 hM hpm
                obtain ⟨_, ⟨_, _, _, ⟨_, _, _, ⟨_, _, _, ⟨_, _, h6, _⟩, _⟩, _⟩, _⟩, _⟩ := (id L8)
                obtain ⟨bs, c5, sp, wv, h6⟩ := h6
                obtain ⟨ao5, cw5, rfl⟩ := row_any h6.wait
                have d0 := h6.head.cell (j := 0) rfl
                have d1 := h6.head.cell (j := 1) rfl
                have HSR := Lib.hid (h6.srcs c5)
                have HEL := Lib.hid h6.ok.len
                clear h6
                have hlM : Loc (Star (lgA b' d M.stg M.dead) (Star (dskA kD d M.D) (Star (rlA rb' rd M.stg M.dead) (Star (dskA kR rd M.D) (Star (blkA wr.heap.size tAct7 (cellsA a)) Emp))))) := LV.loc (MV.locB hlX)
                have L9 := Lv.drew L8 hlM
                have F9 : Fr Nob w8 w8.drew := (Fr.refl _ _).drew
                go_wp2_with fail
                go_region_held3 (fun w' => w'.cell? ⟨rd, 0, none⟩ = some (.slice (some ⟨bs, 0, none⟩) M.D.safe.length c5))
                  (first | go_keep | exact c07 | exact c08)
                  (first
                    | (go_at_call 14; obtain ⟨_, S7, _, _, h7, _⟩ := LV.parts L9; refine (image_calls h7).mono ?_; clear h7; rintro e w9 ⟨v, rfl, hrow, hnew, hf7⟩; obtain ⟨ao7, c7, rfl⟩ := row_any hrow; have F7 := F9.trans hf7; have c07 := F7.cell d0 (fun h => h); clear hnew)
                    | (go_at_call 13; refine (same_self (by have := HEL.out; omega) (row_srcs hrow (strs_one _)) (HSR.out.fr F7 (fun _ _ _ _ h => h))).mono ?_; rintro e w10 ⟨rfl, hf8⟩; have F8 := F7.trans hf8; have c08 := F8.cell d0 (fun h => h)))
                have c18 := F8.cell d1 (fun h => h)
                have L10 := Lv.keep L8 hlM F8
                clear L8 L9 hf7 hf8 hrow F9 F7 F8 c07 c08 d0 d1
                have HL10 := Lib.hid L10
                have hkp : ∀ p : FrFrom w10, MV Nob w b' d rb' rd M M (Star (blkA wr.heap.size tAct7 (cellsA a)) Emp) p.w := fun p => Lv.keep HL10.out hlM p.fr
                have HKP := Lib.hid hkp
                have hcp : ∀ p : FrFrom w10, p.w.cell? ⟨rd, 1, none⟩ = some (.slice ao5 M.D.wait.length cw5) := fun p => p.fr.cell c18 (fun h => h)
                have hst : ∀ p : FrFrom w10, Calls Tryz.prog 15 #[.pointer (some ⟨b', 0, none⟩)] p.w fun e w' => e = .returned (.int .i64 M.count) ∧ Fr Nob p.w w' := fun p => (lv_staged (HKP.out p)).mono fun _ _ ⟨h1, h2⟩ => ⟨h1, by subst h2; exact Fr.refl _ _⟩
                have hrst : ∀ p : FrFrom w10, Calls Tryz.prog 16 #[.pointer (some ⟨rb', 0, none⟩)] p.w fun e w' => e = .returned (.int .i64 M.count) ∧ Fr Nob p.w w' := fun p => (rstaged_calls (MV.ref (HKP.out p))).mono fun _ _ ⟨h1, h2⟩ => ⟨h1, by subst h2; exact Fr.refl _ _⟩
                have hho : ∀ p : FrFrom w10, Calls Tryz.prog 17 #[.pointer (some ⟨b', 0, none⟩)] p.w fun e w' => e = .returned (.int .i64 ((M.D.safe.length : Int) - 32)) ∧ Fr Nob p.w w' := fun p => (lv_home (HKP.out p)).mono fun _ _ ⟨h1, h2⟩ => ⟨h1, by subst h2; exact Fr.refl _ _⟩
                have hrho : ∀ p : FrFrom w10, Calls Tryz.prog 18 #[.pointer (some ⟨rb', 0, none⟩)] p.w fun e w' => e = .returned (.int .i64 ((M.D.safe.length : Int) - 32)) ∧ Fr Nob p.w w' := fun p => (rhome_calls (MV.ref (HKP.out p))).mono fun _ _ ⟨h1, h2⟩ => ⟨h1, by subst h2; exact Fr.refl _ _⟩
                have hwa : ∀ p : FrFrom w10, Calls Tryz.prog 19 #[.pointer (some ⟨d, 0, none⟩)] p.w fun e w' => e = .returned (.int .i64 M.D.wait.length) ∧ Fr Nob p.w w' := fun p => by
                  obtain ⟨_, _, _, _, h, _⟩ := LV.parts (HKP.out p)
                  exact (waiting_calls h).mono fun _ _ ⟨h1, h2⟩ => ⟨h1, by subst h2; exact Fr.refl _ _⟩
                have HST := Lib.hid hst
                have HRST := Lib.hid hrst
                have HHO := Lib.hid hho
                have HRHO := Lib.hid hrho
                have HWA := Lib.hid hwa
                clear hst hrst hho hrho hwa L10 c18 hkp
                go_wp2_with fail
                refine wp_region_from (by kernel_rfl) (by kernel_rfl) ?_
                repeat (quiet_step (first | (go_at_call 15; exact Calls.frfrom (HST.out _)) | (go_at_call 16; exact Calls.frfrom (HRST.out _)) | (go_at_call 17; exact Calls.frfrom (HHO.out _)) | (go_at_call 18; exact Calls.frfrom (HRHO.out _)) | (go_at_call 19; exact Calls.frfrom (HWA.out _))))
                refine wpQuiet_nil ?_
                rintro _ ⟨p, rfl⟩
                have LF := HKP.out p
                clear hcp
                go_wp2_with fail
                go_roundw
                case rel => exact ⟨k + 1, by omega, by go_num, M.D, .inr ⟨_, _, M.stg, M.dead, rfl, rfl, HPM.out, LF.map fun _ h => star_right h fun _ h => star_right h fun _ h => star_right h fun _ h => star_less h⟩⟩
                case measure => simp [intOf]; omega
          · have t6 : (a.kind == 6) = false := by rw [beq_eq_false_iff_ne]; exact k6
            have HLE := HLE0
            rcases HCUR.out with ⟨rfl, rfl, _, _⟩ | ⟨b, rb, stg, dead, rfl, rfl, hpi, hM⟩
            · by_cases k5 : a.kind = 5
              · have t5 : (a.kind == 5) = true := by rw [beq_iff_eq]; exact k5
                have L5 : Lv Nob w (Star (dskA kD d D) (Star (dskA kR rd D) (Star (blkA wr.heap.size tAct7 (cellsA a)) Emp))) (wr.alloc (.cells (cellsA a).toArray tAct7)) := (hLd.box (loc_star (loc_dsk _ _ _) (loc_star (loc_dsk _ _ _) loc_emp)) tAct7 (cellsA a)).map fun _ h => star_right (star_flip h) fun _ h => star_flip h
                obtain ⟨p1, p3⟩ := disk_cells L5
                clear hLd hcur HCUR k5 k6
                go_wp2_with fail
                refine (L5.op ((d_power a.i HAA.out).left (loc_star (loc_dsk _ _ _) hlX))).mono ?_
                rintro e w5 ⟨rfl, L6⟩
                obtain ⟨r1, r3⟩ := disk_cells L6
                clear L5 p1 p3
                go_wp2_with fail
                refine (L6.op (((r_power a.i HAA.out).left hlX).right (loc_dsk _ _ _))).mono ?_
                rintro e w6 ⟨rfl, L7⟩
                have hC : Cur w d rd (D.setPower a.i) (.pointer none) (.pointer none) w6 := .inl ⟨rfl, rfl, HDW.out, L7.map fun _ h => star_right h fun _ h => star_less h⟩
                have HC2 := Lib.hid hC
                clear L6 L7 r1 r3 hC
                go_wp2_with fail
                go_roundw
                case rel => exact ⟨k + 1, hlt, by go_num, _, HC2.out⟩
                case measure => simp [intOf]; omega
              · have t5 : (a.kind == 5) = false := by rw [beq_eq_false_iff_ne]; exact k5
                have hC : Cur w d rd D (.pointer none) (.pointer none) (wr.alloc (.cells (cellsA a).toArray tAct7)) := .inl ⟨rfl, rfl, HDW.out, hLd.alloc (loc_star (loc_dsk _ _ _) (loc_star (loc_dsk _ _ _) loc_emp)) _⟩
                have HC2 := Lib.hid hC
                clear hLd hcur HCUR k5 k6 hC
                go_wp2_with fail
                go_roundw
                case rel => exact ⟨k + 1, hlt, by go_num, _, HC2.out⟩
                case measure => simp [intOf]; omega
            · have HP0 := Lib.hid hpi
              have L5 : MV Nob w b d rb rd ⟨D, stg, dead⟩ ⟨D, stg, dead⟩ (Star (blkA wr.heap.size tAct7 (cellsA a)) Emp) (wr.alloc (.cells (cellsA a).toArray tAct7)) := (Lv.box hM (LV.loc (MV.locB loc_emp)) tAct7 (cellsA a)).map fun _ h => deep h
              obtain ⟨p0, p1, p2, p3⟩ := mv_act L5
              clear hLd hcur HCUR hM hpi
              by_cases k5 : a.kind = 5
              · have t5 : (a.kind == 5) = true := by rw [beq_iff_eq]; exact k5
                clear k5 k6
                go_wp2_with fail
                refine (mv_power L5 hlX a.i HAA.out).mono ?_
                rintro e w5 ⟨rfl, L6⟩
                obtain ⟨r0, r1, r2, r3⟩ := mv_act L6
                clear L5 p0 p1 p2 p3
                go_wp2_with fail
                refine (mv_rpower L6 hlX a.i HAA.out).mono ?_
                rintro e w6 ⟨rfl, L7⟩
                have LM : MV Nob w b d rb rd ⟨D.setPower a.i, stg, dead⟩ ⟨D.setPower a.i, stg, dead⟩ (Star (blkA wr.heap.size tAct7 (cellsA a)) Emp) w6 := L7
                have HPI := Lib.hid (show PInv ⟨D.setPower a.i, stg, dead⟩ from pinv_power HP0.out a.i)
                obtain ⟨s0, s1, s2, s3⟩ := mv_act LM
                clear L6 L7 r0 r1 r2 r3
                go_wp2_with fail
                refine (does_calls a LM hlX HPI.out.ok HLE.out HA.out.2 HPI.out.wait).mono ?_
                rintro e w8 ⟨rfl, L8⟩
                obtain ⟨M, hM⟩ : ∃ M, M = doesStep (LSt.mk (D.setPower a.i) stg dead) a := ⟨_, rfl⟩
                have hpm : PInv M := by rw [hM]; exact pinv_does HPI.out a
                rw [← hM] at L8
                have HPM := Lib.hid hpm
                clear LM s0 s1 s2 s3 hM hpm
                obtain ⟨_, ⟨_, _, _, ⟨_, _, _, ⟨_, _, _, ⟨_, _, h6, _⟩, _⟩, _⟩, _⟩, _⟩ := (id L8)
                obtain ⟨bs, c5, sp, wv, h6⟩ := h6
                obtain ⟨ao5, cw5, rfl⟩ := row_any h6.wait
                have d0 := h6.head.cell (j := 0) rfl
                have d1 := h6.head.cell (j := 1) rfl
                have HSR := Lib.hid (h6.srcs c5)
                have HEL := Lib.hid h6.ok.len
                clear h6
                have hlM : Loc (Star (lgA b d M.stg M.dead) (Star (dskA kD d M.D) (Star (rlA rb rd M.stg M.dead) (Star (dskA kR rd M.D) (Star (blkA wr.heap.size tAct7 (cellsA a)) Emp))))) := LV.loc (MV.locB hlX)
                have L9 := Lv.drew L8 hlM
                have F9 : Fr Nob w8 w8.drew := (Fr.refl _ _).drew
                go_wp2_with fail
                go_region_held3 (fun w' => w'.cell? ⟨rd, 0, none⟩ = some (.slice (some ⟨bs, 0, none⟩) M.D.safe.length c5))
                  (first | go_keep | exact c07 | exact c08)
                  (first
                    | (go_at_call 14; obtain ⟨_, S7, _, _, h7, _⟩ := LV.parts L9; refine (image_calls h7).mono ?_; clear h7; rintro e w9 ⟨v, rfl, hrow, hnew, hf7⟩; obtain ⟨ao7, c7, rfl⟩ := row_any hrow; have F7 := F9.trans hf7; have c07 := F7.cell d0 (fun h => h); clear hnew)
                    | (go_at_call 13; refine (same_self (by have := HEL.out; omega) (row_srcs hrow (strs_one _)) (HSR.out.fr F7 (fun _ _ _ _ h => h))).mono ?_; rintro e w10 ⟨rfl, hf8⟩; have F8 := F7.trans hf8; have c08 := F8.cell d0 (fun h => h)))
                have c18 := F8.cell d1 (fun h => h)
                have L10 := Lv.keep L8 hlM F8
                clear L8 L9 hf7 hf8 hrow F9 F7 F8 c07 c08 d0 d1
                have HL10 := Lib.hid L10
                have hkp : ∀ p : FrFrom w10, MV Nob w b d rb rd M M (Star (blkA wr.heap.size tAct7 (cellsA a)) Emp) p.w := fun p => Lv.keep HL10.out hlM p.fr
                have HKP := Lib.hid hkp
                have hcp : ∀ p : FrFrom w10, p.w.cell? ⟨rd, 1, none⟩ = some (.slice ao5 M.D.wait.length cw5) := fun p => p.fr.cell c18 (fun h => h)
                have hst : ∀ p : FrFrom w10, Calls Tryz.prog 15 #[.pointer (some ⟨b, 0, none⟩)] p.w fun e w' => e = .returned (.int .i64 M.count) ∧ Fr Nob p.w w' := fun p => (lv_staged (HKP.out p)).mono fun _ _ ⟨h1, h2⟩ => ⟨h1, by subst h2; exact Fr.refl _ _⟩
                have hrst : ∀ p : FrFrom w10, Calls Tryz.prog 16 #[.pointer (some ⟨rb, 0, none⟩)] p.w fun e w' => e = .returned (.int .i64 M.count) ∧ Fr Nob p.w w' := fun p => (rstaged_calls (MV.ref (HKP.out p))).mono fun _ _ ⟨h1, h2⟩ => ⟨h1, by subst h2; exact Fr.refl _ _⟩
                have hho : ∀ p : FrFrom w10, Calls Tryz.prog 17 #[.pointer (some ⟨b, 0, none⟩)] p.w fun e w' => e = .returned (.int .i64 ((M.D.safe.length : Int) - 32)) ∧ Fr Nob p.w w' := fun p => (lv_home (HKP.out p)).mono fun _ _ ⟨h1, h2⟩ => ⟨h1, by subst h2; exact Fr.refl _ _⟩
                have hrho : ∀ p : FrFrom w10, Calls Tryz.prog 18 #[.pointer (some ⟨rb, 0, none⟩)] p.w fun e w' => e = .returned (.int .i64 ((M.D.safe.length : Int) - 32)) ∧ Fr Nob p.w w' := fun p => (rhome_calls (MV.ref (HKP.out p))).mono fun _ _ ⟨h1, h2⟩ => ⟨h1, by subst h2; exact Fr.refl _ _⟩
                have hwa : ∀ p : FrFrom w10, Calls Tryz.prog 19 #[.pointer (some ⟨d, 0, none⟩)] p.w fun e w' => e = .returned (.int .i64 M.D.wait.length) ∧ Fr Nob p.w w' := fun p => by
                  obtain ⟨_, _, _, _, h, _⟩ := LV.parts (HKP.out p)
                  exact (waiting_calls h).mono fun _ _ ⟨h1, h2⟩ => ⟨h1, by subst h2; exact Fr.refl _ _⟩
                have HST := Lib.hid hst
                have HRST := Lib.hid hrst
                have HHO := Lib.hid hho
                have HRHO := Lib.hid hrho
                have HWA := Lib.hid hwa
                clear hst hrst hho hrho hwa L10 c18 hkp
                go_wp2_with fail
                refine wp_region_from (by kernel_rfl) (by kernel_rfl) ?_
                repeat (quiet_step (first | (go_at_call 15; exact Calls.frfrom (HST.out _)) | (go_at_call 16; exact Calls.frfrom (HRST.out _)) | (go_at_call 17; exact Calls.frfrom (HHO.out _)) | (go_at_call 18; exact Calls.frfrom (HRHO.out _)) | (go_at_call 19; exact Calls.frfrom (HWA.out _))))
                refine wpQuiet_nil ?_
                rintro _ ⟨p, rfl⟩
                have LF := HKP.out p
                clear hcp
                go_wp2_with fail
                go_roundw
                case rel => exact ⟨k + 1, by omega, by go_num, M.D, .inr ⟨_, _, M.stg, M.dead, rfl, rfl, HPM.out, LF.map fun _ h => star_right h fun _ h => star_right h fun _ h => star_right h fun _ h => star_less h⟩⟩
                case measure => simp [intOf]; omega
              · have t5 : (a.kind == 5) = false := by rw [beq_eq_false_iff_ne]; exact k5
                have HPI := HP0
                have LM := L5
                clear k5 k6 L5
                go_wp2_with fail
                refine (does_calls a LM hlX HPI.out.ok HLE.out HA.out.2 HPI.out.wait).mono ?_
                rintro e w8 ⟨rfl, L8⟩
                obtain ⟨M, hM⟩ : ∃ M, M = doesStep (LSt.mk D stg dead) a := ⟨_, rfl⟩
                have hpm : PInv M := by rw [hM]; exact pinv_does HPI.out a
                rw [← hM] at L8
                have HPM := Lib.hid hpm
                clear LM p0 p1 p2 p3 hM hpm
                obtain ⟨_, ⟨_, _, _, ⟨_, _, _, ⟨_, _, _, ⟨_, _, h6, _⟩, _⟩, _⟩, _⟩, _⟩ := (id L8)
                obtain ⟨bs, c5, sp, wv, h6⟩ := h6
                obtain ⟨ao5, cw5, rfl⟩ := row_any h6.wait
                have d0 := h6.head.cell (j := 0) rfl
                have d1 := h6.head.cell (j := 1) rfl
                have HSR := Lib.hid (h6.srcs c5)
                have HEL := Lib.hid h6.ok.len
                clear h6
                have hlM : Loc (Star (lgA b d M.stg M.dead) (Star (dskA kD d M.D) (Star (rlA rb rd M.stg M.dead) (Star (dskA kR rd M.D) (Star (blkA wr.heap.size tAct7 (cellsA a)) Emp))))) := LV.loc (MV.locB hlX)
                have L9 := Lv.drew L8 hlM
                have F9 : Fr Nob w8 w8.drew := (Fr.refl _ _).drew
                go_wp2_with fail
                go_region_held3 (fun w' => w'.cell? ⟨rd, 0, none⟩ = some (.slice (some ⟨bs, 0, none⟩) M.D.safe.length c5))
                  (first | go_keep | exact c07 | exact c08)
                  (first
                    | (go_at_call 14; obtain ⟨_, S7, _, _, h7, _⟩ := LV.parts L9; refine (image_calls h7).mono ?_; clear h7; rintro e w9 ⟨v, rfl, hrow, hnew, hf7⟩; obtain ⟨ao7, c7, rfl⟩ := row_any hrow; have F7 := F9.trans hf7; have c07 := F7.cell d0 (fun h => h); clear hnew)
                    | (go_at_call 13; refine (same_self (by have := HEL.out; omega) (row_srcs hrow (strs_one _)) (HSR.out.fr F7 (fun _ _ _ _ h => h))).mono ?_; rintro e w10 ⟨rfl, hf8⟩; have F8 := F7.trans hf8; have c08 := F8.cell d0 (fun h => h)))
                have c18 := F8.cell d1 (fun h => h)
                have L10 := Lv.keep L8 hlM F8
                clear L8 L9 hf7 hf8 hrow F9 F7 F8 c07 c08 d0 d1
                have HL10 := Lib.hid L10
                have hkp : ∀ p : FrFrom w10, MV Nob w b d rb rd M M (Star (blkA wr.heap.size tAct7 (cellsA a)) Emp) p.w := fun p => Lv.keep HL10.out hlM p.fr
                have HKP := Lib.hid hkp
                have hcp : ∀ p : FrFrom w10, p.w.cell? ⟨rd, 1, none⟩ = some (.slice ao5 M.D.wait.length cw5) := fun p => p.fr.cell c18 (fun h => h)
                have hst : ∀ p : FrFrom w10, Calls Tryz.prog 15 #[.pointer (some ⟨b, 0, none⟩)] p.w fun e w' => e = .returned (.int .i64 M.count) ∧ Fr Nob p.w w' := fun p => (lv_staged (HKP.out p)).mono fun _ _ ⟨h1, h2⟩ => ⟨h1, by subst h2; exact Fr.refl _ _⟩
                have hrst : ∀ p : FrFrom w10, Calls Tryz.prog 16 #[.pointer (some ⟨rb, 0, none⟩)] p.w fun e w' => e = .returned (.int .i64 M.count) ∧ Fr Nob p.w w' := fun p => (rstaged_calls (MV.ref (HKP.out p))).mono fun _ _ ⟨h1, h2⟩ => ⟨h1, by subst h2; exact Fr.refl _ _⟩
                have hho : ∀ p : FrFrom w10, Calls Tryz.prog 17 #[.pointer (some ⟨b, 0, none⟩)] p.w fun e w' => e = .returned (.int .i64 ((M.D.safe.length : Int) - 32)) ∧ Fr Nob p.w w' := fun p => (lv_home (HKP.out p)).mono fun _ _ ⟨h1, h2⟩ => ⟨h1, by subst h2; exact Fr.refl _ _⟩
                have hrho : ∀ p : FrFrom w10, Calls Tryz.prog 18 #[.pointer (some ⟨rb, 0, none⟩)] p.w fun e w' => e = .returned (.int .i64 ((M.D.safe.length : Int) - 32)) ∧ Fr Nob p.w w' := fun p => (rhome_calls (MV.ref (HKP.out p))).mono fun _ _ ⟨h1, h2⟩ => ⟨h1, by subst h2; exact Fr.refl _ _⟩
                have hwa : ∀ p : FrFrom w10, Calls Tryz.prog 19 #[.pointer (some ⟨d, 0, none⟩)] p.w fun e w' => e = .returned (.int .i64 M.D.wait.length) ∧ Fr Nob p.w w' := fun p => by
                  obtain ⟨_, _, _, _, h, _⟩ := LV.parts (HKP.out p)
                  exact (waiting_calls h).mono fun _ _ ⟨h1, h2⟩ => ⟨h1, by subst h2; exact Fr.refl _ _⟩
                have HST := Lib.hid hst
                have HRST := Lib.hid hrst
                have HHO := Lib.hid hho
                have HRHO := Lib.hid hrho
                have HWA := Lib.hid hwa
                clear hst hrst hho hrho hwa L10 c18 hkp
                go_wp2_with fail
                refine wp_region_from (by kernel_rfl) (by kernel_rfl) ?_
                repeat (quiet_step (first | (go_at_call 15; exact Calls.frfrom (HST.out _)) | (go_at_call 16; exact Calls.frfrom (HRST.out _)) | (go_at_call 17; exact Calls.frfrom (HHO.out _)) | (go_at_call 18; exact Calls.frfrom (HRHO.out _)) | (go_at_call 19; exact Calls.frfrom (HWA.out _))))
                refine wpQuiet_nil ?_
                rintro _ ⟨p, rfl⟩
                have LF := HKP.out p
                clear hcp
                go_wp2_with fail
                go_roundw
                case rel => exact ⟨k + 1, by omega, by go_num, M.D, .inr ⟨_, _, M.stg, M.dead, rfl, rfl, HPM.out, LF.map fun _ h => star_right h fun _ h => star_right h fun _ h => star_right h fun _ h => star_less h⟩⟩
                case measure => simp [intOf]; omega
        · obtain rfl : k = n := by omega
          have HF := Lib.hid hLd.fr
          clear hLd hcur HCUR
          go_wp2_with fail
          go_ret
          exact ⟨rfl, HF.out⟩
    · exact absurd hE' HE.out
  · have HE := Lib.hid hE
    clear L2 hE
    go_wp2_with fail
    refine (ropen_calls (L3.map fun _ h => pullc h) (loc_star (loc_dsk _ _ _) (loc_star (loc_lg _ _ _ _) loc_emp)) HW31.out).mono ?_
    rintro e w4 (⟨hE', _⟩ | ⟨_, rb, rfl, L4⟩)
    · exact absurd HE.out hE'
    · have hC : Cur w d rd D0.opened (.pointer (some ⟨b, 0, none⟩)) (.pointer (some ⟨rb, 0, none⟩)) w4 := .inr ⟨b, rb, [], false, rfl, rfl, pinv_new HW0.out HE.out, L4.map fun _ h => by
        exact star_flip (pull4a h)⟩
      have HC := Lib.hid hC
      clear L3 L4 hC HE
      go_wp2_with fail
      go_loopw [10, 12, 14] (fun s10 s12 s14 wr => ∃ k : Nat, k ≤ n ∧ s14 = .int .i64 k ∧ ∃ D, Cur w d rd D s10 s12 wr) (fun _ _ s14 _ => n - (intOf s14).toNat)
      case atStart => exact ⟨0, Nat.zero_le _, rfl, _, HC.out⟩
      case round =>
        obtain ⟨k, hk, rfl, D, hcur⟩ := hrel
        have HCUR := Lib.hid hcur
        clear HC
        obtain ⟨hDw, hLd⟩ := hcur.disks
        have hle := disks_len hLd
        have HDW := Lib.hid hDw
        have HLE0 := Lib.hid hle
        by_cases hlt : k < n
        · obtain ⟨a, ha⟩ : ∃ a, acts[k]? = some a := ⟨_, List.getElem?_eq_getElem (by rw [← HN.out]; exact hlt)⟩
          obtain ⟨g, off, rfl, q0, q1, q2, q3⟩ := act_cells HS.out hLd.fr ha
          have HA := Lib.hid (HO.out a (List.mem_of_getElem? ha))
          have HAA := Lib.hid (HAI.out a (List.mem_of_getElem? ha))
          have hlX : Loc (Star (blkA wr.heap.size tAct7 (cellsA a)) Emp) := loc_star (loc_blk _ _ _) loc_emp
          clear ha hDw hle
          by_cases k6 : a.kind = 6
          · have t6 : (a.kind == 6) = true := by rw [beq_iff_eq]; exact k6
            have t5 : (a.kind == 5) = false := by rw [beq_eq_false_iff_ne, k6]; decide
            have L5 : Lv Nob w (Star (dskA kD d D) (Star (dskA kR rd D) (Star (blkA wr.heap.size tAct7 (cellsA a)) Emp))) (wr.alloc (.cells (cellsA a).toArray tAct7)) := (hLd.box (loc_star (loc_dsk _ _ _) (loc_star (loc_dsk _ _ _) loc_emp)) tAct7 (cellsA a)).map fun _ h => star_right (star_flip h) fun _ h => star_flip h
            obtain ⟨p1, p3⟩ := disk_cells L5
            clear hLd hcur HCUR k6
            go_wp2_with fail
            refine (L5.op ((d_crash a.keep HA.out.1 (by have := HDW.out; omega)).left (loc_star (loc_dsk _ _ _) hlX))).mono ?_
            rintro e w5 ⟨rfl, L6⟩
            obtain ⟨r1, r3⟩ := disk_cells L6
            clear L5 p1 p3
            go_wp2_with fail
            refine (L6.op (((r_crash a.keep HA.out.1 (by have := HDW.out; omega)).left hlX).right (loc_dsk _ _ _))).mono ?_
            rintro e w6 ⟨rfl, L7⟩
            clear L6 r1 r3
            obtain ⟨Dc, hDc⟩ : ∃ E, E = D.crash a.keep := ⟨_, rfl⟩
            have hDcw : Dc.wait = [] := by rw [hDc]; rfl
            have HDCW := Lib.hid hDcw
            have hle2 : Dc.opened.safe.length ≤ 544 := by rw [opened_safe, hDc]; show (puts D.safe _).length ≤ 544; rw [puts_length]; exact HLE0.out
            have HLE := Lib.hid hle2
            rw [← hDc] at L7
            obtain ⟨hE6, hhE6⟩ : ∃ s, s = Dc.openE := ⟨_, rfl⟩
            have HGE6 := Lib.hid hhE6
            have b6 : (hE6 == hE6) = true := by simp
            have hw31 : (Dc.wait.length + 31) * 24 ≤ 140737488355328 := by rw [hDcw]; decide
            have HW6 := Lib.hid hw31
            clear hDc hDcw hle2 hhE6 hw31
            go_wp2_with fail
            refine (open_calls L7 (loc_star (loc_dsk _ _ _) hlX) HW6.out).mono ?_
            rintro e w3' (⟨hE, he, L3⟩ | ⟨hE, b', rfl, L3⟩)
            · rw [← HGE6.out] at he
              subst he
              have HE := Lib.hid hE
              clear L7 hE
              go_wp2_with fail
              refine (ropen_calls (L3.map fun _ h => star_flip h) (loc_star (loc_dsk _ _ _) hlX) HW6.out).mono ?_
              rintro e w4' (⟨_, he, L4⟩ | ⟨hE', _⟩)
              · rw [← HGE6.out] at he
                subst he
                have hC : Cur w d rd Dc.opened (.pointer none) (.pointer none) w4' := .inl ⟨rfl, rfl, (opened_wait HDCW.out).1, L4.map fun _ h => star_right (star_flip h) fun _ h => star_less h⟩
                have HC2 := Lib.hid hC
                clear L3 L4 hC HE
                go_wp2_with fail
                go_roundw
                case rel => exact ⟨k + 1, hlt, by go_num, _, HC2.out⟩
                case measure => simp [intOf]; omega
              · exact absurd hE' HE.out
            · have HE := Lib.hid hE
              clear L7 hE
              go_wp2_with fail
              refine (ropen_calls (L3.map fun _ h => pullc h) (loc_star (loc_dsk _ _ _) (loc_star (loc_lg _ _ _ _) hlX)) HW6.out).mono ?_
              rintro e w4' (⟨hE', _⟩ | ⟨_, rb', rfl, L4⟩)
              · exact absurd HE.out hE'
              · have LM : MV Nob w b' d rb' rd ⟨Dc.opened, [], false⟩ ⟨Dc.opened, [], false⟩ (Star (blkA wr.heap.size tAct7 (cellsA a)) Emp) w4' := L4.map fun _ h => star_flip (pull4a h)
                have HPI := Lib.hid (pinv_new HDCW.out HE.out)
                obtain ⟨s0, s1, s2, s3⟩ := mv_act LM
                clear L3 L4 HE
                go_wp2_with fail
                refine (does_calls a LM hlX HPI.out.ok HLE.out HA.out.2 HPI.out.wait).mono ?_
                rintro e w8 ⟨rfl, L8⟩
                obtain ⟨M, hM⟩ : ∃ M, M = doesStep (LSt.mk Dc.opened [] false) a := ⟨_, rfl⟩
                have hpm : PInv M := by rw [hM]; exact pinv_does HPI.out a
                rw [← hM] at L8
                have HPM := Lib.hid hpm
                clear LM s0 s1 s2 s3 hM hpm
                obtain ⟨_, ⟨_, _, _, ⟨_, _, _, ⟨_, _, _, ⟨_, _, h6, _⟩, _⟩, _⟩, _⟩, _⟩ := (id L8)
                obtain ⟨bs, c5, sp, wv, h6⟩ := h6
                obtain ⟨ao5, cw5, rfl⟩ := row_any h6.wait
                have d0 := h6.head.cell (j := 0) rfl
                have d1 := h6.head.cell (j := 1) rfl
                have HSR := Lib.hid (h6.srcs c5)
                have HEL := Lib.hid h6.ok.len
                clear h6
                have hlM : Loc (Star (lgA b' d M.stg M.dead) (Star (dskA kD d M.D) (Star (rlA rb' rd M.stg M.dead) (Star (dskA kR rd M.D) (Star (blkA wr.heap.size tAct7 (cellsA a)) Emp))))) := LV.loc (MV.locB hlX)
                have L9 := Lv.drew L8 hlM
                have F9 : Fr Nob w8 w8.drew := (Fr.refl _ _).drew
                go_wp2_with fail
                go_region_held3 (fun w' => w'.cell? ⟨rd, 0, none⟩ = some (.slice (some ⟨bs, 0, none⟩) M.D.safe.length c5))
                  (first | go_keep | exact c07 | exact c08)
                  (first
                    | (go_at_call 14; obtain ⟨_, S7, _, _, h7, _⟩ := LV.parts L9; refine (image_calls h7).mono ?_; clear h7; rintro e w9 ⟨v, rfl, hrow, hnew, hf7⟩; obtain ⟨ao7, c7, rfl⟩ := row_any hrow; have F7 := F9.trans hf7; have c07 := F7.cell d0 (fun h => h); clear hnew)
                    | (go_at_call 13; refine (same_self (by have := HEL.out; omega) (row_srcs hrow (strs_one _)) (HSR.out.fr F7 (fun _ _ _ _ h => h))).mono ?_; rintro e w10 ⟨rfl, hf8⟩; have F8 := F7.trans hf8; have c08 := F8.cell d0 (fun h => h)))
                have c18 := F8.cell d1 (fun h => h)
                have L10 := Lv.keep L8 hlM F8
                clear L8 L9 hf7 hf8 hrow F9 F7 F8 c07 c08 d0 d1
                have HL10 := Lib.hid L10
                have hkp : ∀ p : FrFrom w10, MV Nob w b' d rb' rd M M (Star (blkA wr.heap.size tAct7 (cellsA a)) Emp) p.w := fun p => Lv.keep HL10.out hlM p.fr
                have HKP := Lib.hid hkp
                have hcp : ∀ p : FrFrom w10, p.w.cell? ⟨rd, 1, none⟩ = some (.slice ao5 M.D.wait.length cw5) := fun p => p.fr.cell c18 (fun h => h)
                have hst : ∀ p : FrFrom w10, Calls Tryz.prog 15 #[.pointer (some ⟨b', 0, none⟩)] p.w fun e w' => e = .returned (.int .i64 M.count) ∧ Fr Nob p.w w' := fun p => (lv_staged (HKP.out p)).mono fun _ _ ⟨h1, h2⟩ => ⟨h1, by subst h2; exact Fr.refl _ _⟩
                have hrst : ∀ p : FrFrom w10, Calls Tryz.prog 16 #[.pointer (some ⟨rb', 0, none⟩)] p.w fun e w' => e = .returned (.int .i64 M.count) ∧ Fr Nob p.w w' := fun p => (rstaged_calls (MV.ref (HKP.out p))).mono fun _ _ ⟨h1, h2⟩ => ⟨h1, by subst h2; exact Fr.refl _ _⟩
                have hho : ∀ p : FrFrom w10, Calls Tryz.prog 17 #[.pointer (some ⟨b', 0, none⟩)] p.w fun e w' => e = .returned (.int .i64 ((M.D.safe.length : Int) - 32)) ∧ Fr Nob p.w w' := fun p => (lv_home (HKP.out p)).mono fun _ _ ⟨h1, h2⟩ => ⟨h1, by subst h2; exact Fr.refl _ _⟩
                have hrho : ∀ p : FrFrom w10, Calls Tryz.prog 18 #[.pointer (some ⟨rb', 0, none⟩)] p.w fun e w' => e = .returned (.int .i64 ((M.D.safe.length : Int) - 32)) ∧ Fr Nob p.w w' := fun p => (rhome_calls (MV.ref (HKP.out p))).mono fun _ _ ⟨h1, h2⟩ => ⟨h1, by subst h2; exact Fr.refl _ _⟩
                have hwa : ∀ p : FrFrom w10, Calls Tryz.prog 19 #[.pointer (some ⟨d, 0, none⟩)] p.w fun e w' => e = .returned (.int .i64 M.D.wait.length) ∧ Fr Nob p.w w' := fun p => by
                  obtain ⟨_, _, _, _, h, _⟩ := LV.parts (HKP.out p)
                  exact (waiting_calls h).mono fun _ _ ⟨h1, h2⟩ => ⟨h1, by subst h2; exact Fr.refl _ _⟩
                have HST := Lib.hid hst
                have HRST := Lib.hid hrst
                have HHO := Lib.hid hho
                have HRHO := Lib.hid hrho
                have HWA := Lib.hid hwa
                clear hst hrst hho hrho hwa L10 c18 hkp
                go_wp2_with fail
                refine wp_region_from (by kernel_rfl) (by kernel_rfl) ?_
                repeat (quiet_step (first | (go_at_call 15; exact Calls.frfrom (HST.out _)) | (go_at_call 16; exact Calls.frfrom (HRST.out _)) | (go_at_call 17; exact Calls.frfrom (HHO.out _)) | (go_at_call 18; exact Calls.frfrom (HRHO.out _)) | (go_at_call 19; exact Calls.frfrom (HWA.out _))))
                refine wpQuiet_nil ?_
                rintro _ ⟨p, rfl⟩
                have LF := HKP.out p
                clear hcp
                go_wp2_with fail
                go_roundw
                case rel => exact ⟨k + 1, by omega, by go_num, M.D, .inr ⟨_, _, M.stg, M.dead, rfl, rfl, HPM.out, LF.map fun _ h => star_right h fun _ h => star_right h fun _ h => star_right h fun _ h => star_less h⟩⟩
                case measure => simp [intOf]; omega
          · have t6 : (a.kind == 6) = false := by rw [beq_eq_false_iff_ne]; exact k6
            have HLE := HLE0
            rcases HCUR.out with ⟨rfl, rfl, _, _⟩ | ⟨b, rb, stg, dead, rfl, rfl, hpi, hM⟩
            · by_cases k5 : a.kind = 5
              · have t5 : (a.kind == 5) = true := by rw [beq_iff_eq]; exact k5
                have L5 : Lv Nob w (Star (dskA kD d D) (Star (dskA kR rd D) (Star (blkA wr.heap.size tAct7 (cellsA a)) Emp))) (wr.alloc (.cells (cellsA a).toArray tAct7)) := (hLd.box (loc_star (loc_dsk _ _ _) (loc_star (loc_dsk _ _ _) loc_emp)) tAct7 (cellsA a)).map fun _ h => star_right (star_flip h) fun _ h => star_flip h
                obtain ⟨p1, p3⟩ := disk_cells L5
                clear hLd hcur HCUR k5 k6
                go_wp2_with fail
                refine (L5.op ((d_power a.i HAA.out).left (loc_star (loc_dsk _ _ _) hlX))).mono ?_
                rintro e w5 ⟨rfl, L6⟩
                obtain ⟨r1, r3⟩ := disk_cells L6
                clear L5 p1 p3
                go_wp2_with fail
                refine (L6.op (((r_power a.i HAA.out).left hlX).right (loc_dsk _ _ _))).mono ?_
                rintro e w6 ⟨rfl, L7⟩
                have hC : Cur w d rd (D.setPower a.i) (.pointer none) (.pointer none) w6 := .inl ⟨rfl, rfl, HDW.out, L7.map fun _ h => star_right h fun _ h => star_less h⟩
                have HC2 := Lib.hid hC
                clear L6 L7 r1 r3 hC
                go_wp2_with fail
                go_roundw
                case rel => exact ⟨k + 1, hlt, by go_num, _, HC2.out⟩
                case measure => simp [intOf]; omega
              · have t5 : (a.kind == 5) = false := by rw [beq_eq_false_iff_ne]; exact k5
                have hC : Cur w d rd D (.pointer none) (.pointer none) (wr.alloc (.cells (cellsA a).toArray tAct7)) := .inl ⟨rfl, rfl, HDW.out, hLd.alloc (loc_star (loc_dsk _ _ _) (loc_star (loc_dsk _ _ _) loc_emp)) _⟩
                have HC2 := Lib.hid hC
                clear hLd hcur HCUR k5 k6 hC
                go_wp2_with fail
                go_roundw
                case rel => exact ⟨k + 1, hlt, by go_num, _, HC2.out⟩
                case measure => simp [intOf]; omega
            · have HP0 := Lib.hid hpi
              have L5 : MV Nob w b d rb rd ⟨D, stg, dead⟩ ⟨D, stg, dead⟩ (Star (blkA wr.heap.size tAct7 (cellsA a)) Emp) (wr.alloc (.cells (cellsA a).toArray tAct7)) := (Lv.box hM (LV.loc (MV.locB loc_emp)) tAct7 (cellsA a)).map fun _ h => deep h
              obtain ⟨p0, p1, p2, p3⟩ := mv_act L5
              clear hLd hcur HCUR hM hpi
              by_cases k5 : a.kind = 5
              · have t5 : (a.kind == 5) = true := by rw [beq_iff_eq]; exact k5
                clear k5 k6
                go_wp2_with fail
                refine (mv_power L5 hlX a.i HAA.out).mono ?_
                rintro e w5 ⟨rfl, L6⟩
                obtain ⟨r0, r1, r2, r3⟩ := mv_act L6
                clear L5 p0 p1 p2 p3
                go_wp2_with fail
                refine (mv_rpower L6 hlX a.i HAA.out).mono ?_
                rintro e w6 ⟨rfl, L7⟩
                have LM : MV Nob w b d rb rd ⟨D.setPower a.i, stg, dead⟩ ⟨D.setPower a.i, stg, dead⟩ (Star (blkA wr.heap.size tAct7 (cellsA a)) Emp) w6 := L7
                have HPI := Lib.hid (show PInv ⟨D.setPower a.i, stg, dead⟩ from pinv_power HP0.out a.i)
                obtain ⟨s0, s1, s2, s3⟩ := mv_act LM
                clear L6 L7 r0 r1 r2 r3
                go_wp2_with fail
                refine (does_calls a LM hlX HPI.out.ok HLE.out HA.out.2 HPI.out.wait).mono ?_
                rintro e w8 ⟨rfl, L8⟩
                obtain ⟨M, hM⟩ : ∃ M, M = doesStep (LSt.mk (D.setPower a.i) stg dead) a := ⟨_, rfl⟩
                have hpm : PInv M := by rw [hM]; exact pinv_does HPI.out a
                rw [← hM] at L8
                have HPM := Lib.hid hpm
                clear LM s0 s1 s2 s3 hM hpm
                obtain ⟨_, ⟨_, _, _, ⟨_, _, _, ⟨_, _, _, ⟨_, _, h6, _⟩, _⟩, _⟩, _⟩, _⟩ := (id L8)
                obtain ⟨bs, c5, sp, wv, h6⟩ := h6
                obtain ⟨ao5, cw5, rfl⟩ := row_any h6.wait
                have d0 := h6.head.cell (j := 0) rfl
                have d1 := h6.head.cell (j := 1) rfl
                have HSR := Lib.hid (h6.srcs c5)
                have HEL := Lib.hid h6.ok.len
                clear h6
                have hlM : Loc (Star (lgA b d M.stg M.dead) (Star (dskA kD d M.D) (Star (rlA rb rd M.stg M.dead) (Star (dskA kR rd M.D) (Star (blkA wr.heap.size tAct7 (cellsA a)) Emp))))) := LV.loc (MV.locB hlX)
                have L9 := Lv.drew L8 hlM
                have F9 : Fr Nob w8 w8.drew := (Fr.refl _ _).drew
                go_wp2_with fail
                go_region_held3 (fun w' => w'.cell? ⟨rd, 0, none⟩ = some (.slice (some ⟨bs, 0, none⟩) M.D.safe.length c5))
                  (first | go_keep | exact c07 | exact c08)
                  (first
                    | (go_at_call 14; obtain ⟨_, S7, _, _, h7, _⟩ := LV.parts L9; refine (image_calls h7).mono ?_; clear h7; rintro e w9 ⟨v, rfl, hrow, hnew, hf7⟩; obtain ⟨ao7, c7, rfl⟩ := row_any hrow; have F7 := F9.trans hf7; have c07 := F7.cell d0 (fun h => h); clear hnew)
                    | (go_at_call 13; refine (same_self (by have := HEL.out; omega) (row_srcs hrow (strs_one _)) (HSR.out.fr F7 (fun _ _ _ _ h => h))).mono ?_; rintro e w10 ⟨rfl, hf8⟩; have F8 := F7.trans hf8; have c08 := F8.cell d0 (fun h => h)))
                have c18 := F8.cell d1 (fun h => h)
                have L10 := Lv.keep L8 hlM F8
                clear L8 L9 hf7 hf8 hrow F9 F7 F8 c07 c08 d0 d1
                have HL10 := Lib.hid L10
                have hkp : ∀ p : FrFrom w10, MV Nob w b d rb rd M M (Star (blkA wr.heap.size tAct7 (cellsA a)) Emp) p.w := fun p => Lv.keep HL10.out hlM p.fr
                have HKP := Lib.hid hkp
                have hcp : ∀ p : FrFrom w10, p.w.cell? ⟨rd, 1, none⟩ = some (.slice ao5 M.D.wait.length cw5) := fun p => p.fr.cell c18 (fun h => h)
                have hst : ∀ p : FrFrom w10, Calls Tryz.prog 15 #[.pointer (some ⟨b, 0, none⟩)] p.w fun e w' => e = .returned (.int .i64 M.count) ∧ Fr Nob p.w w' := fun p => (lv_staged (HKP.out p)).mono fun _ _ ⟨h1, h2⟩ => ⟨h1, by subst h2; exact Fr.refl _ _⟩
                have hrst : ∀ p : FrFrom w10, Calls Tryz.prog 16 #[.pointer (some ⟨rb, 0, none⟩)] p.w fun e w' => e = .returned (.int .i64 M.count) ∧ Fr Nob p.w w' := fun p => (rstaged_calls (MV.ref (HKP.out p))).mono fun _ _ ⟨h1, h2⟩ => ⟨h1, by subst h2; exact Fr.refl _ _⟩
                have hho : ∀ p : FrFrom w10, Calls Tryz.prog 17 #[.pointer (some ⟨b, 0, none⟩)] p.w fun e w' => e = .returned (.int .i64 ((M.D.safe.length : Int) - 32)) ∧ Fr Nob p.w w' := fun p => (lv_home (HKP.out p)).mono fun _ _ ⟨h1, h2⟩ => ⟨h1, by subst h2; exact Fr.refl _ _⟩
                have hrho : ∀ p : FrFrom w10, Calls Tryz.prog 18 #[.pointer (some ⟨rb, 0, none⟩)] p.w fun e w' => e = .returned (.int .i64 ((M.D.safe.length : Int) - 32)) ∧ Fr Nob p.w w' := fun p => (rhome_calls (MV.ref (HKP.out p))).mono fun _ _ ⟨h1, h2⟩ => ⟨h1, by subst h2; exact Fr.refl _ _⟩
                have hwa : ∀ p : FrFrom w10, Calls Tryz.prog 19 #[.pointer (some ⟨d, 0, none⟩)] p.w fun e w' => e = .returned (.int .i64 M.D.wait.length) ∧ Fr Nob p.w w' := fun p => by
                  obtain ⟨_, _, _, _, h, _⟩ := LV.parts (HKP.out p)
                  exact (waiting_calls h).mono fun _ _ ⟨h1, h2⟩ => ⟨h1, by subst h2; exact Fr.refl _ _⟩
                have HST := Lib.hid hst
                have HRST := Lib.hid hrst
                have HHO := Lib.hid hho
                have HRHO := Lib.hid hrho
                have HWA := Lib.hid hwa
                clear hst hrst hho hrho hwa L10 c18 hkp
                go_wp2_with fail
                refine wp_region_from (by kernel_rfl) (by kernel_rfl) ?_
                repeat (quiet_step (first | (go_at_call 15; exact Calls.frfrom (HST.out _)) | (go_at_call 16; exact Calls.frfrom (HRST.out _)) | (go_at_call 17; exact Calls.frfrom (HHO.out _)) | (go_at_call 18; exact Calls.frfrom (HRHO.out _)) | (go_at_call 19; exact Calls.frfrom (HWA.out _))))
                refine wpQuiet_nil ?_
                rintro _ ⟨p, rfl⟩
                have LF := HKP.out p
                clear hcp
                go_wp2_with fail
                go_roundw
                case rel => exact ⟨k + 1, by omega, by go_num, M.D, .inr ⟨_, _, M.stg, M.dead, rfl, rfl, HPM.out, LF.map fun _ h => star_right h fun _ h => star_right h fun _ h => star_right h fun _ h => star_less h⟩⟩
                case measure => simp [intOf]; omega
              · have t5 : (a.kind == 5) = false := by rw [beq_eq_false_iff_ne]; exact k5
                have HPI := HP0
                have LM := L5
                clear k5 k6 L5
                go_wp2_with fail
                refine (does_calls a LM hlX HPI.out.ok HLE.out HA.out.2 HPI.out.wait).mono ?_
                rintro e w8 ⟨rfl, L8⟩
                obtain ⟨M, hM⟩ : ∃ M, M = doesStep (LSt.mk D stg dead) a := ⟨_, rfl⟩
                have hpm : PInv M := by rw [hM]; exact pinv_does HPI.out a
                rw [← hM] at L8
                have HPM := Lib.hid hpm
                clear LM p0 p1 p2 p3 hM hpm
                obtain ⟨_, ⟨_, _, _, ⟨_, _, _, ⟨_, _, _, ⟨_, _, h6, _⟩, _⟩, _⟩, _⟩, _⟩ := (id L8)
                obtain ⟨bs, c5, sp, wv, h6⟩ := h6
                obtain ⟨ao5, cw5, rfl⟩ := row_any h6.wait
                have d0 := h6.head.cell (j := 0) rfl
                have d1 := h6.head.cell (j := 1) rfl
                have HSR := Lib.hid (h6.srcs c5)
                have HEL := Lib.hid h6.ok.len
                clear h6
                have hlM : Loc (Star (lgA b d M.stg M.dead) (Star (dskA kD d M.D) (Star (rlA rb rd M.stg M.dead) (Star (dskA kR rd M.D) (Star (blkA wr.heap.size tAct7 (cellsA a)) Emp))))) := LV.loc (MV.locB hlX)
                have L9 := Lv.drew L8 hlM
                have F9 : Fr Nob w8 w8.drew := (Fr.refl _ _).drew
                go_wp2_with fail
                go_region_held3 (fun w' => w'.cell? ⟨rd, 0, none⟩ = some (.slice (some ⟨bs, 0, none⟩) M.D.safe.length c5))
                  (first | go_keep | exact c07 | exact c08)
                  (first
                    | (go_at_call 14; obtain ⟨_, S7, _, _, h7, _⟩ := LV.parts L9; refine (image_calls h7).mono ?_; clear h7; rintro e w9 ⟨v, rfl, hrow, hnew, hf7⟩; obtain ⟨ao7, c7, rfl⟩ := row_any hrow; have F7 := F9.trans hf7; have c07 := F7.cell d0 (fun h => h); clear hnew)
                    | (go_at_call 13; refine (same_self (by have := HEL.out; omega) (row_srcs hrow (strs_one _)) (HSR.out.fr F7 (fun _ _ _ _ h => h))).mono ?_; rintro e w10 ⟨rfl, hf8⟩; have F8 := F7.trans hf8; have c08 := F8.cell d0 (fun h => h)))
                have c18 := F8.cell d1 (fun h => h)
                have L10 := Lv.keep L8 hlM F8
                clear L8 L9 hf7 hf8 hrow F9 F7 F8 c07 c08 d0 d1
                have HL10 := Lib.hid L10
                have hkp : ∀ p : FrFrom w10, MV Nob w b d rb rd M M (Star (blkA wr.heap.size tAct7 (cellsA a)) Emp) p.w := fun p => Lv.keep HL10.out hlM p.fr
                have HKP := Lib.hid hkp
                have hcp : ∀ p : FrFrom w10, p.w.cell? ⟨rd, 1, none⟩ = some (.slice ao5 M.D.wait.length cw5) := fun p => p.fr.cell c18 (fun h => h)
                have hst : ∀ p : FrFrom w10, Calls Tryz.prog 15 #[.pointer (some ⟨b, 0, none⟩)] p.w fun e w' => e = .returned (.int .i64 M.count) ∧ Fr Nob p.w w' := fun p => (lv_staged (HKP.out p)).mono fun _ _ ⟨h1, h2⟩ => ⟨h1, by subst h2; exact Fr.refl _ _⟩
                have hrst : ∀ p : FrFrom w10, Calls Tryz.prog 16 #[.pointer (some ⟨rb, 0, none⟩)] p.w fun e w' => e = .returned (.int .i64 M.count) ∧ Fr Nob p.w w' := fun p => (rstaged_calls (MV.ref (HKP.out p))).mono fun _ _ ⟨h1, h2⟩ => ⟨h1, by subst h2; exact Fr.refl _ _⟩
                have hho : ∀ p : FrFrom w10, Calls Tryz.prog 17 #[.pointer (some ⟨b, 0, none⟩)] p.w fun e w' => e = .returned (.int .i64 ((M.D.safe.length : Int) - 32)) ∧ Fr Nob p.w w' := fun p => (lv_home (HKP.out p)).mono fun _ _ ⟨h1, h2⟩ => ⟨h1, by subst h2; exact Fr.refl _ _⟩
                have hrho : ∀ p : FrFrom w10, Calls Tryz.prog 18 #[.pointer (some ⟨rb, 0, none⟩)] p.w fun e w' => e = .returned (.int .i64 ((M.D.safe.length : Int) - 32)) ∧ Fr Nob p.w w' := fun p => (rhome_calls (MV.ref (HKP.out p))).mono fun _ _ ⟨h1, h2⟩ => ⟨h1, by subst h2; exact Fr.refl _ _⟩
                have hwa : ∀ p : FrFrom w10, Calls Tryz.prog 19 #[.pointer (some ⟨d, 0, none⟩)] p.w fun e w' => e = .returned (.int .i64 M.D.wait.length) ∧ Fr Nob p.w w' := fun p => by
                  obtain ⟨_, _, _, _, h, _⟩ := LV.parts (HKP.out p)
                  exact (waiting_calls h).mono fun _ _ ⟨h1, h2⟩ => ⟨h1, by subst h2; exact Fr.refl _ _⟩
                have HST := Lib.hid hst
                have HRST := Lib.hid hrst
                have HHO := Lib.hid hho
                have HRHO := Lib.hid hrho
                have HWA := Lib.hid hwa
                clear hst hrst hho hrho hwa L10 c18 hkp
                go_wp2_with fail
                refine wp_region_from (by kernel_rfl) (by kernel_rfl) ?_
                repeat (quiet_step (first | (go_at_call 15; exact Calls.frfrom (HST.out _)) | (go_at_call 16; exact Calls.frfrom (HRST.out _)) | (go_at_call 17; exact Calls.frfrom (HHO.out _)) | (go_at_call 18; exact Calls.frfrom (HRHO.out _)) | (go_at_call 19; exact Calls.frfrom (HWA.out _))))
                refine wpQuiet_nil ?_
                rintro _ ⟨p, rfl⟩
                have LF := HKP.out p
                clear hcp
                go_wp2_with fail
                go_roundw
                case rel => exact ⟨k + 1, by omega, by go_num, M.D, .inr ⟨_, _, M.stg, M.dead, rfl, rfl, HPM.out, LF.map fun _ h => star_right h fun _ h => star_right h fun _ h => star_right h fun _ h => star_less h⟩⟩
                case measure => simp [intOf]; omega
        · obtain rfl : k = n := by omega
          have HF := Lib.hid hLd.fr
          clear hLd hcur HCUR
          go_wp2_with fail
          go_ret
          exact ⟨rfl, HF.out⟩
end Go.Proofs.YtchilnjocnkodaaGreat
