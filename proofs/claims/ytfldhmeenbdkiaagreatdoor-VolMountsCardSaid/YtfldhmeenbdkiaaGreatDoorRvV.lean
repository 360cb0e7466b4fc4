/- Both volumes side by side: the program's, the document's. -/
import Derived.Test.YtfldhmeenbdkiaaGreatDoorRvU
import Derived.Test.YtfldhmeenbdkiaaGreatDoorRvO
import Derived.Test.YtfldhmeenbdkiaaGreatDoorVmC
import Derived.Test.YtfldhmeenbdkiaaGreatDoorVxC
import Derived.Test.YtfldhmeenbdkiaaGreatDoorVyD
namespace Go.Proofs.YtfldhmeenbdkiaaGreatDoor
open Go.RowKit

section
variable {S0 : Nat → Prop} {w0 w : World} {v b d m r q : Nat} {A A0 A1 : Nat → Node} {L : LSt} {B R : Asr}
theorem VL.lv (h : VL S0 w0 v b d m A A0 L (Star R B) w) : Lv S0 w0 (Star R (Star (lgA b d L.stg L.dead) (Star (dskA kD d L.D) (Star (blkA v tVol [.pointer (some ⟨b, 0, none⟩)]) B)))) w := VV.out h.1
theorem VL.ok (h : VL S0 w0 v b d m A A0 L B w) : AOk m A ∧ m ≤ 512 ∧ sumT A 32 + 9 ≤ m ∧ 16 ≤ m := by
  obtain ⟨_, H, X, h2, _⟩ := h
  have := h2.vol.room
  have hm := h2.alv.m16
  exact ⟨h2.vol.aok, hm.2, by omega, hm.1⟩
theorem loc_vlr (hB : Loc B) : Loc (Star (lgA b d L.stg L.dead) (Star (dskA kD d L.D) (Star (blkA v tVol [.pointer (some ⟨b, 0, none⟩)]) B))) := VV.loc hB
theorem lr_add (h : VL S0 w0 v b d m A A0 L (Star (rvX r m A1) B) w) (hB : Loc B) (kind : Int) (full : Bool) :
    Calls Tryz.prog 72 #[.pointer (some ⟨r, 0, none⟩), .int .i64 kind, .bool full] w fun e w' => e = .returned (.tuple #[.int .i64 (addR A1 full kind), .int .i64 (anewE A1 full kind)]) ∧ VL S0 w0 v b d m A A0 L (Star (rvX r m (anew A1 full kind)) B) w' := by
  obtain ⟨nb, c, sp, h1⟩ := rvX_open h.lv
  exact (radd_calls h1 (loc_vlr hB) kind full).mono fun _ _ ⟨e1, e2⟩ => ⟨e1, VV.inn (rvX_shut e2), h.2⟩
theorem lr_free (h : VL S0 w0 v b d m A A0 L (Star (rvX r m A1) B) w) (hB : Loc B) (n : Int) (full : Bool) :
    Calls Tryz.prog 73 #[.pointer (some ⟨r, 0, none⟩), .int .i64 n, .bool full] w fun e w' => e = .returned (.int .i64 (afreeE A1 full n)) ∧ VL S0 w0 v b d m A A0 L (Star (rvX r m (afree A1 full n)) B) w' := by
  obtain ⟨nb, c, sp, h1⟩ := rvX_open h.lv
  exact (rfree_calls h1 (loc_vlr hB) n full).mono fun _ _ ⟨e1, e2⟩ => ⟨e1, VV.inn (rvX_shut e2), h.2⟩
theorem lr_link (h : VL S0 w0 v b d m A A0 L (Star (rvX r m A1) B) w) (hB : Loc B) (hA : AOk m A1) (n by_ : Int) (full : Bool) :
    Calls Tryz.prog 74 #[.pointer (some ⟨r, 0, none⟩), .int .i64 n, .int .i64 by_, .bool full] w fun e w' => e = .returned (.int .i64 (alinkE A1 full n by_)) ∧ VL S0 w0 v b d m A A0 L (Star (rvX r m (alink A1 full n by_)) B) w' := by
  obtain ⟨nb, c, sp, h1⟩ := rvX_open h.lv
  exact (rlink_calls h1 (loc_vlr hB) hA n by_ full).mono fun _ _ ⟨e1, e2⟩ => ⟨e1, VV.inn (rvX_shut e2), h.2⟩
theorem lr_cut (h : VL S0 w0 v b d m A A0 L (Star (rvX r m A1) B) w) (hB : Loc B) (hA : AOk m A1) (n z : Int) (full : Bool) :
    Calls Tryz.prog 76 #[.pointer (some ⟨r, 0, none⟩), .int .i64 n, .int .i64 z, .bool full] w fun e w' => e = .returned (.int .i64 (acutE A1 full n z)) ∧ VL S0 w0 v b d m A A0 L (Star (rvX r m (acut A1 full n z)) B) w' := by
  obtain ⟨nb, c, sp, h1⟩ := rvX_open h.lv
  exact (rcut_calls h1 (loc_vlr hB) hA n z full).mono fun _ _ ⟨e1, e2⟩ => ⟨e1, VV.inn (rvX_shut e2), h.2⟩
theorem lr_write (h : VL S0 w0 v b d m A A0 L (Star (rvX r m A1) B) w) (hB : Loc B) (hA : AOk m A1) (hm : m ≤ 512) (hr : sumT A1 32 + 9 ≤ m) (n off : Int) (s : ByteArray) (full : Bool) :
    Calls Tryz.prog 75 #[.pointer (some ⟨r, 0, none⟩), .int .i64 n, .int .i64 off, .string s, .bool full] w fun e w' => e = .returned (.int .i64 (awriteE m A1 full n off s)) ∧ VL S0 w0 v b d m A A0 L (Star (rvX r m (awrite m A1 full n off s)) B) w' := by
  obtain ⟨nb, c, sp, h1⟩ := rvX_open h.lv
  exact (rwrite_calls h1 (loc_vlr hB) hA hm hr n off s full).mono fun _ _ ⟨e1, e2⟩ => ⟨e1, VV.inn (rvX_shut e2), h.2⟩
theorem lr_stat (h : VL S0 w0 v b d m A A0 L (Star (rvX r m A1) B) w) (hB : Loc B) (n : Int) :
    Calls Tryz.prog 14 #[.pointer (some ⟨r, 0, none⟩), .int .i64 n] w fun e w' => e = .returned (.tuple #[if afindE A1 n = 0 then nstatV (A1 n.toNat) else nstatV Node.free, .int .i64 (afindE A1 n)]) ∧ VL S0 w0 v b d m A A0 L (Star (rvX r m A1) B) w' := by
  obtain ⟨nb, c, sp, h1⟩ := rvX_open h.lv
  exact (rstat_calls h1 (loc_vlr hB) n).mono fun _ _ ⟨e1, e2⟩ => ⟨e1, VV.inn (rvX_shut e2), h.2⟩
theorem lr_read (h : VL S0 w0 v b d m A A0 L (Star (rvX r m A1) B) w) (n off many : Int) :
    Calls Tryz.prog 16 #[.pointer (some ⟨r, 0, none⟩), .int .i64 n, .int .i64 off, .int .i64 many] w fun e w' => e = .returned (.tuple #[.string (areadB A1 n off many), .int .i64 (areadE A1 n off many)]) ∧ w = w' := by
  obtain ⟨nb, c, sp, h1⟩ := rvX_open h.lv
  exact rread_calls h1 n off many
theorem lr_room (h : VL S0 w0 v b d m A A0 L (Star (rvX r m A1) B) w) (hA : AOk m A1) (hm : m ≤ 512) (hr : sumT A1 32 + 9 ≤ m) :
    Calls Tryz.prog 18 #[.pointer (some ⟨r, 0, none⟩)] w fun e w' => e = .returned (.int .i64 (aroom m A1)) ∧ w = w' := by
  obtain ⟨nb, c, sp, h1⟩ := rvX_open h.lv
  have := rroom_calls h1 hm (fun n hn => (hA n hn).2.2)
  rw [show (m : Int) - 9 - sumT A1 32 = (aroom m A1 : Nat) by unfold aroom; omega] at this
  exact this
theorem lr_copy (h : VL S0 w0 v b d m A A0 L (Star (rvX r m A1) B) w) (hB : Loc B) :
    Calls Tryz.prog 29 #[.pointer (some ⟨r, 0, none⟩)] w fun e w' => ∃ q, e = .returned (.pointer (some ⟨q, 0, none⟩)) ∧ VL S0 w0 v b d m A A0 L (Star (rvX q m A1) (Star (rvX r m A1) B)) w' :=
  (rcopy_calls h.lv (loc_vlr hB)).mono fun _ _ ⟨q, e1, e2⟩ => ⟨q, e1, VV.inn (e2.map fun _ h => star_right h fun _ h => star_right (star_flip h) fun _ h => star_right (star_flip h) fun _ h => star_flip h), h.2⟩
theorem VL.flip (h : VL S0 w0 v b d m A A0 L (Star R (Star (rvX r m A1) B)) w) : VL S0 w0 v b d m A A0 L (Star (rvX r m A1) (Star R B)) w :=
  ⟨h.1.map fun _ h => star_right h fun _ h => star_right h fun _ h => star_right h fun _ h => star_flip h, h.2⟩
theorem VL.less (h : VL S0 w0 v b d m A A0 L (Star R B) w) : VL S0 w0 v b d m A A0 L B w := ⟨VV.less h.1, h.2⟩
set_option maxRecDepth 100000 in
set_option maxHeartbeats 1000000 in
/-- The home sectors of the disk's image: what was committed. -/
theorem l_home (h : VL S0 w0 v b d m A A0 L B w) :
    Calls Tryz.prog 33 #[.pointer (some ⟨d, 0, none⟩)] w fun e w' => ∃ (g hc : Nat) (X : Sec), e = .returned (.slice (some ⟨g, 32, none⟩) m hc) ∧ Srcs w' (.slice (some ⟨g, 32, none⟩) m hc) m 1 (secL X m) ∧ IsVol m X A0 ∧ Fr Nob w w' := by
  obtain ⟨h1, H, X, h2, h3⟩ := h
  obtain ⟨mb, S, _, _, hd, _⟩ := LV.parts (VV.gone h1)
  have hlen := h2.alv.calm.len
  have hst := h2.alv.calm.st
  obtain ⟨n, hn⟩ : ∃ n, n = L.D.safe.length := ⟨_, rfl⟩
  have HI := image_calls hd
  rw [← hn] at HI hlen
  have HI := Lib.hid HI
  have HL := Lib.hid hlen
  have HS := Lib.hid hst
  have H3 := Lib.hid h3
  have hm := Lib.hid h2.alv.m16
  clear h1 h2 h3 hd hlen hst hn
  go_enter Tryz.func33, Tryz.ntmps33
  go_wp2_with fail
  refine HI.out.mono ?_
  rintro e w1 ⟨v, rfl, hown, hnew, hf⟩
  obtain ⟨g, cap, rfl⟩ : ∃ g cap, v = .slice (some ⟨g, 0, none⟩) n cap := (row_form hown).elim (fun h => by have := h.2; have := HL.out; omega) id
  have hcap := row_cap' hown
  have hcell : ∀ i, i < m → w1.cell? ⟨g, 32 + i, none⟩ = some (.string (H i)) := fun i hi => by
    have hh : L.D.safe[32 + i]? = some (H i) := HS.out.home i hi
    have := hown.cells (g := g) rfl (32 + i) (.string (H i)) (by unfold strs; rw [List.getElem?_map, hh]; rfl)
    simp only [Addr.add_lit, Nat.zero_add] at this
    exact this
  have HCELL := Lib.hid hcell
  have HF := Lib.hid hf
  have hn32 : n = 32 + m := HL.out
  have hnm : n - 32 = m := by omega
  have HNM := Lib.hid hnm
  have hc1 : 32 ≤ n := by omega
  have hc2 : (32 : Int) ≤ (n : Int) := by omega
  have hm16 := hm.out.1
  have hc3 : ¬ cap = 32 := by omega
  have hc4 : 32 ≤ cap := by omega
  have hc5 : 32 < cap := by omega
  clear hown hnew hf hcell hn32 hnm
  go_wp2_with fail
  go_ret
  refine ⟨g, cap - 32, H, ?_, ⟨by simp [secL], fun u hu => ?_, .inr ⟨⟨g, 32, none⟩, cap - 32, rfl, fun j u hj => ?_⟩⟩, H3.out, HF.out⟩
  · rw [← HNM.out]; rfl
  · unfold secL at hu
    obtain ⟨i, _, rfl⟩ := List.mem_map.1 hu
    rfl
  · have hjm : j < m := by
      have := (List.getElem?_eq_some_iff.1 hj).1
      simpa [secL] using this
    rw [secL_get H hjm] at hj
    obtain rfl := Option.some.inj hj
    have := HCELL.out j hjm
    simp only [Addr.add_lit]
    exact this
set_option maxRecDepth 100000 in
set_option maxHeartbeats 4000000 in
theorem rsame_calls {a r m : Nat} {A A' : Nat → Node} (hL : Lv S0 w0 (Star (rvX a m A) (Star (rvX r m A') B)) w) (hB : Loc B) (h : ∀ n, n < 32 → A n = A' n) :
    Calls Tryz.prog 34 #[.pointer (some ⟨a, 0, none⟩), .pointer (some ⟨r, 0, none⟩)] w fun e w' => e = .returned (.bool true) ∧ Fr Nob w w' := by
  obtain ⟨na, ca, sa, h1⟩ := rvX_open hL
  obtain ⟨nb, cb, sb, h2⟩ := rvX_open (h1.map fun _ h => star_flip h)
  have h3 : Lv S0 w0 (Star (rvA a na ca sa m A) (Star (rvA r nb cb sb m A') B)) w := h2.map fun _ h => star_flip h
  have HC1 := Lib.hid (rv_cells h3)
  have HC2 := Lib.hid (rv_cells h2)
  have c0 := HC1.out.1
  have c1 := HC1.out.2.1
  have d0 := HC2.out.1
  have d1 := HC2.out.2.1
  have HH := Lib.hid h
  clear hL h1 h2 h3 hB h
  go_enter Tryz.func34, Tryz.ntmps34
  go_wp2_with fail
  go_loopw [5] (fun s5 wr => ∃ j : Nat, j ≤ 32 ∧ s5 = .int .i64 j ∧ Hid (Fr Nob w wr)) (fun s5 _ => 32 - (intOf s5).toNat)
  case atStart => exact ⟨0, Nat.zero_le _, rfl, Lib.hid (Fr.refl _ _)⟩
  case round =>
    obtain ⟨j, hj, rfl, HF⟩ := hrel
    have x1 := HF.out.cell c1 (fun h => h)
    have y1 := HF.out.cell d1 (fun h => h)
    by_cases hlt : j < 32
    · have hlt2 : (j : Int) < 32 := by omega
      obtain ⟨p0, p1, p2⟩ := HC1.out.2.2 j hlt
      obtain ⟨q0, q1, q2⟩ := HC2.out.2.2 j hlt
      rw [← HH.out j hlt] at q0 q1 q2
      have p0 := HF.out.cell p0 (fun h => h)
      have p1 := HF.out.cell p1 (fun h => h)
      have p2 := HF.out.cell p2 (fun h => h)
      have q0 := HF.out.cell q0 (fun h => h)
      have q1 := HF.out.cell q1 (fun h => h)
      have q2 := HF.out.cell q2 (fun h => h)
      generalize (A j).kind = kd at *
      generalize (A j).links = lk at *
      generalize dataB (A j) = db at *
      go_wp2_with fail
      go_region
      all_goals
        go_wp2_with fail
        go_roundw
        case rel => exact ⟨j + 1, hlt, by go_num, Lib.hid (by first | exact HF.out | exact HF.out.drew | exact HF.out.drewN _)⟩
        case measure => simp [intOf]; omega
    · have hge : ¬ (j : Int) < 32 := by omega
      have x0 := HF.out.cell c0 (fun h => h)
      have y0 := HF.out.cell d0 (fun h => h)
      go_wp2_with fail
      go_region
      all_goals
        go_wp2_with fail
        go_ret
        exact ⟨by first | rfl | simp, by first | exact HF.out | exact HF.out.drew | exact HF.out.drewN _⟩
/-- One act, of both. -/
abbrev tAct8 : Nat := 67
theorem VL.act {bx : Nat} {cs : List Value} (h : VL S0 w0 v b d m A A0 L (Star R (Star (blkA bx tAct8 cs) B)) w) : Blk w bx tAct8 cs := by
  obtain ⟨_, ⟨_, _, _, ⟨_, _, _, ⟨_, _, _, ⟨_, _, _, ⟨_, _, h1, _⟩, _⟩, _⟩, _⟩, _⟩, _⟩ := h.1
  exact h1.1
theorem VL.actless {e : Nat} {bx : Nat} {cs : List Value} (h : VL S0 w0 v b d m A A0 L (Star R (Star (blkA bx e cs) B)) w) : VL S0 w0 v b d m A A0 L (Star R B) w :=
  ⟨h.1.map fun _ h => star_right h fun _ h => star_right h fun _ h => star_right h fun _ h => star_less h, h.2⟩
theorem VL.keep2 (h : VL S0 w0 v b d m A A0 L (Star (rvX r m A1) B) w) (hB : Loc B) (o : Obj) : VL S0 w0 v b d m A A0 L (Star (rvX r m A1) B) (w.alloc o) :=
  ⟨Lv.alloc h.1 (VV.loc (loc_star (loc_rvX _ _ _) hB)) o, h.2⟩
set_option maxRecDepth 100000 in
set_option maxHeartbeats 8000000 in
theorem does_calls (a : ActV) (h : VL S0 w0 v b d m A A0 L (Star (rvX r m A) B) w) (hB : Loc B) :
    Calls Tryz.prog 31 #[.pointer (some ⟨v, 0, none⟩), .pointer (some ⟨r, 0, none⟩), .agg #[.int .i64 a.kind, .int .i64 a.n, .int .i64 a.off, .int .i64 a.many, .string a.s], .bool (vfullB L)] w fun e w' => e = .returned (.bool true) ∧ ∃ A' L', VL S0 w0 v b d m A' A0 L' (Star (rvX r m A') B) w' := by
  have hok := h.ok
  have HOK := Lib.hid hok
  have HBL := Lib.hid hB
  obtain ⟨n0, hn0⟩ : ∃ n0, n0 = w.heap.size := ⟨_, rfl⟩
  have V1 : VL S0 w0 v b d m A A0 L (Star (rvX r m A) (Star (blkA n0 tAct8 (cellsV a)) B)) (w.alloc (.cells (cellsV a).toArray tAct8)) := by
    have h1 := VV.box h.1 (loc_star (loc_rvX _ _ _) hB) tAct8 (cellsV a)
    rw [← hn0] at h1
    exact VL.flip ⟨h1, h.2⟩
  have hl : Loc (Star (blkA n0 tAct8 (cellsV a)) B) := loc_star (loc_blk _ _ _) hB
  have HLC := Lib.hid hl
  obtain ⟨F, hF⟩ : ∃ F, F = vfullB L := ⟨_, rfl⟩
  rw [← hF]
  have HFF := Lib.hid hF
  have HV := Lib.hid V1
  have q0 := V1.act.cell (j := 0) rfl
  have q1 := V1.act.cell (j := 1) rfl
  have q2 := V1.act.cell (j := 2) rfl
  have q3 := V1.act.cell (j := 3) rfl
  have q4 := V1.act.cell (j := 4) rfl
  rw [hn0] at q0 q1 q2 q3 q4
  have HN := Lib.hid hn0
  clear hok h hB V1 hl hF hn0
  by_cases k1 : a.kind = 1
  · have t1 : (a.kind == 1) = true := by rw [beq_iff_eq]; exact k1
    have HC1 := l_new HV.out (loc_star (loc_rvX _ _ _) HLC.out) a.n
    rw [← HFF.out] at HC1
    rw [show (if anewE A F a.n = 0 then (anewN A : Int) else 0) = addR A F a.n from rfl] at HC1
    obtain ⟨gN, hgN⟩ : ∃ x, x = addR A F a.n := ⟨_, rfl⟩
    rw [← hgN] at HC1
    have HGN := Lib.hid hgN
    have bN : (gN == gN) = true := by simp
    clear hgN
    obtain ⟨gE, hgE⟩ : ∃ x, x = anewE A F a.n := ⟨_, rfl⟩
    rw [← hgE] at HC1
    have HGE := Lib.hid hgE
    have bE : (gE == gE) = true := by simp
    have HC1 := Lib.hid HC1
    clear hgE k1
    go_enter Tryz.func31, Tryz.ntmps31
    go_wp2_with fail
    rw [show w.alloc (.cells #[.int .i64 a.kind, .int .i64 a.n, .int .i64 a.off, .int .i64 a.many, .string a.s] tAct8) = w.alloc (.cells (cellsV a).toArray tAct8) from rfl]
    refine HC1.out.mono ?_
    rintro e w2 ⟨rfl, L2, V2⟩
    have r0 := V2.act.cell (j := 0) rfl
    have r1 := V2.act.cell (j := 1) rfl
    have r2 := V2.act.cell (j := 2) rfl
    have r3 := V2.act.cell (j := 3) rfl
    have r4 := V2.act.cell (j := 4) rfl
    rw [HN.out] at r0 r1 r2 r3 r4
    have HV3 := Lib.hid V2
    clear V2
    have HR := lr_add HV3.out HLC.out a.n F
    rw [← HGE.out] at HR
    rw [← HGN.out] at HR
    have HR := Lib.hid HR
    clear q0 q1 q2 q3 q4 HC1
    go_wp2_with fail
    refine HR.out.mono ?_
    rintro e w3 ⟨rfl, V4⟩
    have HX := Lib.hid V4.actless
    clear V4
    go_wp2_with fail
    go_ret
    exact ⟨rfl, _, _, HX.out⟩
  have t1 : (a.kind == 1) = false := by rw [beq_eq_false_iff_ne]; exact k1
  by_cases k2 : a.kind = 2
  · have t2 : (a.kind == 2) = true := by rw [beq_iff_eq]; exact k2
    have HC1 := l_free HV.out (loc_star (loc_rvX _ _ _) HLC.out) a.n
    rw [← HFF.out] at HC1
    obtain ⟨gE, hgE⟩ : ∃ x, x = afreeE A F a.n := ⟨_, rfl⟩
    rw [← hgE] at HC1
    have HGE := Lib.hid hgE
    have bE : (gE == gE) = true := by simp
    have HC1 := Lib.hid HC1
    clear hgE k2
    go_enter Tryz.func31, Tryz.ntmps31
    go_wp2_with fail
    rw [show w.alloc (.cells #[.int .i64 a.kind, .int .i64 a.n, .int .i64 a.off, .int .i64 a.many, .string a.s] tAct8) = w.alloc (.cells (cellsV a).toArray tAct8) from rfl]
    refine HC1.out.mono ?_
    rintro e w2 ⟨rfl, L2, V2⟩
    have r0 := V2.act.cell (j := 0) rfl
    have r1 := V2.act.cell (j := 1) rfl
    have r2 := V2.act.cell (j := 2) rfl
    have r3 := V2.act.cell (j := 3) rfl
    have r4 := V2.act.cell (j := 4) rfl
    rw [HN.out] at r0 r1 r2 r3 r4
    have HV3 := Lib.hid V2
    clear V2
    have HR := lr_free HV3.out HLC.out a.n F
    rw [← HGE.out] at HR
    have HR := Lib.hid HR
    clear q0 q1 q2 q3 q4 HC1
    go_wp2_with fail
    refine HR.out.mono ?_
    rintro e w3 ⟨rfl, V4⟩
    have HX := Lib.hid V4.actless
    clear V4
    go_wp2_with fail
    go_ret
    exact ⟨rfl, _, _, HX.out⟩
  have t2 : (a.kind == 2) = false := by rw [beq_eq_false_iff_ne]; exact k2
  by_cases k3 : a.kind = 3
  · have t3 : (a.kind == 3) = true := by rw [beq_iff_eq]; exact k3
    have HC1 := l_stat HV.out (loc_star (loc_rvX _ _ _) HLC.out) a.n
    obtain ⟨x0, x1, x2, hx⟩ : ∃ x0 x1 x2 : Int, (if afindE A a.n = 0 then nstatV (A a.n.toNat) else nstatV Node.free) = .agg #[.int .i64 x0, .int .i64 x1, .int .i64 x2] := by
      split
      · exact ⟨_, _, _, rfl⟩
      · exact ⟨_, _, _, rfl⟩
    rw [hx] at HC1
    have HXX := Lib.hid hx
    clear hx
    obtain ⟨gE, hgE⟩ : ∃ x, x = afindE A a.n := ⟨_, rfl⟩
    rw [← hgE] at HC1
    have HGE := Lib.hid hgE
    have bE : (gE == gE) = true := by simp
    have HC1 := Lib.hid HC1
    clear hgE k3
    go_enter Tryz.func31, Tryz.ntmps31
    go_wp2_with fail
    rw [show w.alloc (.cells #[.int .i64 a.kind, .int .i64 a.n, .int .i64 a.off, .int .i64 a.many, .string a.s] tAct8) = w.alloc (.cells (cellsV a).toArray tAct8) from rfl]
    refine HC1.out.mono ?_
    rintro e w2 ⟨rfl, V2⟩
    have V3 : VL S0 w0 v b d m A A0 L (Star (rvX r m A) (Star (blkA n0 tAct8 (cellsV a)) (Star (blkA w2.heap.size tStat [.int .i64 x0, .int .i64 x1, .int .i64 x2]) B))) (w2.alloc (.cells #[.int .i64 x0, .int .i64 x1, .int .i64 x2] tStat)) := by
      have h1 := VV.box V2.1 (loc_star (loc_rvX _ _ _) HLC.out) tStat [.int .i64 x0, .int .i64 x1, .int .i64 x2]
      have h2 := VL.flip ⟨h1, V2.2⟩
      exact ⟨h2.1.map fun _ h => star_right h fun _ h => star_right h fun _ h => star_right h fun _ h => star_right h fun _ h => star_flip h, h2.2⟩
    have r0 := V3.act.cell (j := 0) rfl
    have r1 := V3.act.cell (j := 1) rfl
    rw [HN.out] at r0 r1
    have HV3 := Lib.hid V3
    clear V2 V3
    have HR := lr_stat HV3.out (loc_star (loc_blk _ _ _) (loc_star (loc_blk _ _ _) HBL.out)) a.n
    rw [HXX.out, ← HGE.out] at HR
    have HR := Lib.hid HR
    clear q0 q1 q2 q3 q4 HC1
    go_wp2_with fail
    refine HR.out.mono ?_
    rintro e w3 ⟨rfl, V4⟩
    have HX := Lib.hid V4.actless.actless
    have hl4 := World.block_lt_of_cell? _ _ (V4.act.cell (j := 0) rfl)
    obtain ⟨_, ⟨_, _, _, ⟨_, _, _, ⟨_, _, _, ⟨_, _, _, ⟨_, _, _, ⟨_, _, hst, _⟩, _⟩, _⟩, _⟩, _⟩, _⟩, _⟩ := V4.1
    have hsa := hst.1.alloc (.cells #[.int .i64 x0, .int .i64 x1, .int .i64 x2] tStat)
    have s0 := hsa.cell (j := 0) rfl
    have s1 := hsa.cell (j := 1) rfl
    have s2 := hsa.cell (j := 2) rfl
    clear V4 hst hsa
    go_wp2_with fail
    go_ret
    exact ⟨by first | rfl | simp, _, _, HX.out.keep2 HBL.out _⟩
  have t3 : (a.kind == 3) = false := by rw [beq_eq_false_iff_ne]; exact k3
  by_cases k4 : a.kind = 4
  · have t4 : (a.kind == 4) = true := by rw [beq_iff_eq]; exact k4
    have HC1 := l_link HV.out (loc_star (loc_rvX _ _ _) HLC.out) a.n a.off
    rw [← HFF.out] at HC1
    obtain ⟨gE, hgE⟩ : ∃ x, x = alinkE A F a.n a.off := ⟨_, rfl⟩
    rw [← hgE] at HC1
    have HGE := Lib.hid hgE
    have bE : (gE == gE) = true := by simp
    have HC1 := Lib.hid HC1
    clear hgE k4
    go_enter Tryz.func31, Tryz.ntmps31
    go_wp2_with fail
    rw [show w.alloc (.cells #[.int .i64 a.kind, .int .i64 a.n, .int .i64 a.off, .int .i64 a.many, .string a.s] tAct8) = w.alloc (.cells (cellsV a).toArray tAct8) from rfl]
    refine HC1.out.mono ?_
    rintro e w2 ⟨rfl, L2, V2⟩
    have r0 := V2.act.cell (j := 0) rfl
    have r1 := V2.act.cell (j := 1) rfl
    have r2 := V2.act.cell (j := 2) rfl
    have r3 := V2.act.cell (j := 3) rfl
    have r4 := V2.act.cell (j := 4) rfl
    rw [HN.out] at r0 r1 r2 r3 r4
    have HV3 := Lib.hid V2
    clear V2
    have HR := lr_link HV3.out HLC.out HOK.out.1 a.n a.off F
    rw [← HGE.out] at HR
    have HR := Lib.hid HR
    clear q0 q1 q2 q3 q4 HC1
    go_wp2_with fail
    refine HR.out.mono ?_
    rintro e w3 ⟨rfl, V4⟩
    have HX := Lib.hid V4.actless
    clear V4
    go_wp2_with fail
    go_ret
    exact ⟨rfl, _, _, HX.out⟩
  have t4 : (a.kind == 4) = false := by rw [beq_eq_false_iff_ne]; exact k4
  by_cases k5 : a.kind = 5
  · have t5 : (a.kind == 5) = true := by rw [beq_iff_eq]; exact k5
    have HC1 := l_read HV.out (loc_star (loc_rvX _ _ _) HLC.out) a.n a.off a.many
    obtain ⟨gS, hgS⟩ : ∃ x, x = areadB A a.n a.off a.many := ⟨_, rfl⟩
    rw [← hgS] at HC1
    have HGS := Lib.hid hgS
    have bS : (gS.toList == gS.toList) = true := by simp
    clear hgS
    obtain ⟨gE, hgE⟩ : ∃ x, x = areadE A a.n a.off a.many := ⟨_, rfl⟩
    rw [← hgE] at HC1
    have HGE := Lib.hid hgE
    have bE : (gE == gE) = true := by simp
    have HC1 := Lib.hid HC1
    clear hgE k5
    go_enter Tryz.func31, Tryz.ntmps31
    go_wp2_with fail
    rw [show w.alloc (.cells #[.int .i64 a.kind, .int .i64 a.n, .int .i64 a.off, .int .i64 a.many, .string a.s] tAct8) = w.alloc (.cells (cellsV a).toArray tAct8) from rfl]
    refine HC1.out.mono ?_
    rintro e w2 ⟨rfl, V2⟩
    have r0 := V2.act.cell (j := 0) rfl
    have r1 := V2.act.cell (j := 1) rfl
    have r2 := V2.act.cell (j := 2) rfl
    have r3 := V2.act.cell (j := 3) rfl
    have r4 := V2.act.cell (j := 4) rfl
    rw [HN.out] at r0 r1 r2 r3 r4
    have HV3 := Lib.hid V2
    clear V2
    have HR := lr_read HV3.out a.n a.off a.many
    rw [← HGE.out] at HR
    rw [← HGS.out] at HR
    have HR := Lib.hid HR
    clear q0 q1 q2 q3 q4 HC1
    go_wp2_with fail
    refine HR.out.mono ?_
    rintro e w3 ⟨rfl, rfl⟩
    have HX := Lib.hid HV3.out.actless
    go_wp2_with fail
    go_ret
    exact ⟨rfl, _, _, HX.out⟩
  have t5 : (a.kind == 5) = false := by rw [beq_eq_false_iff_ne]; exact k5
  by_cases k6 : a.kind = 6
  · have t6 : (a.kind == 6) = true := by rw [beq_iff_eq]; exact k6
    have HC1 := l_write HV.out (loc_star (loc_rvX _ _ _) HLC.out) a.n a.off a.s
    rw [← HFF.out] at HC1
    obtain ⟨gE, hgE⟩ : ∃ x, x = awriteE m A F a.n a.off a.s := ⟨_, rfl⟩
    rw [← hgE] at HC1
    have HGE := Lib.hid hgE
    have bE : (gE == gE) = true := by simp
    have HC1 := Lib.hid HC1
    clear hgE k6
    go_enter Tryz.func31, Tryz.ntmps31
    go_wp2_with fail
    rw [show w.alloc (.cells #[.int .i64 a.kind, .int .i64 a.n, .int .i64 a.off, .int .i64 a.many, .string a.s] tAct8) = w.alloc (.cells (cellsV a).toArray tAct8) from rfl]
    refine HC1.out.mono ?_
    rintro e w2 ⟨rfl, L2, V2⟩
    have r0 := V2.act.cell (j := 0) rfl
    have r1 := V2.act.cell (j := 1) rfl
    have r2 := V2.act.cell (j := 2) rfl
    have r3 := V2.act.cell (j := 3) rfl
    have r4 := V2.act.cell (j := 4) rfl
    rw [HN.out] at r0 r1 r2 r3 r4
    have HV3 := Lib.hid V2
    clear V2
    have HR := lr_write HV3.out HLC.out HOK.out.1 HOK.out.2.1 HOK.out.2.2.1 a.n a.off a.s F
    rw [← HGE.out] at HR
    have HR := Lib.hid HR
    clear q0 q1 q2 q3 q4 HC1
    go_wp2_with fail
    refine HR.out.mono ?_
    rintro e w3 ⟨rfl, V4⟩
    have HX := Lib.hid V4.actless
    clear V4
    go_wp2_with fail
    go_ret
    exact ⟨rfl, _, _, HX.out⟩
  have t6 : (a.kind == 6) = false := by rw [beq_eq_false_iff_ne]; exact k6
  by_cases k7 : a.kind = 7
  · have t7 : (a.kind == 7) = true := by rw [beq_iff_eq]; exact k7
    have HC1 := l_cut HV.out (loc_star (loc_rvX _ _ _) HLC.out) a.n a.off
    rw [← HFF.out] at HC1
    obtain ⟨gE, hgE⟩ : ∃ x, x = acutE A F a.n a.off := ⟨_, rfl⟩
    rw [← hgE] at HC1
    have HGE := Lib.hid hgE
    have bE : (gE == gE) = true := by simp
    have HC1 := Lib.hid HC1
    clear hgE k7
    go_enter Tryz.func31, Tryz.ntmps31
    go_wp2_with fail
    rw [show w.alloc (.cells #[.int .i64 a.kind, .int .i64 a.n, .int .i64 a.off, .int .i64 a.many, .string a.s] tAct8) = w.alloc (.cells (cellsV a).toArray tAct8) from rfl]
    refine HC1.out.mono ?_
    rintro e w2 ⟨rfl, L2, V2⟩
    have r0 := V2.act.cell (j := 0) rfl
    have r1 := V2.act.cell (j := 1) rfl
    have r2 := V2.act.cell (j := 2) rfl
    have r3 := V2.act.cell (j := 3) rfl
    have r4 := V2.act.cell (j := 4) rfl
    rw [HN.out] at r0 r1 r2 r3 r4
    have HV3 := Lib.hid V2
    clear V2
    have HR := lr_cut HV3.out HLC.out HOK.out.1 a.n a.off F
    rw [← HGE.out] at HR
    have HR := Lib.hid HR
    clear q0 q1 q2 q3 q4 HC1
    go_wp2_with fail
    refine HR.out.mono ?_
    rintro e w3 ⟨rfl, V4⟩
    have HX := Lib.hid V4.actless
    clear V4
    go_wp2_with fail
    go_ret
    exact ⟨rfl, _, _, HX.out⟩
  have t7 : (a.kind == 7) = false := by rw [beq_eq_false_iff_ne]; exact k7
  have HX := Lib.hid HV.out.actless
  go_enter Tryz.func31, Tryz.ntmps31
  go_wp2_with fail
  go_ret
  exact ⟨rfl, _, _, HX.out⟩
end
end Go.Proofs.YtfldhmeenbdkiaaGreatDoor
