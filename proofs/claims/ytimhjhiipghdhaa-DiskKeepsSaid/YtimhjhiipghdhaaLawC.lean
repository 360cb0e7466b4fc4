/- DiskSafe, walked. -/
import Derived.Test.YtimhjhiipghdhaaLawB
import Derived.Test.YtimhjhiipghdhaaSafe
import Derived.Deep.RegionHeld3
namespace Go.Proofs.Ytimhjhiipghdhaa
open Go.RowKit

abbrev tAct : Nat := 32
def cellsA (a : ActD) : List Value := [.int .i64 a.kind, .int .i64 a.i, .string a.s, .int .u64 a.keep]
def flatA (l : List ActD) : List Value := l.flatMap cellsA
def ActsOk (l : List ActD) : Prop := ∀ a ∈ l, a.keep < 18446744073709551616 ∧ a.s.size ≤ 140737488351232

theorem flatA_get {l : List ActD} {k : Nat} {a : ActD} (h : l[k]? = some a) (j : Nat) (hj : j < 4) : (flatA l)[k * 4 + j]? = (cellsA a)[j]? := by
  induction l generalizing k with
  | nil => simp at h
  | cons y l ih =>
    cases k with
    | zero =>
      simp at h; subst h
      show (cellsA y ++ flatA l)[0 * 4 + j]? = _
      rw [Nat.zero_mul, Nat.zero_add, List.getElem?_append_left (by simpa [cellsA] using hj)]
    | succ k =>
      show (cellsA y ++ flatA l)[(k + 1) * 4 + j]? = _
      rw [List.getElem?_append_right (by simp [cellsA]; omega), show (k + 1) * 4 + j - (cellsA y).length = k * 4 + j by simp [cellsA]; omega]
      exact ih (by simpa using h)

/-- An act of a row of acts that came in, as it lies in a later world. -/
theorem act_cells {w wr : World} {ao : Option Addr} {n c : Nat} {acts : List ActD} (h : Srcs w (.slice ao n c) acts.length 4 (flatA acts)) (hf : Fr Nob w wr) {k : Nat} {a : ActD} (hk : acts[k]? = some a) :
    ∃ g off, ao = some ⟨g, off, none⟩ ∧ g < wr.heap.size ∧ wr.cell? ⟨g, off + k * 4, none⟩ = some (.int .i64 a.kind) ∧ wr.cell? ⟨g, off + k * 4 + 1, none⟩ = some (.int .i64 a.i) ∧
      wr.cell? ⟨g, off + k * 4 + 2, none⟩ = some (.string a.s) ∧ wr.cell? ⟨g, off + k * 4 + 3, none⟩ = some (.int .u64 a.keep) := by
  obtain ⟨g, off, rfl, c0⟩ := h.at (flatA_get hk 0 (by omega))
  obtain ⟨g1, o1, e1, c1⟩ := h.at (flatA_get hk 1 (by omega))
  obtain ⟨g2, o2, e2, c2⟩ := h.at (flatA_get hk 2 (by omega))
  obtain ⟨g3, o3, e3, c3⟩ := h.at (flatA_get hk 3 (by omega))
  simp only [Option.some.injEq, Addr.mk.injEq, and_true] at e1 e2 e3
  obtain ⟨rfl, rfl⟩ := e1
  obtain ⟨rfl, rfl⟩ := e2
  obtain ⟨rfl, rfl⟩ := e3
  refine ⟨g, off, rfl, ?_, hf.cell c0 (fun h => h), hf.cell c1 (fun h => h), hf.cell c2 (fun h => h), hf.cell c3 (fun h => h)⟩
  exact Nat.lt_of_lt_of_le (World.block_lt_of_cell? _ _ c0) hf.size

theorem safeRun_take {i : Int} {D : DSt} {acts : List ActD} {k : Nat} {a : ActD} (h : acts[k]? = some a) : safeRun secOf i D (acts.take (k + 1)) = safeStep secOf i (safeRun secOf i D (acts.take k)) a := by
  unfold safeRun
  rw [List.take_add_one, h]
  simp

/-- What the loop of DiskSafe carries. -/
def SafeRel (acts : List ActD) (i : Int) (w : World) (b : Nat) (s10 s11 s12 : Value) (wr : World) : Prop :=
  ∃ k : Nat, k ≤ acts.length ∧ s12 = .int .i64 k ∧ ∃ st, st = safeRun secOf i (DSt.fresh 48) (acts.take k) ∧ s10 = .string st.sure ∧ ∃ ao1 c1, s11 = .slice ao1 st.seen.length c1 ∧
      Live w (Star (rowA tStr 1 (.slice ao1 st.seen.length c1) st.seen.length (strs st.seen)) (Star (dskA kD b st.D) Emp)) wr
theorem safe_next {acts : List ActD} {i : Int} {w : World} {b : Nat} {k : Nat} {a : ActD} {st : SafeSt} (ha : acts[k]? = some a) (hst : st = safeRun secOf i (DSt.fresh 48) (acts.take k)) {st' : SafeSt} (h' : safeStep secOf i st a = st')
    {ao1 : Option Addr} {n1 c1 : Nat} (hn1 : n1 = st'.seen.length) {wr : World} {z : Int} (hz : z = (k : Int) + 1) (hL : Live w (Star (rowA tStr 1 (.slice ao1 n1 c1) n1 (strs st'.seen)) (Star (dskA kD b st'.D) Emp)) wr) :
    SafeRel acts i w b (.string st'.sure) (.slice ao1 n1 c1) (.int .i64 z) wr := by
  subst hn1
  refine ⟨k + 1, (List.getElem?_eq_some_iff.1 ha).1, by subst hz; rfl, st', ?_, rfl, ao1, c1, rfl, hL⟩
  rw [safeRun_take ha, ← hst, h']

theorem flush_wait {D : DSt} {m : Nat} (h : (D.wait.length + 1) * 24 ≤ m) : D.flush.wait.length * 24 ≤ m := by
  unfold DSt.flush
  split
  · omega
  · split
    · show D.wait.length * 24 ≤ m; omega
    · show 0 * 24 ≤ m; omega

def memB (s : ByteArray) (l : List ByteArray) : Bool := l.any fun x => decide (x = s)
theorem memB_snoc (s : ByteArray) {l : List ByteArray} {j : Nat} {x : ByteArray} (h : l[j]? = some x) : memB s (l.take (j + 1)) = (memB s (l.take j) || decide (x = s)) := by
  rw [List.take_add_one, h]
  simp [memB]
theorem memB_of {s : ByteArray} {l : List ByteArray} (h : s ∈ l) : memB s l = true := List.any_eq_true.2 ⟨s, h, decide_eq_true rfl⟩
theorem text_ne {s : ByteArray} (h : s ≠ ⟨#[]⟩) : (s.toList == []) = false := by
  rw [beq_eq_false_iff_ne]
  intro e
  exact h ((toList_nil_iff_emptyBytes s).1 e)

theorem nought_sec : nought = secOf ⟨#[]⟩ := by decide +kernel

set_option maxRecDepth 100000 in
set_option maxHeartbeats 4000000 in
theorem safe_calls {acts : List ActD} {ao : Option Addr} {c : Nat} {w : World} (hS : Srcs w (.slice ao acts.length c) acts.length 4 (flatA acts)) (hok : ActsOk acts) (hreach : acts.length * 40 ≤ 140737488351232)
    (i : Int) (keep : Nat) (hkeep : keep < 18446744073709551616) :
    Calls Try.prog 3 #[.slice ao acts.length c, .int .i64 i, .int .u64 keep] w fun e w' => e = .returned (.bool true) ∧ Fr Nob w w' := by
  obtain ⟨n, hn⟩ : ∃ n, n = acts.length := ⟨_, rfl⟩
  rw [← hn] at hreach ⊢
  have HS := Lib.hid hS
  have HO := Lib.hid hok
  have HN := Lib.hid hn
  have HR := Lib.hid hreach
  have HK := Lib.hid hkeep
  have hnl : n ≤ 9223372036854775807 := by omega
  have L0 := Live.start w
  clear hS hok hn hreach hkeep
  go_enter Try.func3, Try.ntmps3
  go_wp2_with fail
  refine (L0.calls loc_emp (shown_calls w)).mono ?_
  rintro e w1 ⟨rfl, L1⟩
  clear L0
  go_wp2_with fail
  refine (new_ok 48 w1 (by omega) (by omega)).mono ?_
  rintro e w2 ⟨b, rfl, hd, hf⟩
  have L2 : Live w (Star (dskA kD b (DSt.fresh 48)) Emp) w2 := L1.new loc_emp hf hd
  clear L1 hd hf
  go_wp2_with fail
  refine (L2.calls (loc_star (loc_dsk _ _ _) loc_emp) (sector_calls ⟨#[]⟩ w2 (by decide))).mono ?_
  rintro e w3 ⟨rfl, L3⟩
  clear L2
  go_wp2_with fail
  obtain ⟨W4, hW4⟩ : ∃ W4, W4 = w3.alloc (.cells #[.string (secOf ⟨#[]⟩)] 9) := ⟨_, rfl⟩
  have hrow : W4.ownsRow 0 tStr 1 (.slice (some ⟨w3.heap.size, 0, none⟩) 1 1) 1 (strs [secOf ⟨#[]⟩]) := by
    rw [hW4]
    exact ⟨by simp [strs], .inr ⟨w3.heap.size, 1, #[.string (secOf ⟨#[]⟩)], rfl, Nat.zero_le _, Blk.new _ _ [_], Nat.le_refl _, by unfold maxLen; omega, rfl, by simp [strs]⟩⟩
  have L4 : Live w (Star (rowA tStr 1 (.slice (some ⟨w3.heap.size, 0, none⟩) 1 1) 1 (strs [secOf ⟨#[]⟩])) (Star (dskA kD b (DSt.fresh 48)) Emp)) W4 :=
    L3.new (loc_star (loc_dsk _ _ _) loc_emp) (by rw [hW4]; exact (Fr.refl _ _).alloc _) ⟨hrow, fun k hk => .inr ⟨by simp [Value.ownBlock] at hk; omega, (hrow.lt k hk).2⟩⟩
  rw [← hW4]
  clear L3 hrow hW4
  go_loopw [10, 11, 12] (fun s10 s11 s12 wr => SafeRel acts i w b s10 s11 s12 wr) (fun _ _ s12 _ => n - (intOf s12).toNat)
  case atStart => exact ⟨0, Nat.zero_le _, rfl, _, rfl, rfl, _, _, rfl, L4⟩
  case round =>
    obtain ⟨k, hk, rfl, st, hst0, rfl, ao1, c1, rfl, hL⟩ := hrel
    rw [← HN.out] at hk
    have hst := Lib.hid hst0
    clear hst0
    by_cases hlt : k < n
    · obtain ⟨a, ha⟩ : ∃ a, acts[k]? = some a := ⟨_, List.getElem?_eq_getElem (by rw [← HN.out]; exact hlt)⟩
      have hinv : SafeInv i k st := by
        have := safe_run secOf secOf_size (i := i) (D := DSt.fresh 48) rfl rfl (by simp [DSt.fresh]) rfl (by intro s hs; rw [List.eq_of_mem_replicate hs]; exact nought_sec) (acts.take k)
        rw [← hst.out, List.length_take, Nat.min_eq_left (by rw [← HN.out]; omega)] at this
        exact this
      obtain ⟨g, off, rfl, hg, q0, q1, q2, q3⟩ := act_cells HS.out hL.fr ha
      have hao := HO.out a (List.mem_of_getElem? ha)
      have HA := Lib.hid hao
      have hb1 : (st.D.wait.length + 1) * 24 ≤ 140737488355328 := by have := hinv.waits; have := HR.out; omega
      have hb2 : (st.seen.length + 1) * 16 ≤ 140737488355328 := by have := hinv.many; have := HR.out; omega
      have HB1 := Lib.hid hb1
      have HB2 := Lib.hid hb2
      have HT := Lib.hid ha
      have HI := Lib.hid hinv
      clear ha hao hinv hb1 hb2
      by_cases k2 : a.kind = 2
      · have t2 : (a.kind == 2) = true := by simpa using k2
        have K2 := Lib.hid k2
        clear k2
        have hst2 : safeStep secOf i st a = (if st.D.writeE a.i (secOf a.s) = 0 ∧ a.i = i then ⟨st.D.write a.i (secOf a.s), ⟨#[]⟩, st.seen ++ [secOf a.s]⟩ else ⟨st.D.write a.i (secOf a.s), st.sure, st.seen⟩) := by
          unfold safeStep; rw [if_pos K2.out]
        have HS2 := Lib.hid hst2
        clear hst2
        go_wp2_with fail
        have L5 := hL.box (loc_star (loc_row _ _ _ _ _) (loc_star (loc_dsk _ _ _) loc_emp)) tAct (cellsA a)
        clear hL
        have L6 := L5.drew (loc_star (loc_blk _ _ _) (loc_star (loc_row _ _ _ _ _) (loc_star (loc_dsk _ _ _) loc_emp)))
        clear L5
        go_region_held3 (fun w' => w'.cell? ⟨wr.heap.size, 1, none⟩ = some (.int .i64 a.i) ∧ w'.cell? ⟨wr.heap.size, 2, none⟩ = some (.string a.s))
          (first | go_keep | exact ⟨c17, c27⟩ | exact ⟨c18, c28⟩)
          (first
            | (go_at_call 11; refine (L6.calls (loc_star (loc_blk _ _ _) (loc_star (loc_row _ _ _ _ _) (loc_star (loc_dsk _ _ _) loc_emp))) (sector_calls a.s _ (by have := HA.out.2; omega))).mono ?_; rintro e w7 ⟨rfl, L7⟩; obtain ⟨S7, h7⟩ := L7.first; have c17 := h7.1.cell (j := 1) rfl; have c27 := h7.1.cell (j := 2) rfl)
            | (go_at_call 12; refine (L7.op ((((d_write a.i (secOf a.s) HB1.out).left loc_emp).right (loc_row _ _ _ _ _)).right (loc_blk _ _ _))).mono ?_; rintro e w8 ⟨rfl, L8⟩; obtain ⟨S8, h8⟩ := L8.first; have c18 := h8.1.cell (j := 1) rfl; have c28 := h8.1.cell (j := 2) rfl))
        clear L6 L7 h7 c17 c27
        by_cases hEI : st.D.writeE a.i (secOf a.s) = 0 ∧ a.i = i
        · have t3 : (st.D.writeE a.i (secOf a.s) == 0) = true := by rw [beq_iff_eq]; exact hEI.1
          have t4 : (a.i == i) = true := by rw [beq_iff_eq]; exact hEI.2
          have HE := Lib.hid hEI
          clear hEI
          go_wp2_with fail
          refine (L8.calls (loc_star (loc_blk _ _ _) (loc_star (loc_row _ _ _ _ _) (loc_star (loc_dsk _ _ _) loc_emp))) (sector_calls a.s _ (by have := HA.out.2; omega))).mono ?_
          rintro e w9 ⟨rfl, L9⟩
          obtain ⟨S9, h9⟩ := L9.drop.first
          have HW := Lib.hid h9.1
          clear L8 h8 c18 c28 h9
          go_wp2_with (at_builtin; refine wpList_append_mine rfl (ho := rfl) (s := .tmp 60) (x := .tmp 64) Try.rowStr rfl (HW.out.alloc _) rfl (srcs_one w9 _ _ 1 rfl) HB2.out ?_; intro v' w10 hown hf10 hv10 _; obtain ⟨g', cap', rfl⟩ := row_succ hown)
          go_roundw
          case rel =>
            have L10 := ((L9.drop.alloc (loc_star (loc_row _ _ _ _ _) (loc_star (loc_dsk _ _ _) loc_emp)) (.cells #[.string (secOf a.s)] tStr)).turn (loc_star (loc_dsk _ _ _) loc_emp) (turn_append hown hf10 hv10))
            have hs := HS2.out
            rw [if_pos HE.out] at hs
            refine safe_next HT.out hst.out hs (by simp) (by omega) ?_
            rw [show strs (st.seen ++ [secOf a.s]) = strs st.seen ++ [.string (secOf a.s)] by simp [strs]]
            exact L10
          case measure => simp [intOf]; omega
        · have hs := HS2.out
          rw [if_neg hEI] at hs
          have HS3 := Lib.hid hs
          clear hs
          by_cases hE : st.D.writeE a.i (secOf a.s) = 0
          · have t3 : (st.D.writeE a.i (secOf a.s) == 0) = true := by rw [beq_iff_eq]; exact hE
            have t4 : (a.i == i) = false := by rw [beq_eq_false_iff_ne]; exact fun h => hEI ⟨hE, h⟩
            clear hE hEI
            go_wp2_with fail
            go_roundw
            case rel => exact safe_next HT.out hst.out HS3.out rfl (by omega) L8.drop
            case measure => simp [intOf]; omega
          · have t3 : (st.D.writeE a.i (secOf a.s) == 0) = false := by rw [beq_eq_false_iff_ne]; exact hE
            clear hE hEI
            go_wp2_with fail
            go_roundw
            case rel => exact safe_next HT.out hst.out HS3.out rfl (by omega) L8.drop
            case measure => simp [intOf]; omega
      · by_cases k3 : a.kind = 3
        · have t2 : (a.kind == 2) = false := by rw [beq_eq_false_iff_ne]; exact k2
          have t3 : (a.kind == 3) = true := by rw [beq_iff_eq]; exact k3
          have hs : safeStep secOf i st a = (if st.D.flushE = 0 ∧ st.D.flush.readE i = 0 then ⟨st.D.flush, st.D.flush.readS i, st.seen⟩ else ⟨st.D.flush, st.sure, st.seen⟩) := by
            unfold safeStep; rw [if_neg k2, if_pos k3]
          have HS2 := Lib.hid hs
          clear hs k2 k3
          go_wp2_with fail
          have L5 := hL.box (loc_star (loc_row _ _ _ _ _) (loc_star (loc_dsk _ _ _) loc_emp)) tAct (cellsA a)
          clear hL
          refine (L5.op ((((d_flush (by have := HB1.out; omega)).left loc_emp).right (loc_row _ _ _ _ _)).right (loc_blk _ _ _))).mono ?_
          rintro e w6 ⟨rfl, L6⟩
          clear L5
          go_wp2_with fail
          refine (L6.op ((((d_read i (flush_wait HB1.out)).left loc_emp).right (loc_row _ _ _ _ _)).right (loc_blk _ _ _))).mono ?_
          rintro e w7 ⟨rfl, L7⟩
          obtain ⟨S7, h7⟩ := L7.first
          have c7 := h7.1.cell (j := 0) rfl
          clear L6 h7
          by_cases hE : st.D.flushE = 0
          · have t4 : (st.D.flushE == 0) = true := by rw [beq_iff_eq]; exact hE
            by_cases hF : st.D.flush.readE i = 0
            · have t5 : (st.D.flush.readE i == 0) = true := by rw [beq_iff_eq]; exact hF
              have hs := HS2.out
              rw [if_pos ⟨hE, hF⟩] at hs
              have HS3 := Lib.hid hs
              clear hs hE hF
              go_wp2_with fail
              go_roundw
              case rel => exact safe_next HT.out hst.out HS3.out rfl (by omega) L7.drop
              case measure => simp [intOf]; omega
            · have t5 : (st.D.flush.readE i == 0) = false := by rw [beq_eq_false_iff_ne]; exact hF
              have hs := HS2.out
              rw [if_neg (fun h => hF h.2)] at hs
              have HS3 := Lib.hid hs
              clear hs hE hF
              go_wp2_with fail
              go_roundw
              case rel => exact safe_next HT.out hst.out HS3.out rfl (by omega) L7.drop
              case measure => simp [intOf]; omega
          · have t4 : (st.D.flushE == 0) = false := by rw [beq_eq_false_iff_ne]; exact hE
            have hs := HS2.out
            rw [if_neg (fun h => hE h.1)] at hs
            have HS3 := Lib.hid hs
            clear hs hE
            go_wp2_with fail
            go_roundw
            case rel => exact safe_next HT.out hst.out HS3.out rfl (by omega) L7.drop
            case measure => simp [intOf]; omega
        · have t2 : (a.kind == 2) = false := by rw [beq_eq_false_iff_ne]; exact k2
          have t3 : (a.kind == 3) = false := by rw [beq_eq_false_iff_ne]; exact k3
          by_cases k5 : a.kind = 5
          · have t5 : (a.kind == 5) = true := by rw [beq_iff_eq]; exact k5
            have hs : safeStep secOf i st a = ⟨st.D.crash a.keep, st.sure, st.seen⟩ := by
              unfold safeStep; rw [if_neg k2, if_neg k3, if_pos k5]
            have HS3 := Lib.hid hs
            clear hs k2 k3 k5
            go_wp2_with fail
            have L5 := hL.box (loc_star (loc_row _ _ _ _ _) (loc_star (loc_dsk _ _ _) loc_emp)) tAct (cellsA a)
            clear hL
            refine (L5.op ((((d_crash a.keep HA.out.1 (by have := HB1.out; omega)).left loc_emp).right (loc_row _ _ _ _ _)).right (loc_blk _ _ _))).mono ?_
            rintro e w6 ⟨rfl, L6⟩
            clear L5
            go_wp2_with fail
            go_roundw
            case rel => exact safe_next HT.out hst.out HS3.out rfl (by omega) L6.drop
            case measure => simp [intOf]; omega
          · have t5 : (a.kind == 5) = false := by rw [beq_eq_false_iff_ne]; exact k5
            have hs : safeStep secOf i st a = st := by
              unfold safeStep; rw [if_neg k2, if_neg k3, if_neg k5]
            have HS3 := Lib.hid hs
            clear hs k2 k3 k5
            go_wp2_with fail
            have L5 := hL.box (loc_star (loc_row _ _ _ _ _) (loc_star (loc_dsk _ _ _) loc_emp)) tAct (cellsA a)
            clear hL
            go_roundw
            case rel => exact safe_next HT.out hst.out HS3.out rfl (by omega) L5.drop
            case measure => simp [intOf]; omega
    · obtain rfl : k = n := by omega
      have hinv : SafeInv i k st := by
        have := safe_run secOf secOf_size (i := i) (D := DSt.fresh 48) rfl rfl (by simp [DSt.fresh]) rfl (by intro s hs; rw [List.eq_of_mem_replicate hs]; exact nought_sec) (acts.take k)
        rw [← hst.out, List.length_take, Nat.min_eq_left (by rw [← HN.out]; omega)] at this
        exact this
      have HI := Lib.hid hinv
      have hb1 : (st.D.wait.length + 1) * 24 ≤ 140737488355328 := by have := hinv.waits; have := HR.out; omega
      have HB1 := Lib.hid hb1
      clear hinv hb1
      go_wp2_with fail
      refine (hL.op (((d_crash keep HK.out (by have := HB1.out; omega)).left loc_emp).right (loc_row _ _ _ _ _))).mono ?_
      rintro e w5 ⟨rfl, L5⟩
      clear hL
      go_wp2_with fail
      refine (L5.op (((d_read i (by show 0 * 24 ≤ _; omega)).left loc_emp).right (loc_row _ _ _ _ _))).mono ?_
      rintro e w6 ⟨rfl, L6⟩
      clear L5
      by_cases hi : 0 ≤ i ∧ i < 48
      · obtain ⟨hE, hmem, hsure⟩ := safe_end HI.out keep hi.1 hi.2
        rw [hE]
        clear hE
        obtain ⟨s, hs⟩ : ∃ s, s = (st.D.crash keep).readS i := ⟨_, rfl⟩
        rw [← hs] at hmem hsure ⊢
        obtain ⟨S6, h6⟩ := L6.first
        have HW := Lib.hid h6.1
        have hm : st.seen.length ≤ 9223372036854775807 := by have := HI.out.many; have := HR.out; omega
        have HM := Lib.hid hmem
        have HU := Lib.hid hsure
        have HF := Lib.hid L6.fr
        clear hs hmem hsure h6 L6 hi
        go_wp2_with fail
        go_loop [20, 21] (fun f t => ∃ j : Nat, j ≤ st.seen.length ∧ t = .int .i64 j ∧ f = .bool (memB s (st.seen.take j))) (fun _ t => st.seen.length - (intOf t).toNat)
        case atStart => exact ⟨0, Nat.zero_le _, rfl, rfl⟩
        case round =>
          obtain ⟨j, hj, rfl, rfl⟩ := hrel
          by_cases hjl : j < st.seen.length
          · obtain ⟨x, hx⟩ : ∃ x, st.seen[j]? = some x := ⟨_, List.getElem?_eq_getElem hjl⟩
            obtain ⟨g, cap', hg⟩ : ∃ g cap', (Value.slice ao1 st.seen.length c1) = .slice (some ⟨g, 0, none⟩) st.seen.length cap' := by
              rcases row_form HW.out with ⟨_, h2⟩ | ⟨g, cap, h1⟩
              · omega
              · exact ⟨_, _, h1⟩
            simp only [Value.slice.injEq, true_and] at hg
            obtain ⟨rfl, rfl⟩ := hg
            have e1 := HW.out.cells (g := g) rfl j (.string x) (by simp [strs, hx])
            simp only [Addr.add_lit, Nat.zero_add] at e1
            have hn := memB_snoc s hx
            have HN2 := Lib.hid hn
            clear hn hx
            cases hf : memB s (st.seen.take j) with
            | true =>
              rw [hf] at HN2
              have HFF := Lib.hid hf
              clear hf
              go_wp2
              go_round
              case rel => exact ⟨j + 1, by omega, by go_num, by rw [HN2.out]; rfl⟩
              case measure => simp [intOf]; omega
            | false =>
              rw [hf] at HN2
              have HFF := Lib.hid hf
              clear hf
              have hxe := bytes_beq x s
              go_wp2
              go_round
              case rel => exact ⟨j + 1, by omega, by go_num, by rw [HN2.out]; simp⟩
              case measure => simp [intOf]; omega
          · obtain rfl : j = st.seen.length := by omega
            have hfd : memB s (st.seen.take st.seen.length) = true := by rw [List.take_length]; exact memB_of HM.out
            rw [hfd]
            clear hfd
            by_cases hu : st.sure = ⟨#[]⟩
            · rw [hu]
              go_wp2
              go_ret
              exact ⟨rfl, HF.out⟩
            · have hse := HU.out hu
              have h1 : (st.sure.toList == []) = false := text_ne hu
              have h2 : (s.toList == st.sure.toList) = true := by rw [bytes_beq]; exact decide_eq_true hse
              go_wp2
              go_ret
              exact ⟨rfl, HF.out⟩
      · have hE := safe_end_bad HI.out keep (by omega)
        have HF := Lib.hid L6.fr
        rw [hE]
        clear L6 hE
        by_cases h0 : i < 0
        · go_wp2_with fail
          go_ret
          exact ⟨rfl, HF.out⟩
        · have h1 : 48 ≤ i := by omega
          go_wp2_with fail
          go_ret
          exact ⟨rfl, HF.out⟩
end Go.Proofs.Ytimhjhiipghdhaa
