/- DiskReads, walked. -/
import Derived.Test.YtimhjhiipghdhaaLawC
import Derived.Test.YtimhjhiipghdhaaReads
namespace Go.Proofs.Ytimhjhiipghdhaa
open Go.RowKit

theorem act_cells2 {w wr : World} {g off n c : Nat} {acts : List ActD} (h : Srcs w (.slice (some ⟨g, off, none⟩) n c) acts.length 4 (flatA acts)) (hf : Fr Nob w wr) {k : Nat} {a : ActD} (hk : acts[k]? = some a) :
    wr.cell? ⟨g, off + k * 4, none⟩ = some (.int .i64 a.kind) ∧ wr.cell? ⟨g, off + k * 4 + 1, none⟩ = some (.int .i64 a.i) ∧
      wr.cell? ⟨g, off + k * 4 + 2, none⟩ = some (.string a.s) ∧ wr.cell? ⟨g, off + k * 4 + 3, none⟩ = some (.int .u64 a.keep) := by
  obtain ⟨g', off', e, _, h1⟩ := act_cells h hf hk
  simp only [Option.some.injEq, Addr.mk.injEq, and_true] at e
  obtain ⟨rfl, rfl⟩ := e
  exact h1

def ReadRel (acts : List ActD) (i : Int) (w : World) (b : Nat) (s8 s9 : Value) (wr : World) : Prop :=
  ∃ k : Nat, k ≤ acts.length ∧ s9 = .int .i64 k ∧ ∃ st, st = readRun secOf i (DSt.fresh 48) (acts.take k) ∧ s8 = .string st.last ∧ Live w (Star (dskA kD b st.D) Emp) wr
theorem read_next {acts : List ActD} {i : Int} {w : World} {b : Nat} {k : Nat} {a : ActD} {st : ReadSt} (ha : acts[k]? = some a) (hst : st = readRun secOf i (DSt.fresh 48) (acts.take k)) {st' : ReadSt} (h' : readStep secOf i st a = st')
    {wr : World} {z : Int} (hz : z = (k : Int) + 1) {s : ByteArray} (hs : s = st'.last) (hL : Live w (Star (dskA kD b st'.D) Emp) wr) : ReadRel acts i w b (.string s) (.int .i64 z) wr := by
  subst hs
  refine ⟨k + 1, (List.getElem?_eq_some_iff.1 ha).1, by subst hz; rfl, st', ?_, rfl, hL⟩
  unfold readRun at hst ⊢
  rw [List.take_add_one, ha, Option.toList_some, List.foldl_append, ← hst]
  exact h'.symm

set_option maxRecDepth 100000 in
set_option maxHeartbeats 4000000 in
theorem reads_calls {acts : List ActD} {ao : Option Addr} {c : Nat} {w : World} (hS : Srcs w (.slice ao acts.length c) acts.length 4 (flatA acts)) (hok : ActsOk acts) (hreach : acts.length * 40 ≤ 140737488351232) (i : Int) :
    Calls Try.prog 4 #[.slice ao acts.length c, .int .i64 i] w fun e w' => e = .returned (.bool true) ∧ Fr Nob w w' := by
  obtain ⟨n, hn⟩ : ∃ n, n = acts.length := ⟨_, rfl⟩
  rw [← hn] at hreach ⊢
  have HS := Lib.hid hS
  have HO := Lib.hid hok
  have HN := Lib.hid hn
  have HR := Lib.hid hreach
  have hnl : n ≤ 9223372036854775807 := by omega
  have L0 := Live.start w
  clear hS hok hn hreach
  go_enter Try.func4, Try.ntmps4
  go_wp2_with fail
  refine (L0.calls loc_emp (shown_calls w)).mono ?_
  rintro e w1 ⟨rfl, L1⟩
  clear L0
  go_wp2_with fail
  refine (new_ok 48 w1 (by omega) (by omega)).mono ?_
  rintro e w2 ⟨b, rfl, hd, hf⟩
  have L2 : Live w (Star (dskA kD b (DSt.fresh 48)) Emp) w2 := L1.new loc_emp hf hd
  clear L1 hd hf
  by_cases hi0 : i < 0
  · have HF := Lib.hid L2.fr
    clear L2
    go_wp2_with fail
    go_ret
    exact ⟨rfl, HF.out⟩
  by_cases hi1 : 48 ≤ i
  · have HF := Lib.hid L2.fr
    clear L2
    go_wp2_with fail
    go_ret
    exact ⟨rfl, HF.out⟩
  go_wp2_with fail
  refine (L2.calls (loc_star (loc_dsk _ _ _) loc_emp) (sector_calls ⟨#[]⟩ w2 (by decide))).mono ?_
  rintro e w3 ⟨rfl, L3⟩
  clear L2
  go_wp2_with fail
  go_loopw [8, 9] (fun s8 s9 wr => ReadRel acts i w b s8 s9 wr) (fun _ s9 _ => n - (intOf s9).toNat)
  case atStart => exact ⟨0, Nat.zero_le _, rfl, _, rfl, rfl, L3⟩
  case round =>
    obtain ⟨k, hk, rfl, st, hst0, rfl, hL⟩ := hrel
    rw [← HN.out] at hk
    have hst := Lib.hid hst0
    clear hst0 L3
    by_cases hlt : k < n
    · obtain ⟨a, ha⟩ : ∃ a, acts[k]? = some a := ⟨_, List.getElem?_eq_getElem (by rw [← HN.out]; exact hlt)⟩
      obtain ⟨i', rfl⟩ := Int.eq_ofNat_of_zero_le (show 0 ≤ i by omega)
      have hin : ∀ m : Nat, m ≤ acts.length → ReadInv i' m (readRun secOf i' (DSt.fresh 48) (acts.take m)) := by
        intro m hm
        have := read_run secOf (i := i') (by omega) secOf_size (D := DSt.fresh 48) rfl rfl (by simp [DSt.fresh]) rfl (by intro s hs; rw [List.eq_of_mem_replicate hs]; exact nought_sec) (acts.take m)
        rwa [List.length_take, Nat.min_eq_left hm] at this
      have hinv : ReadInv i' k st := by rw [hst.out]; exact hin k (by rw [← HN.out]; exact hk)
      have hinv2 := read_step secOf (i := i') (by omega) secOf_size hinv a
      obtain ⟨g, off, rfl, hg, q0, q1, q2, q3⟩ := act_cells HS.out hL.fr ha
      have HAA := Lib.hid (HO.out a (List.mem_of_getElem? ha))
      have hb1 : (st.D.wait.length + 1) * 24 ≤ 140737488355328 := by have := hinv.waits; have := HR.out; omega
      have HB1 := Lib.hid hb1
      have HT := Lib.hid ha
      have HI := Lib.hid hinv2
      clear ha hb1 hin hinv hinv2
      by_cases k2 : a.kind = 2
      · have t2 : (a.kind == 2) = true := by rw [beq_iff_eq]; exact k2
        have t3 : (a.kind == 3) = false := by rw [beq_eq_false_iff_ne]; omega
        have hs : readStep secOf i' st a = ⟨st.D.write a.i (secOf a.s), if a.i = i' then secOf a.s else st.last⟩ := by unfold readStep; rw [if_pos k2]
        rw [hs] at HI
        have hrd : (st.D.write a.i (secOf a.s)).readS i' = (if a.i = i' then secOf a.s else st.last) ∧ (st.D.write a.i (secOf a.s)).readE i' = 0 := by
          have hl : (i' : Int) < (st.D.write a.i (secOf a.s)).safe.length := by rw [HI.out.len]; omega
          obtain ⟨e1, e2⟩ := DSt.read_on HI.out.off (i := (i' : Int)) (by omega) hl
          exact ⟨e1.trans (by rw [Int.toNat_natCast]; exact HI.out.now), e2⟩
        have hwl : (st.D.write a.i (secOf a.s)).wait.length * 24 ≤ 140737488355328 := by have := HI.out.waits; have := HR.out; have := hlt; simp only at *; omega
        have HS2 := Lib.hid hs
        have HRD := Lib.hid hrd
        have HWL := Lib.hid hwl
        clear hs k2 hrd hwl
        go_wp2_with fail
        have L6 := hL.drew (loc_star (loc_dsk _ _ _) loc_emp)
        have hfr := hL.fr
        clear hL
        go_region_held3 (fun w' => w'.cell? ⟨g, off + k * 4 + 1, none⟩ = some (.int .i64 a.i) ∧ w'.cell? ⟨g, off + k * 4 + 2, none⟩ = some (.string a.s))
          (first | go_keep | exact ⟨c17, c27⟩ | exact ⟨c18, c28⟩)
          (first
            | (go_at_call 11; refine (L6.calls (loc_star (loc_dsk _ _ _) loc_emp) (sector_calls a.s _ (by have := HAA.out.2; omega))).mono ?_; rintro e w7 ⟨rfl, L7⟩; obtain ⟨_, c17, c27, _⟩ := act_cells2 HS.out L7.fr HT.out)
            | (go_at_call 12; refine (L7.op ((d_write a.i (secOf a.s) HB1.out).left loc_emp)).mono ?_; rintro e w8 ⟨rfl, L8⟩; obtain ⟨_, c18, c28, _⟩ := act_cells2 HS.out L8.fr HT.out))
        clear L6 L7 c17 c27 hfr
        obtain ⟨p0, _, _, _⟩ := act_cells2 HS.out L8.fr HT.out
        by_cases hai : a.i = i'
        · have t4 : (a.i == (i' : Int)) = true := by rw [beq_iff_eq]; exact hai
          rw [if_pos hai] at HRD HS2
          have HA5 := Lib.hid hai
          clear hai
          go_wp2_with fail
          refine (L8.calls (loc_star (loc_dsk _ _ _) loc_emp) (sector_calls a.s _ (by have := HAA.out.2; omega))).mono ?_
          rintro e w9 ⟨rfl, L9⟩
          obtain ⟨p0, _, _, _⟩ := act_cells2 HS.out L9.fr HT.out
          clear L8 c18 c28
          go_wp2_with fail
          refine (L9.op ((d_read i' HWL.out).left loc_emp)).mono ?_
          rintro e w10 ⟨rfl, L10⟩
          rw [HRD.out.1]
          go_wp2_with fail
          go_roundw
          case rel => exact read_next HT.out hst.out HS2.out (by omega) rfl L10
          case measure => simp [intOf]; omega
        · have t4 : (a.i == (i' : Int)) = false := by rw [beq_eq_false_iff_ne]; exact hai
          rw [if_neg hai] at HRD HS2
          clear hai
          go_wp2_with fail
          refine (L8.op ((d_read i' HWL.out).left loc_emp)).mono ?_
          rintro e w10 ⟨rfl, L10⟩
          rw [HRD.out.1]
          go_wp2_with fail
          go_roundw
          case rel => exact read_next HT.out hst.out HS2.out (by omega) rfl L10
          case measure => simp [intOf]; omega
      · have t2 : (a.kind == 2) = false := by rw [beq_eq_false_iff_ne]; exact k2
        by_cases k3 : a.kind = 3
        · have t3 : (a.kind == 3) = true := by rw [beq_iff_eq]; exact k3
          have hs : readStep secOf i' st a = ⟨st.D.flush, st.last⟩ := by unfold readStep; rw [if_neg k2, if_pos k3]
          rw [hs] at HI
          have hrd : st.D.flush.readS i' = st.last ∧ st.D.flush.readE i' = 0 := by
            have hl : (i' : Int) < st.D.flush.safe.length := by rw [HI.out.len]; omega
            obtain ⟨e1, e2⟩ := DSt.read_on HI.out.off (i := (i' : Int)) (by omega) hl
            exact ⟨e1.trans (by rw [Int.toNat_natCast]; exact HI.out.now), e2⟩
          have HS2 := Lib.hid hs
          have HRD := Lib.hid hrd
          clear hs k2 k3 hrd
          go_wp2_with fail
          refine (hL.op ((d_flush (by have := HB1.out; omega)).left loc_emp)).mono ?_
          rintro e w6 ⟨rfl, L6⟩
          clear hL
          go_wp2_with fail
          refine (L6.op ((d_read i' (flush_wait HB1.out)).left loc_emp)).mono ?_
          rintro e w10 ⟨rfl, L10⟩
          rw [HRD.out.1]
          go_wp2_with fail
          go_roundw
          case rel => exact read_next HT.out hst.out HS2.out (by omega) rfl L10
          case measure => simp [intOf]; omega
        · have t3 : (a.kind == 3) = false := by rw [beq_eq_false_iff_ne]; exact k3
          have hs : readStep secOf i' st a = st := by unfold readStep; rw [if_neg k2, if_neg k3]
          rw [hs] at HI
          have hrd : st.D.readS i' = st.last ∧ st.D.readE i' = 0 := by
            have hl : (i' : Int) < st.D.safe.length := by rw [HI.out.len]; omega
            obtain ⟨e1, e2⟩ := DSt.read_on HI.out.off (i := (i' : Int)) (by omega) hl
            exact ⟨e1.trans (by rw [Int.toNat_natCast]; exact HI.out.now), e2⟩
          have HS2 := Lib.hid hs
          have HRD := Lib.hid hrd
          clear hs k2 k3 hrd
          go_wp2_with fail
          refine (hL.op ((d_read i' (by have := HB1.out; omega)).left loc_emp)).mono ?_
          rintro e w10 ⟨rfl, L10⟩
          rw [HRD.out.1]
          clear hL
          go_wp2_with fail
          go_roundw
          case rel => exact read_next HT.out hst.out HS2.out (by omega) rfl L10
          case measure => simp [intOf]; omega
    · obtain rfl : k = n := by omega
      have HF := Lib.hid hL.fr
      clear hL
      go_wp2_with fail
      go_ret
      exact ⟨rfl, HF.out⟩
end Go.Proofs.Ytimhjhiipghdhaa
