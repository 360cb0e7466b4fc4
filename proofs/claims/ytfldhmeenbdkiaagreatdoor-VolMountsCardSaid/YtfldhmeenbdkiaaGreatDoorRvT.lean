/- The document's volume: Stat, Link, Free, Cut. -/
import Derived.Test.YtfldhmeenbdkiaaGreatDoorRvS
import Derived.BigRegion
import Derived.BigQuiet
namespace Go.Proofs.YtfldhmeenbdkiaaGreatDoor
open Go.RowKit

theorem Tryz.sizeNode : (Tryz.prog.info? tRNode).map (·.size) = some 3 := by kernel_rfl
section
variable {S0 : Nat → Prop} {w0 w : World} {r nb c m : Nat} {sp : List Value} {A : Nat → Node} {B R : Asr}
theorem afind_cases (A : Nat → Node) (n : Int) : (afindE A n ≠ 0) ∨ (afindE A n = 0 ∧ ∃ k : Nat, n = k ∧ k < 32 ∧ (A k).kind ≠ 0) := by
  by_cases h : afindE A n = 0
  · right
    refine ⟨h, n.toNat, ?_⟩
    unfold afindE at h
    split at h
    · cases h
    · split at h
      · cases h
      · rename_i h1 h2
        exact ⟨by omega, by omega, h2⟩
  · exact .inl h
theorem rv_there (h : Lv S0 w0 (Star (rvA r nb c sp m A) B) w) {k : Nat} (hk : k < 32) : w.there nb (k * 3) 3 := fun j hj => by
  obtain ⟨_, _, cn⟩ := rv_cells h
  obtain ⟨d0, d1, d2⟩ := cn k hk
  refine ⟨?_, rv_free h _⟩
  obtain rfl | rfl | rfl : j = 0 ∨ j = 1 ∨ j = 2 := by omega
  · exact (congrArg Option.isSome d0).trans rfl
  · exact (congrArg Option.isSome d1).trans rfl
  · exact (congrArg Option.isSome d2).trans rfl
set_option maxRecDepth 100000 in
set_option maxHeartbeats 1000000 in
theorem rstat_calls (hL : Lv S0 w0 (Star (rvA r nb c sp m A) B) w) (hB : Loc B) (n : Int) :
    Calls Tryz.prog 14 #[.pointer (some ⟨r, 0, none⟩), .int .i64 n] w fun e w' => e = .returned (.tuple #[if afindE A n = 0 then nstatV (A n.toNat) else nstatV Node.free, .int .i64 (afindE A n)]) ∧ Lv S0 w0 (Star (rvA r nb c sp m A) B) w' := by
  have hR : Loc (Star (rvA r nb c sp m A) B) := loc_star (loc_rv _ _ _ _ _ _) hB
  have L1 := Lv.box hL hR tStat zeroS
  have HF := Lib.hid ((rfind_calls (L1.map fun _ h => star_flip h) n).mono fun e w' ⟨h1, h2⟩ => (⟨h1, h2 ▸ L1⟩ : e = Ending.returned (.int .i64 (afindE A n)) ∧ Lv S0 w0 (Star (blkA w.heap.size tStat zeroS) (Star (rvA r nb c sp m A) B)) w'))
  obtain ⟨b0, hb0⟩ : ∃ b0, b0 = w.heap.size := ⟨_, rfl⟩
  rw [← hb0] at HF
  have HB0 := Lib.hid hb0
  rcases afind_cases A n with h0 | ⟨h0, k, rfl, hk, hz⟩
  · rw [if_neg h0]
    have hne : (afindE A n != 0) = true := by rw [bne_iff_ne]; exact h0
    generalize afindE A n = gE at *
    clear L1 hL h0 hb0
    go_enter Tryz.func14, Tryz.ntmps14
    go_wp2_with fail
    rw [← HB0.out]
    refine HF.out.mono ?_
    rintro e w2 ⟨rfl, L2⟩
    have HB := Lib.hid L2.blk
    have HL := Lib.hid L2
    have z0 := L2.blk.cell (j := 0) rfl
    have z1 := L2.blk.cell (j := 1) rfl
    have z2 := L2.blk.cell (j := 2) rfl
    have f0 := L2.blk.free 0
    have f1 := L2.blk.free 1
    have f2 := L2.blk.free 2
    clear L2
    go_wp2_with fail
    refine bodyPost_ret (results_blk_tmp rfl rfl (((HB.out.set 0 _).set 1 _).set 2 _) Tryz.underlying41 rfl Tryz.sizeStat) rfl ?_
    exact ⟨rfl, (((HL.out.turn hR (turn_blk 0 _)).turn hR (turn_blk 1 _)).turn hR (turn_blk 2 _)).drop⟩
  · rw [if_pos h0, Int.toNat_natCast]
    rw [h0] at HF ⊢
    have hk2 : (k : Int) < 32 := by omega
    have HK := Lib.hid hk
    unfold nstatV
    rw [← dataB_size (A k)]
    obtain ⟨kd, hkd⟩ : ∃ x, x = (A k).kind := ⟨_, rfl⟩
    obtain ⟨lk, hlk⟩ : ∃ x, x = (A k).links := ⟨_, rfl⟩
    obtain ⟨db, hdb⟩ : ∃ x, x = dataB (A k) := ⟨_, rfl⟩
    rw [← hkd, ← hlk, ← hdb]
    have HKD := Lib.hid hkd
    have HLK := Lib.hid hlk
    have HDB := Lib.hid hdb
    clear L1 hL h0 hz hk hb0 hkd hlk hdb
    go_enter Tryz.func14, Tryz.ntmps14
    go_wp2_with fail
    rw [← HB0.out]
    refine HF.out.mono ?_
    rintro e w2 ⟨rfl, L2⟩
    have HB := Lib.hid L2.blk
    have HL := Lib.hid L2
    obtain ⟨c0, c1, cn⟩ := rv_cells (L2.map fun _ h => star_flip h)
    obtain ⟨d0, d1, d2⟩ := cn k HK.out
    have z0 := L2.blk.cell (j := 0) rfl
    have z1 := L2.blk.cell (j := 1) rfl
    have z2 := L2.blk.cell (j := 2) rfl
    have f0 := L2.blk.free 0
    have f1 := L2.blk.free 1
    have f2 := L2.blk.free 2
    rw [← HKD.out] at d0
    rw [← HLK.out] at d1
    rw [← HDB.out] at d2
    clear L2 cn c0
    go_wp2_with fail
    go_region
    go_wp2_with fail
    refine bodyPost_ret (results_blk_tmp rfl rfl (((HB.out.set 0 _).set 1 _).set 2 _).drew Tryz.underlying41 rfl Tryz.sizeStat) rfl ?_
    exact ⟨rfl, ((((HL.out.turn hR (turn_blk 0 _)).turn hR (turn_blk 1 _)).turn hR (turn_blk 2 _)).drop).drew hR⟩
theorem rl_find {full : Bool} {n by_ : Int} (h : afindE A n ≠ 0) : alinkE A full n by_ = afindE A n ∧ alink A full n by_ = A := by
  have e : alinkE A full n by_ = afindE A n := by unfold alinkE; rw [if_pos h]
  exact ⟨e, by unfold alink; rw [if_neg (by rw [e]; exact h)]⟩
theorem rl_many {full : Bool} {n by_ : Int} (h : afindE A n = 0) (h2 : by_ < -255 ∨ 255 < by_ ∨ (A n.toNat).links + by_ < 0 ∨ 255 < (A n.toNat).links + by_) : alinkE A full n by_ = 15 ∧ alink A full n by_ = A := by
  have e : alinkE A full n by_ = 15 := by unfold alinkE; rw [if_neg (by simpa using h), if_pos h2]
  exact ⟨e, by unfold alink; rw [if_neg (by rw [e]; decide)]⟩
theorem rl_full {n by_ : Int} (h : afindE A n = 0) (h2 : ¬ (by_ < -255 ∨ 255 < by_ ∨ (A n.toNat).links + by_ < 0 ∨ 255 < (A n.toNat).links + by_)) : alinkE A true n by_ = 4 ∧ alink A true n by_ = A := by
  have e : alinkE A true n by_ = 4 := by unfold alinkE; rw [if_neg (by simpa using h), if_neg h2, if_pos rfl]
  exact ⟨e, by unfold alink; rw [if_neg (by rw [e]; decide)]⟩
theorem rl_ok {n by_ : Int} (h : afindE A n = 0) (h2 : ¬ (by_ < -255 ∨ 255 < by_ ∨ (A n.toNat).links + by_ < 0 ∨ 255 < (A n.toNat).links + by_)) : alinkE A false n by_ = 0 ∧ alink A false n by_ = setA A n.toNat { A n.toNat with links := ((A n.toNat).links + by_).toNat } := by
  have e : alinkE A false n by_ = 0 := by unfold alinkE; rw [if_neg (by simpa using h), if_neg h2, if_neg (by decide)]
  exact ⟨e, by unfold alink; rw [if_pos e]⟩
set_option maxRecDepth 100000 in
set_option maxHeartbeats 2000000 in
theorem rlink_calls (hL : Lv S0 w0 (Star (rvA r nb c sp m A) B) w) (hB : Loc B) (hA : AOk m A) (n by_ : Int) (full : Bool) :
    Calls Tryz.prog 74 #[.pointer (some ⟨r, 0, none⟩), .int .i64 n, .int .i64 by_, .bool full] w fun e w' => e = .returned (.int .i64 (alinkE A full n by_)) ∧ Lv S0 w0 (Star (rvA r nb c sp m (alink A full n by_)) B) w' := by
  have HF := Lib.hid (rfind_calls hL n)
  have HL := Lib.hid hL
  have HBL := Lib.hid hB
  rcases afind_cases A n with h0 | ⟨h0, k, rfl, hk, hz⟩
  · obtain ⟨e1, e2⟩ := rl_find (full := full) (by_ := by_) h0
    rw [e1, e2]
    have hne : (afindE A n != 0) = true := by rw [bne_iff_ne]; exact h0
    generalize afindE A n = gE at *
    clear hL h0 e1 e2 hA hB
    go_enter Tryz.func74, Tryz.ntmps74
    go_wp2_with fail
    refine HF.out.mono ?_
    rintro e w2 ⟨rfl, rfl⟩
    go_wp2_with fail
    go_ret
    exact ⟨rfl, HL.out⟩
  · obtain ⟨c0, c1, cn⟩ := rv_cells hL
    obtain ⟨d0, d1, d2⟩ := cn k hk
    have hk2 : (k : Int) < 32 := by omega
    have hlk := (hA k hk).2.1
    have hfr := rv_free hL (k * 3 + 1)
    have HK := Lib.hid hk
    rw [h0] at HF
    clear c0 cn hz d0 d2 hL hA hB
    by_cases hm : by_ < -255 ∨ 255 < by_ ∨ (A k).links + by_ < 0 ∨ 255 < (A k).links + by_
    · obtain ⟨e1, e2⟩ := rl_many (full := full) h0 hm
      rw [e1, e2]
      clear e1 e2 h0 hfr HBL
      generalize (A k).links = lk at *
      by_cases b1 : by_ < -255
      · clear hm hlk hk
        go_enter Tryz.func74, Tryz.ntmps74
        go_wp2_with fail
        refine HF.out.mono ?_
        rintro e w2 ⟨rfl, rfl⟩
        go_wp2_with fail
        go_ret
        exact ⟨rfl, HL.out⟩
      · by_cases b2 : 255 < by_
        · clear hm hlk hk
          go_enter Tryz.func74, Tryz.ntmps74
          go_wp2_with fail
          refine HF.out.mono ?_
          rintro e w2 ⟨rfl, rfl⟩
          go_wp2_with fail
          go_ret
          exact ⟨rfl, HL.out⟩
        · have wr : IntKind.i64.wrap ((lk : Int) + by_) = (lk : Int) + by_ := by rw [IntKind.wrap_i64] <;> omega
          by_cases b3 : (lk : Int) + by_ < 0
          · clear hm hlk hk
            go_enter Tryz.func74, Tryz.ntmps74
            go_wp2_with fail
            refine HF.out.mono ?_
            rintro e w2 ⟨rfl, rfl⟩
            go_wp2_with fail
            go_ret
            exact ⟨rfl, HL.out⟩
          · have b4 : 255 < (lk : Int) + by_ := by omega
            clear hm hlk hk
            go_enter Tryz.func74, Tryz.ntmps74
            go_wp2_with fail
            refine HF.out.mono ?_
            rintro e w2 ⟨rfl, rfl⟩
            go_wp2_with fail
            go_ret
            exact ⟨rfl, HL.out⟩
    · have b1 : ¬ by_ < -255 := by omega
      have b2 : ¬ 255 < by_ := by omega
      have b3 : ¬ (((A k).links : Nat) : Int) + by_ < 0 := by omega
      have b4 : ¬ 255 < (((A k).links : Nat) : Int) + by_ := by omega
      have wr : IntKind.i64.wrap ((((A k).links : Nat) : Int) + by_) = (((A k).links : Nat) : Int) + by_ := by rw [IntKind.wrap_i64] <;> omega
      cases full with
      | true =>
        obtain ⟨e1, e2⟩ := rl_full h0 hm
        rw [e1, e2]
        clear e1 e2 h0 hfr HBL hm hlk hk
        generalize (A k).links = lk at *
        go_enter Tryz.func74, Tryz.ntmps74
        go_wp2_with fail
        refine HF.out.mono ?_
        rintro e w2 ⟨rfl, rfl⟩
        go_wp2_with fail
        go_ret
        exact ⟨rfl, HL.out⟩
      | false =>
        obtain ⟨e1, e2⟩ := rl_ok h0 hm
        rw [e1, e2]
        obtain ⟨l2, hl2⟩ : ∃ l2 : Nat, (l2 : Int) = ((A k).links : Int) + by_ := ⟨(((A k).links : Int) + by_).toNat, by omega⟩
        have hE := Lib.hid (rv_links HL.out HBL.out HK.out l2)
        rw [hl2] at hE
        rw [Int.toNat_natCast, show ((((A k).links : Nat) : Int) + by_).toNat = l2 by omega]
        clear e1 e2 h0 hm hlk hk hl2
        generalize (A k).links = lk at *
        go_enter Tryz.func74, Tryz.ntmps74
        go_wp2_with fail
        refine HF.out.mono ?_
        rintro e w2 ⟨rfl, rfl⟩
        go_wp2_with fail
        go_region
        go_wp2_with fail
        go_ret
        exact ⟨rfl, hE.out.drew (loc_star (loc_rv _ _ _ _ _ _) HBL.out)⟩
theorem rf_find {full : Bool} {n : Int} (h : afindE A n ≠ 0) : afreeE A full n = afindE A n ∧ afree A full n = A := by
  have e : afreeE A full n = afindE A n := by unfold afreeE; rw [if_pos h]
  exact ⟨e, by unfold afree; rw [if_neg (by rw [e]; exact h)]⟩
theorem rf_full {n : Int} (h : afindE A n = 0) : afreeE A true n = 4 ∧ afree A true n = A := by
  have e : afreeE A true n = 4 := by unfold afreeE; rw [if_neg (by simpa using h), if_pos rfl]
  exact ⟨e, by unfold afree; rw [if_neg (by rw [e]; decide)]⟩
theorem rf_ok {n : Int} (h : afindE A n = 0) : afreeE A false n = 0 ∧ afree A false n = setA A n.toNat Node.free := by
  have e : afreeE A false n = 0 := by unfold afreeE; rw [if_neg (by simpa using h), if_neg (by decide)]
  exact ⟨e, by unfold afree; rw [if_pos e]⟩
set_option maxRecDepth 100000 in
set_option maxHeartbeats 2000000 in
theorem rfree_calls (hL : Lv S0 w0 (Star (rvA r nb c sp m A) B) w) (hB : Loc B) (n : Int) (full : Bool) :
    Calls Tryz.prog 73 #[.pointer (some ⟨r, 0, none⟩), .int .i64 n, .bool full] w fun e w' => e = .returned (.int .i64 (afreeE A full n)) ∧ Lv S0 w0 (Star (rvA r nb c sp m (afree A full n)) B) w' := by
  have HF := Lib.hid (rfind_calls hL n)
  have HL := Lib.hid hL
  have HBL := Lib.hid hB
  rcases afind_cases A n with h0 | ⟨h0, k, rfl, hk, hz⟩
  · obtain ⟨e1, e2⟩ := rf_find (full := full) h0
    rw [e1, e2]
    have hne : (afindE A n != 0) = true := by rw [bne_iff_ne]; exact h0
    have heq : (afindE A n == 0) = false := by rw [beq_eq_false_iff_ne]; exact h0
    generalize afindE A n = gE at *
    clear hL h0 e1 e2 hB
    go_enter Tryz.func73, Tryz.ntmps73
    go_wp2_with fail
    refine HF.out.mono ?_
    rintro e w2 ⟨rfl, rfl⟩
    go_wp2_with fail
    go_ret
    exact ⟨rfl, HL.out⟩
  · obtain ⟨c0, c1, cn⟩ := rv_cells hL
    have hk2 : (k : Int) < 32 := by omega
    obtain ⟨d0, d1, d2⟩ := cn k hk
    have f0 := rv_free hL (k * 3)
    have f1 := rv_free hL (k * 3 + 1)
    have f2 := rv_free hL (k * 3 + 2)
    have HK := Lib.hid hk
    rw [h0] at HF
    clear c0 cn hz hL hB hk
    cases full with
    | true =>
      obtain ⟨e1, e2⟩ := rf_full h0
      rw [e1, e2]
      clear e1 e2 h0 HBL
      go_enter Tryz.func73, Tryz.ntmps73
      go_wp2_with fail
      refine HF.out.mono ?_
      rintro e w2 ⟨rfl, rfl⟩
      go_wp2_with fail
      go_ret
      exact ⟨rfl, HL.out⟩
    | false =>
      obtain ⟨e1, e2⟩ := rf_ok h0
      rw [e1, e2]
      have hE := Lib.hid (rv_node HL.out HBL.out HK.out Node.free)
      rw [Int.toNat_natCast]
      clear e1 e2 h0 HBL
      generalize (A k).kind = kd at *
      generalize (A k).links = lk at *
      generalize dataB (A k) = db at *
      go_enter Tryz.func73, Tryz.ntmps73
      go_wp2_with fail
      refine HF.out.mono ?_
      rintro e w2 ⟨rfl, rfl⟩
      go_wp2_with fail
      go_ret
      exact ⟨rfl, hE.out⟩
theorem rc_find {full : Bool} {n z : Int} (h : afindE A n ≠ 0) : acutE A full n z = afindE A n ∧ acut A full n z = A := by
  have e : acutE A full n z = afindE A n := by unfold acutE; rw [if_pos h]
  exact ⟨e, by unfold acut; rw [if_neg (by rw [e]; exact h)]⟩
theorem rc_arg {full : Bool} {n z : Int} (h : afindE A n = 0) (h2 : z < 0 ∨ ((A n.toNat).data.length : Int) < z) : acutE A full n z = 1 ∧ acut A full n z = A := by
  have e : acutE A full n z = 1 := by unfold acutE; rw [if_neg (by simpa using h), if_pos h2]
  exact ⟨e, by unfold acut; rw [if_neg (by rw [e]; decide)]⟩
theorem rc_full {n z : Int} (h : afindE A n = 0) (h2 : ¬ (z < 0 ∨ ((A n.toNat).data.length : Int) < z)) : acutE A true n z = 4 ∧ acut A true n z = A := by
  have e : acutE A true n z = 4 := by unfold acutE; rw [if_neg (by simpa using h), if_neg h2, if_pos rfl]
  exact ⟨e, by unfold acut; rw [if_neg (by rw [e]; decide)]⟩
theorem rc_ok {n z : Int} (h : afindE A n = 0) (h2 : ¬ (z < 0 ∨ ((A n.toNat).data.length : Int) < z)) : acutE A false n z = 0 ∧ acut A false n z = setA A n.toNat { A n.toNat with data := (A n.toNat).data.take z.toNat } := by
  have e : acutE A false n z = 0 := by unfold acutE; rw [if_neg (by simpa using h), if_neg h2, if_neg (by decide)]
  exact ⟨e, by unfold acut; rw [if_pos e]⟩
theorem bytes_of {x y : ByteArray} (h : x.data.toList = y.data.toList) : x = y := by
  cases x; cases y
  simp only [ByteArray.mk.injEq]
  exact Array.toList_inj.1 h
theorem bytes_mk (l : List UInt8) {x : ByteArray} (h : x.data.toList = l) : x = ⟨l.toArray⟩ := bytes_of (by rw [h])
set_option maxRecDepth 100000 in
set_option maxHeartbeats 2000000 in
theorem rcut_calls (hL : Lv S0 w0 (Star (rvA r nb c sp m A) B) w) (hB : Loc B) (hA : AOk m A) (n z : Int) (full : Bool) :
    Calls Tryz.prog 76 #[.pointer (some ⟨r, 0, none⟩), .int .i64 n, .int .i64 z, .bool full] w fun e w' => e = .returned (.int .i64 (acutE A full n z)) ∧ Lv S0 w0 (Star (rvA r nb c sp m (acut A full n z)) B) w' := by
  have HF := Lib.hid (rfind_calls hL n)
  have HL := Lib.hid hL
  have HBL := Lib.hid hB
  rcases afind_cases A n with h0 | ⟨h0, k, rfl, hk, hz⟩
  · obtain ⟨e1, e2⟩ := rc_find (full := full) (z := z) h0
    rw [e1, e2]
    have hne : (afindE A n != 0) = true := by rw [bne_iff_ne]; exact h0
    generalize afindE A n = gE at *
    clear hL h0 e1 e2 hA hB
    go_enter Tryz.func76, Tryz.ntmps76
    go_wp2_with fail
    refine HF.out.mono ?_
    rintro e w2 ⟨rfl, rfl⟩
    go_wp2_with fail
    go_ret
    exact ⟨rfl, HL.out⟩
  · obtain ⟨c0, c1, cn⟩ := rv_cells hL
    obtain ⟨d0, d1, d2⟩ := cn k hk
    have hk2 : (k : Int) < 32 := by omega
    have hln := (hA k hk).2.2
    have hfr := rv_free hL (k * 3 + 2)
    have HK := Lib.hid hk
    have hds := dataB_size (A k)
    rw [h0] at HF
    clear c0 cn hz d0 d1 hL hA hB hk
    by_cases hm : z < 0 ∨ ((A k).data.length : Int) < z
    · obtain ⟨e1, e2⟩ := rc_arg (full := full) h0 hm
      rw [e1, e2]
      rw [← hds] at hm
      clear e1 e2 h0 hfr HBL hds hln
      generalize dataB (A k) = db at *
      by_cases b1 : z < 0
      · clear hm
        go_enter Tryz.func76, Tryz.ntmps76
        go_wp2_with fail
        refine HF.out.mono ?_
        rintro e w2 ⟨rfl, rfl⟩
        go_wp2_with fail
        go_ret
        exact ⟨rfl, HL.out⟩
      · have b2 : (db.size : Int) < z := by omega
        clear hm
        go_enter Tryz.func76, Tryz.ntmps76
        go_wp2_with fail
        refine HF.out.mono ?_
        rintro e w2 ⟨rfl, rfl⟩
        go_wp2_with fail
        go_ret
        exact ⟨rfl, HL.out⟩
    · have b1 : ¬ z < 0 := by omega
      have b2 : ¬ (((dataB (A k)).size : Nat) : Int) < z := by rw [hds]; omega
      cases full with
      | true =>
        obtain ⟨e1, e2⟩ := rc_full h0 hm
        rw [e1, e2]
        clear e1 e2 h0 hfr HBL hm hln hds
        generalize dataB (A k) = db at *
        go_enter Tryz.func76, Tryz.ntmps76
        go_wp2_with fail
        refine HF.out.mono ?_
        rintro e w2 ⟨rfl, rfl⟩
        go_wp2_with fail
        go_ret
        exact ⟨rfl, HL.out⟩
      | false =>
        obtain ⟨e1, e2⟩ := rc_ok h0 hm
        rw [e1, e2]
        obtain ⟨z, rfl⟩ : ∃ j : Nat, z = j := ⟨z.toNat, by omega⟩
        have hE := Lib.hid (rv_data HL.out HBL.out HK.out ((A k).data.take z))
        rw [← bytes_mk ((A k).data.take z) (x := (dataB (A k)).extract 0 z) (by rw [toList_extract, List.drop_zero]; rfl)] at hE
        rw [Int.toNat_natCast, Int.toNat_natCast]
        have b3 : z ≤ (dataB (A k)).size := by omega
        clear e1 e2 h0 hm hln hds
        generalize dataB (A k) = db at *
        go_enter Tryz.func76, Tryz.ntmps76
        go_wp2_with fail
        refine HF.out.mono ?_
        rintro e w2 ⟨rfl, rfl⟩
        go_wp2_with fail
        go_region
        go_wp2_with fail
        go_ret
        exact ⟨rfl, hE.out.drew (loc_star (loc_rv _ _ _ _ _ _) HBL.out)⟩
end
end Go.Proofs.YtfldhmeenbdkiaaGreatDoor
