/- The document's reading of home sectors: a whole volume, or none. -/
import Derived.Test.YtfldhmeenbdkiaaGreatDoorRvN
import Derived.Test.YtfldhmeenbdkiaaGreatDoorRvP
import Derived.Test.YtfldhmeenbdkiaaGreatDoorVmP
import Derived.Test.YtfldhmeenbdkiaaGreatDoorRvB
namespace Go.Proofs.YtfldhmeenbdkiaaGreatDoor
open Go.RowKit

abbrev tBool : Nat := 4
theorem Tryz.infoBool : (Tryz.prog.info? tBool).map (fun i => (i.zero, i.size, i.bytes)) = some (some (.bool false), 1, 1) := by kernel_rfl
def nodesTo (X : Sec) (k : Nat) : Nat → Node := fun j => if j < k then nodesX X j else Node.free
theorem nodesTo_succ (X : Sec) (k : Nat) : setA (nodesTo X k) k (nodesX X k) = nodesTo X (k + 1) := by
  funext j
  unfold setA nodesTo
  by_cases h : j = k
  · subst h; rw [if_pos rfl, if_pos (by omega)]
  · rw [if_neg h]
    by_cases h2 : j < k
    · rw [if_pos h2, if_pos (by omega)]
    · rw [if_neg h2, if_neg (by omega)]
/-- The volume that is made, the sectors that are used. -/
abbrev OfA (r nb c : Nat) (sp : List Value) (m ub : Nat) (U : Nat → Bool) (A : Nat → Node) : Asr := Star (blkA ub tBool (boolL U 512)) (Star (rvA r nb c sp m A) Emp)
theorem loc_of (r nb c : Nat) (sp : List Value) (m : Nat) (A : Nat → Node) : Loc (Star (rvA r nb c sp m A) Emp) := loc_star (loc_rv _ _ _ _ _ _) loc_emp
section
variable {w wr : World} {r nb c m ub : Nat} {sp : List Value} {U : Nat → Bool} {A : Nat → Node} {X : Sec}
theorem of_set {R : Asr} (h : Lv Nob w (Star (blkA ub tBool (boolL U 512)) R) wr) (hR : Loc R) {i : Nat} (hi : i < 512) : Lv Nob w (Star (blkA ub tBool (boolL (marks U [i]) 512)) R) (wr.setCell ⟨ub, i, none⟩ (.bool true)) := by
  have := h.turn hR (turn_blk i (.bool true))
  rw [boolL_set _ hi] at this
  exact this
theorem of_cell {R : Asr} (h : Lv Nob w (Star (blkA ub tBool (boolL U 512)) R) wr) {i : Nat} (hi : i < 512) : wr.cell? ⟨ub, i, none⟩ = some (.bool (U i)) ∧ wr.frozen? ⟨ub, i, none⟩ = false :=
  ⟨h.blk.cell (boolL_get _ hi), h.blk.free i⟩
theorem of_congr {R : Asr} {V : Nat → Bool} (h : Lv Nob w (Star (blkA ub tBool (boolL U 512)) R) wr) (e : ∀ q, q < 512 → U q = V q) : Lv Nob w (Star (blkA ub tBool (boolL V 512)) R) wr := by
  rw [boolL_congr e] at h
  exact h
/-- While an inode's sectors are noted. -/
abbrev OfB (r nb c : Nat) (sp : List Value) (m ub b8 : Nat) (U : Nat → Bool) (A : Nat → Node) (ds : List Value) (v : Value) (l : List Nat) : Asr :=
  Star (blkA ub tBool (boolL U 512)) (Star (blkA b8 tRNode ds) (Star (rowA tIntE 1 v l.length (nums l)) (Star (rvA r nb c sp m A) Emp)))
theorem loc_ofB (r nb c : Nat) (sp : List Value) (m b8 : Nat) (A : Nat → Node) (ds : List Value) (v : Value) (l : List Nat) : Loc (Star (blkA b8 tRNode ds) (Star (rowA tIntE 1 v l.length (nums l)) (Star (rvA r nb c sp m A) Emp))) :=
  loc_star (loc_blk _ _ _) (loc_star (loc_row _ _ _ _ _) (loc_of _ _ _ _ _ _))
theorem ofB_in {b8 : Nat} {ds : List Value} {v : Value} {l : List Nat} (h : Lv Nob w (Star (blkA b8 tRNode ds) (Star (rowA tIntE 1 v l.length (nums l)) (OfA r nb c sp m ub U A))) wr) : Lv Nob w (OfB r nb c sp m ub b8 U A ds v l) wr :=
  h.map fun _ h => star_flip (star_right h fun _ h => star_flip h)
theorem ofB_row {b8 : Nat} {ds : List Value} {v : Value} {l : List Nat} (h : Lv Nob w (OfB r nb c sp m ub b8 U A ds v l) wr) : wr.ownsRow 0 tIntE 1 v l.length (nums l) ∧ Blk wr b8 tRNode ds := by
  obtain ⟨_, ⟨_, _, _, ⟨_, _, h1, ⟨_, _, h2, _⟩, _⟩, _⟩, _⟩ := h
  exact ⟨h2.1, h1.1⟩
theorem ofB_rv {b8 : Nat} {ds : List Value} {v : Value} {l : List Nat} (h : Lv Nob w (OfB r nb c sp m ub b8 U A ds v l) wr) : Lv Nob w (OfA r nb c sp m ub U A) wr :=
  h.map fun _ h => star_less (star_less h)
theorem of_node (h : Lv Nob w (OfA r nb c sp m ub U A) wr) {n : Nat} (hn : n < 32) (d : Node) : Lv Nob w (OfA r nb c sp m ub U (setA A n d)) (((wr.setCell ⟨nb, n * 3, none⟩ (.int .i64 d.kind)).setCell ⟨nb, n * 3 + 1, none⟩ (.int .i64 d.links)).setCell ⟨nb, n * 3 + 2, none⟩ (.string (dataB d))) :=
  (rv_node (h.map fun _ h => star_flip h) (loc_star (loc_blk _ _ _) loc_emp) hn d).map fun _ h => star_flip h
theorem rv_congr {A' : Nat → Node} {B : Asr} (h : Lv Nob w (Star (rvA r nb c sp m A) B) wr) (e : ∀ n, n < 32 → A n = A' n) : Lv Nob w (Star (rvA r nb c sp m A') B) wr := by
  have : nodesL A 32 = nodesL A' 32 := by
    unfold nodesL
    rw [List.flatMap_def, List.flatMap_def, List.map_congr_left fun i hi => by rw [e i (List.mem_range.1 hi)]]
  unfold rvA at h ⊢
  rw [this] at h
  exact h
theorem nine_succ (i q : Nat) (_h : q < 512) : marks (fun q => decide (q < i)) [i] q = decide (q < i + 1) := by
  unfold marks
  rw [Bool.eq_iff_iff]
  simp
  omega
theorem not_whole {k : Nat} (hk : k < 32) (h : ¬ InoT m X k) : ¬ Whole m X := fun hw => h (hw.each k hk)
end
/-- What the reading comes to. -/
def OfPost (m : Nat) (X : Sec) (w : World) (e : Ending) (w' : World) : Prop :=
  (Whole m X ∧ ∃ r, e = .returned (.tuple #[.pointer (some ⟨r, 0, none⟩), .bool true]) ∧ Lv Nob w (rvX r m (nodesX X)) w') ∨
  (¬ Whole m X ∧ e = .returned (.tuple #[.pointer none, .bool false]) ∧ Fr Nob w w')

set_option maxRecDepth 100000 in
set_option maxHeartbeats 16000000 in
theorem rof_calls {w : World} {m : Nat} {X : Sec} {ho : Option Addr} {hc : Nat} (hs : Srcs w (.slice ho m hc) m 1 (secL X m)) (hX : ∀ i, i < m → (X i).size = 64) (h16 : 16 ≤ m) (hm : m ≤ 512) :
    Calls Tryz.prog 12 #[.slice ho m hc] w (OfPost m X w) := by
  obtain ⟨hg, off, rfl, hcells⟩ := secs_cells hs (by omega)
  have HC := Lib.hid hcells
  have HS := Lib.hid hs
  have HX := Lib.hid hX
  have H16 := Lib.hid h16
  have HM := Lib.hid hm
  have HNW := Lib.hid (rnew_calls m w)
  have hgl := World.block_lt_of_cell? _ _ (hcells 0 (by omega))
  have HGL : Hid (hg < w.heap.size) := Lib.hid hgl
  clear hcells hs hX h16 hm hgl
  go_enter Tryz.func12, Tryz.ntmps12
  go_wp2_with fail
  refine HNW.out.mono ?_
  rintro e w2 ⟨r, rfl, L2⟩
  obtain ⟨nb, hnb⟩ : ∃ nb, nb = w.heap.size := ⟨_, rfl⟩
  rw [← hnb] at L2
  have L2 : Lv Nob w (Star (rvA r nb 32 [] m (fun _ => Node.free)) Emp) w2 := L2.map fun U h => ⟨U, Nob, h, trivial, fun _ _ h => h, fun _ h => h, fun _ h => h.elim⟩
  have HL2 := Lib.hid L2
  clear L2 HNW hnb
  go_wp2_with (with_reducible show wpList _ _ _ _ _ _; refine wpList_make_mine rfl rfl Tryz.underlying94 Tryz.infoBool rfl (n := 512) rfl rfl (by decide) (by decide) ?_; intro w3 hb3 hf3 hs3)
  obtain ⟨ub, hub⟩ : ∃ ub, ub = w2.heap.size := ⟨_, rfl⟩
  rw [← hub] at hb3 ⊢
  have L3 : Lv Nob w (OfA r nb 32 [] m ub (fun q => decide (q < 0)) (nodesTo X 0)) w3 := by
    have := HL2.out.new (B := blkA ub tBool (List.replicate 512 (.bool false))) (loc_of _ _ _ _ _ _) hf3 ⟨hb3, .inr ⟨by omega, by omega⟩⟩
    rw [boolL_rep] at this
    exact this
  have HL3 := Lib.hid L3
  clear L3 HL2 hb3 hf3 hs3 hub
  go_loopw [6] (fun s6 wr => ∃ i : Nat, i ≤ 9 ∧ s6 = .int .i64 i ∧ Hid (Lv Nob w (OfA r nb 32 [] m ub (fun q => decide (q < i)) (nodesTo X 0)) wr)) (fun s6 _ => 9 - (intOf s6).toNat)
  case atStart => exact ⟨0, Nat.zero_le _, rfl, HL3⟩
  case round =>
    clear HL3
    obtain ⟨i, hi, rfl, HL⟩ := hrel
    by_cases hlt : i < 9
    · obtain ⟨q0, q1⟩ := of_cell HL.out (i := i) (by omega)
      have HE := of_set HL.out (loc_of _ _ _ _ _ _) (i := i) (by omega)
      have HE := Lib.hid (of_congr HE (nine_succ i))
      have i9 : (i : Int) < 512 := by omega
      go_wp2_with fail
      go_roundw
      case rel => exact ⟨i + 1, hlt, by go_num, HE⟩
      case measure => simp [intOf]; omega
    · obtain rfl : i = 9 := by omega
      have HL3 : Hid (Lv Nob w (OfA r nb 32 [] m ub (usedTo X 0) (nodesTo X 0)) wr) := HL
      clear HL
      go_wp2_with fail
      go_loopw [7] (fun s7 wr => ∃ k : Nat, k ≤ 32 ∧ s7 = .int .i64 k ∧ Hid (∀ j, j < k → InoT m X j) ∧ Hid (Lv Nob w (OfA r nb 32 [] m ub (usedTo X k) (nodesTo X k)) wr)) (fun s7 _ => 32 - (intOf s7).toNat)
      case atStart => exact ⟨0, Nat.zero_le _, rfl, Lib.hid (fun j hj => by omega), HL3⟩
      case round =>
        clear HL3
        obtain ⟨k, hk, rfl, HT, HL⟩ := hrel
        by_cases hlt : k < 32
        · have hcs := HL.out.fr.cell (HC.out (1 + k / 4) (by have := H16.out; omega)) (fun h => h)
          have hx64 := HX.out (1 + k / 4) (by have := H16.out; omega)
          have h1 : IntKind.i64.wrap (1 + (k : Int) / 4) = ((1 + k / 4 : Nat) : Int) := by rw [IntKind.wrap_i64] <;> omega
          have h0 : (k : Int).tmod 4 = ((k % 4 : Nat) : Int) := by rw [Int.tmod_eq_emod_of_nonneg (by omega)]; omega
          have h0w : IntKind.i64.wrap ((k % 4 : Nat) : Int) = ((k % 4 : Nat) : Int) := by rw [IntKind.wrap_i64] <;> omega
          have h2 : IntKind.i64.wrap (((k % 4 : Nat) : Int) * 16) = ((k % 4 * 16 : Nat) : Int) := by rw [IntKind.wrap_i64] <;> omega
          have h3 : IntKind.i64.wrap (((k % 4 * 16 : Nat) : Int) + 16) = ((k % 4 * 16 + 16 : Nat) : Int) := by rw [IntKind.wrap_i64] <;> omega
          have hlm : ((1 + k / 4 : Nat) : Int) < (m : Int) := by have := H16.out; omega
          have hsrc : Srcs wr (.slice (some ⟨hg, off, none⟩) m hc) m 1 (secL X m) := HS.out.fr HL.out.fr (fun _ _ _ _ h => h)
          have hxx : xinode X k = decodeP ((X (1 + k / 4)).extract (k % 4 * 16) (k % 4 * 16 + 16)) := rfl
          obtain ⟨s, hs⟩ : ∃ s, s = (X (1 + k / 4)).extract (k % 4 * 16) (k % 4 * 16 + 16) := ⟨_, rfl⟩
          have hss : (X (1 + k / 4)).extract (k % 4 * 16) (k % 4 * 16 + 16) = s := hs.symm
          have hs16 : s.size = 16 := by rw [hs, ByteArray.size_extract]; omega
          have HN := Lib.hid (rnode_calls hsrc HX.out H16.out HM.out hs16)
          rw [← hs] at hxx
          rw [← hxx] at HN
          obtain ⟨st, hst⟩ : ∃ st, st = X (1 + k / 4) := ⟨_, rfl⟩
          rw [← hst] at hcs hx64 hss
          have hb1 : k % 4 * 16 + 16 ≤ st.size := by omega
          have hb2 : k % 4 * 16 ≤ k % 4 * 16 + 16 := by omega
          clear hsrc hxx hs hs16 hst hx64
          go_wp2_with fail
          refine HN.out.mono ?_
          rintro e w5 ⟨hf5, hpost⟩
          have L5 := HL.out.keep (loc_star (loc_blk _ _ _) (loc_of _ _ _ _ _ _)) hf5
          have HL5 := Lib.hid L5
          clear L5
          rcases hpost with ⟨hino, v, rfl, hown, hnew⟩ | ⟨hbad, rfl⟩
          · obtain ⟨l, hl⟩ : ∃ l, l = ownL X (xinode X k) := ⟨_, rfl⟩
            obtain ⟨kd, hkd⟩ : ∃ x, x = (xinode X k).kind := ⟨_, rfl⟩
            obtain ⟨lk, hlk⟩ : ∃ x, x = (xinode X k).links := ⟨_, rfl⟩
            obtain ⟨db, hdb⟩ : ∃ x, x = dataB (nodeX X (xinode X k)) := ⟨_, rfl⟩
            rw [show nodeV (nodeX X (xinode X k)) = .agg #[.int .i64 kd, .int .i64 lk, .string db] by rw [hkd, hlk, hdb]; rfl]
            have hlin : ∀ i, i ∈ l → 9 ≤ i ∧ i < m := fun i hi => own_in hino (by rw [← hl]; exact hi)
            rw [← hl] at hown
            have L6 := HL.out.new (B := rowA tIntE 1 v l.length (nums l)) (loc_star (loc_blk _ _ _) (loc_of _ _ _ _ _ _)) hf5 ⟨hown, fun q hq => .inr ⟨hnew q hq, (hown.lt q hq).2⟩⟩
            obtain ⟨b8, hb8⟩ : ∃ b8, b8 = w5.heap.size := ⟨_, rfl⟩
            obtain ⟨ao, cap, rfl⟩ := row_any hown
            have hN : ∀ v0 v1 v2 : Value, Lv Nob w (OfB r nb 32 [] m ub b8 (usedTo X k) (nodesTo X k) [v0, v1, v2] (.slice ao l.length cap) l) (w5.alloc (.cells #[v0, v1, v2] tRNode)) := fun v0 v1 v2 => by
              have l6 : Loc (Star (rowA tIntE 1 (.slice ao l.length cap) l.length (nums l)) (OfA r nb 32 [] m ub (usedTo X k) (nodesTo X k))) := loc_star (loc_row _ _ _ _ _) (loc_star (loc_blk _ _ _) (loc_of _ _ _ _ _ _))
              rw [hb8]
              exact ofB_in (L6.box l6 tRNode [v0, v1, v2])
            have HN8 := Lib.hid hN
            have HIN := Lib.hid hlin
            have HLL := Lib.hid hl
            have HKD := Lib.hid hkd
            have HLK := Lib.hid hlk
            have HDB := Lib.hid hdb
            have HB8 := Lib.hid hb8
            have HINO := Lib.hid hino
            clear L6 hN hlin hown hnew hf5 HL5 hl hkd hlk hdb hb8 hino HN
            go_wp2_with fail
            have hap0 : Apart (usedTo X k) (l.take 0) := by rw [List.take_zero]; exact apart_nil _
            have hL0 : Lv Nob w (OfB r nb 32 [] m ub b8 (marks (usedTo X k) (l.take 0)) (nodesTo X k) [.int .i64 kd, .int .i64 lk, .string db] (.slice ao l.length cap) l) (w5.alloc (.cells #[.int .i64 kd, .int .i64 lk, .string db] tRNode)) := by
              rw [List.take_zero, marks_nil]; exact HN8.out _ _ _
            have HL0 := Lib.hid hL0
            have HLN : Hid (l.length ≤ 38) := Lib.hid (by rw [HLL.out, own_len HINO.out]; exact takes_le38' HINO.out.size)
            have HAP0 := Lib.hid hap0
            clear hL0 hap0
            rcases Nat.eq_zero_or_pos l.length with hz | hpos
            · go_loopw [11] (fun s11 wr => s11 = .int .i64 0 ∧ Hid (Lv Nob w (OfB r nb 32 [] m ub b8 (marks (usedTo X k) (l.take 0)) (nodesTo X k) [.int .i64 kd, .int .i64 lk, .string db] (.slice ao l.length cap) l) wr)) (fun _ _ => 0)
              case atStart => exact ⟨rfl, HL0⟩
              case round =>
                clear HL0 HN8 HL
                obtain ⟨rfl, HL⟩ := hrel
                have hl0 : l = [] := List.length_eq_zero_iff.1 hz
                have HAP : Hid (Apart (usedTo X k) l) := by rw [hl0]; exact Lib.hid (apart_nil _)
                have HL : Hid (Lv Nob w (OfB r nb 32 [] m ub b8 (marks (usedTo X k) l) (nodesTo X k) [.int .i64 kd, .int .i64 lk, .string db] (.slice ao l.length cap) l) wr) := by
                  have := HL.out
                  rw [List.take_zero, ← hl0] at this
                  exact Lib.hid this
                have hz2 : ¬ (0 : Int) < (l.length : Int) := by omega
                clear HAP0 hl0
                have HL9 := Lib.hid (ofB_rv HL.out)
                have z0 := (ofB_row HL.out).2.cell (j := 0) rfl
                have z1 := (ofB_row HL.out).2.cell (j := 1) rfl
                have z2 := (ofB_row HL.out).2.cell (j := 2) rfl
                rw [HB8.out] at z0 z1 z2
                have HRV := Lib.hid (HL9.out.map fun _ h => star_flip h)
                have c1 := (rv_cells HRV.out).2.1
                obtain ⟨e0, e1, e2⟩ := (rv_cells HRV.out).2.2 k hlt
                have f0 := rv_free HRV.out (k * 3)
                have f1 := rv_free HRV.out (k * 3 + 1)
                have f2 := rv_free HRV.out (k * 3 + 2)
                have hmu : marks (usedTo X k) l = usedTo X (k + 1) := by rw [HLL.out]; rfl
                have hE : Lv Nob w (OfA r nb 32 [] m ub (usedTo X (k + 1)) (nodesTo X (k + 1))) (((wr.setCell ⟨nb, k * 3, none⟩ (.int .i64 kd)).setCell ⟨nb, k * 3 + 1, none⟩ (.int .i64 lk)).setCell ⟨nb, k * 3 + 2, none⟩ (.string db)) := by
                  have := of_node HL9.out hlt (nodesX X k)
                  rw [nodesTo_succ, hmu] at this
                  rw [HKD.out, HLK.out, HDB.out]
                  exact this
                have hE := Lib.hid hE
                have HTN : Hid (∀ j, j < k + 1 → InoT m X j) := Lib.hid fun j hj => by
                  by_cases e : j = k
                  · subst e; exact ⟨HINO.out, by rw [← HLL.out]; exact HAP.out⟩
                  · exact HT.out j (by omega)
                generalize hA0 : ((nodesTo X k k).kind : Int) = a0 at e0
                generalize hA1 : ((nodesTo X k k).links : Int) = a1 at e1
                generalize hA2 : dataB (nodesTo X k k) = a2 at e2
                have hlt2 : (k : Int) < 32 := by omega
                clear HL HRV hA0 hA1 hA2 hmu
                go_wp2_with fail
                go_region
                all_goals
                  go_wp2_with fail
                  go_roundw
                  case rel => first | exact ⟨k + 1, hlt, by go_num, HTN, Lib.hid (hE.out.drew (loc_star (loc_blk _ _ _) (loc_of _ _ _ _ _ _)))⟩ | ((repeat apply Exists.intro); exact ⟨⟨_, hlt, by go_num, HTN, Lib.hid (hE.out.drew (loc_star (loc_blk _ _ _) (loc_of _ _ _ _ _ _)))⟩, rfl⟩)
                  case measure => simp [intOf]; omega
            · obtain ⟨g, hao⟩ : ∃ g, ao = some ⟨g, 0, none⟩ := by
                obtain ⟨g, cap', h⟩ : ∃ g cap', Value.slice ao l.length cap = .slice (some ⟨g, 0, none⟩) l.length cap' := (row_form (ofB_row HL0.out).1).elim (fun h => by have := h.2; omega) id
                simp only [Value.slice.injEq, true_and] at h
                exact ⟨g, h.1⟩
              subst hao
              go_loopw [11] (fun s11 wr => ∃ j : Nat, j ≤ l.length ∧ s11 = .int .i64 j ∧ Hid (Apart (usedTo X k) (l.take j)) ∧ Hid (Lv Nob w (OfB r nb 32 [] m ub b8 (marks (usedTo X k) (l.take j)) (nodesTo X k) [.int .i64 kd, .int .i64 lk, .string db] (.slice (some ⟨g, 0, none⟩) l.length cap) l) wr)) (fun s11 _ => l.length - (intOf s11).toNat)
              case atStart => exact ⟨0, Nat.zero_le _, rfl, HAP0, HL0⟩
              case round =>
                clear HL0 HN8 HL HAP0
                obtain ⟨j, hj, rfl, HAP, HL⟩ := hrel
                by_cases hjl : j < l.length
                · obtain ⟨y, hy⟩ : ∃ y, y = l[j] := ⟨_, rfl⟩
                  have hget : l[j]? = some y := by rw [hy]; exact List.getElem?_eq_getElem hjl
                  have hyin := HIN.out y (by rw [hy]; exact List.getElem_mem hjl)
                  have hy5 : y < 512 := by have := HM.out; omega
                  have hcy := (ofB_row HL.out).1.cells (g := g) rfl j (.int .i64 (y : Nat)) (by unfold nums; rw [List.getElem?_map, hget]; rfl)
                  simp only [Addr.add_lit, Nat.zero_add] at hcy
                  obtain ⟨q0, q1⟩ := of_cell HL.out hy5
                  have hjl2 : (j : Int) < (l.length : Int) := by omega
                  have hj40 : j < 40 := by have := HLN.out; omega
                  have hy52 : (y : Int) < 512 := by omega
                  have htk : l.take (j + 1) = l.take j ++ [y] := by rw [List.take_add_one, hget]; rfl
                  cases hU : marks (usedTo X k) (l.take j) y with
                  | true =>
                    rw [hU] at q0
                    have HBAD : Hid (¬ Whole m X) := Lib.hid (not_whole hlt fun h => by
                      have h2 := h.2
                      rw [← HLL.out] at h2
                      have h3 : Apart (usedTo X k) (l.take (j + 1)) := apart_left (l' := l.drop (j + 1)) (by rw [List.take_append_drop]; exact h2)
                      rw [htk] at h3
                      have h4 := (apart_snoc.1 h3).2
                      rw [hU] at h4; cases h4)
                    have HFR := Lib.hid HL.out.fr
                    clear hyin hget hy hU htk HL HAP
                    go_wp2_with fail
                    go_ret2
                    exact .inr ⟨HBAD.out, rfl, HFR.out⟩
                  | false =>
                    rw [hU] at q0
                    have HE := of_set HL.out (loc_ofB _ _ _ _ _ _ _ _ _ _) hy5
                    rw [marks_marks, ← htk] at HE
                    have HE := Lib.hid HE
                    have HAP2 : Hid (Apart (usedTo X k) (l.take (j + 1))) := Lib.hid (by rw [htk]; exact apart_snoc.2 ⟨HAP.out, hU⟩)
                    clear hyin hget hy hU htk HL HAP
                    go_wp2_with fail
                    go_roundw
                    case rel => exact ⟨j + 1, hjl, by go_num, HAP2, HE⟩
                    case measure => simp [intOf]; omega
                · have hje : j = l.length := by omega
                  have hjl2 : ¬ (j : Int) < (l.length : Int) := by omega
                  rw [hje, List.take_length] at HL HAP
                  clear hje
                  have HL9 := Lib.hid (ofB_rv HL.out)
                  have z0 := (ofB_row HL.out).2.cell (j := 0) rfl
                  have z1 := (ofB_row HL.out).2.cell (j := 1) rfl
                  have z2 := (ofB_row HL.out).2.cell (j := 2) rfl
                  rw [HB8.out] at z0 z1 z2
                  have HRV := Lib.hid (HL9.out.map fun _ h => star_flip h)
                  have c1 := (rv_cells HRV.out).2.1
                  obtain ⟨e0, e1, e2⟩ := (rv_cells HRV.out).2.2 k hlt
                  have f0 := rv_free HRV.out (k * 3)
                  have f1 := rv_free HRV.out (k * 3 + 1)
                  have f2 := rv_free HRV.out (k * 3 + 2)
                  have hmu : marks (usedTo X k) l = usedTo X (k + 1) := by rw [HLL.out]; rfl
                  have hE : Lv Nob w (OfA r nb 32 [] m ub (usedTo X (k + 1)) (nodesTo X (k + 1))) (((wr.setCell ⟨nb, k * 3, none⟩ (.int .i64 kd)).setCell ⟨nb, k * 3 + 1, none⟩ (.int .i64 lk)).setCell ⟨nb, k * 3 + 2, none⟩ (.string db)) := by
                    have := of_node HL9.out hlt (nodesX X k)
                    rw [nodesTo_succ, hmu] at this
                    rw [HKD.out, HLK.out, HDB.out]
                    exact this
                  have hE := Lib.hid hE
                  have HTN : Hid (∀ j, j < k + 1 → InoT m X j) := Lib.hid fun j hj => by
                    by_cases e : j = k
                    · subst e; exact ⟨HINO.out, by rw [← HLL.out]; exact HAP.out⟩
                    · exact HT.out j (by omega)
                  generalize hA0 : ((nodesTo X k k).kind : Int) = a0 at e0
                  generalize hA1 : ((nodesTo X k k).links : Int) = a1 at e1
                  generalize hA2 : dataB (nodesTo X k k) = a2 at e2
                  have hlt2 : (k : Int) < 32 := by omega
                  clear HL HRV hA0 hA1 hA2 hmu
                  go_wp2_with fail
                  go_region
                  all_goals
                    go_wp2_with fail
                    go_roundw
                    case rel => first | exact ⟨k + 1, hlt, by go_num, HTN, Lib.hid (hE.out.drew (loc_star (loc_blk _ _ _) (loc_of _ _ _ _ _ _)))⟩ | ((repeat apply Exists.intro); exact ⟨⟨_, hlt, by go_num, HTN, Lib.hid (hE.out.drew (loc_star (loc_blk _ _ _) (loc_of _ _ _ _ _ _)))⟩, rfl⟩)
                    case measure => simp [intOf]; omega
          · have HBAD : Hid (¬ Whole m X) := Lib.hid (not_whole hlt fun h => hbad h.1)
            have HFR := Lib.hid HL5.out.fr
            rw [show nodeV Node.free = .agg #[.int .i64 0, .int .i64 0, .string ⟨#[]⟩] from rfl]
            clear hbad hf5
            go_wp2_with fail
            go_ret2
            exact .inr ⟨HBAD.out, rfl, HFR.out.alloc _⟩
        · have HFX := Lib.hid HL.out
          clear HL
          obtain ⟨F, hF⟩ : ∃ F, F = usedTo X k := ⟨_, rfl⟩
          obtain ⟨AN, hAN⟩ : ∃ A, A = nodesTo X k := ⟨_, rfl⟩
          rw [← hF, ← hAN] at HFX
          have hk32 : k = 32 := by omega
          have HF := Lib.hid hF
          have HAN := Lib.hid hAN
          have HK32 := Lib.hid hk32
          have hge : ¬ (k : Int) < 32 := by omega
          have hx0 : byteAt (X 0) 0 < 256 := byteAt_lt _ _
          have hs0 := HX.out 0 (by have := H16.out; omega)
          obtain ⟨st, hst⟩ : ∃ st, st = X 0 := ⟨_, rfl⟩
          have HST := Lib.hid hst
          rw [← hst] at hs0
          have hm0 : (0 : Int) < (m : Int) := by have := H16.out; omega
          have HS0 := Lib.hid hs0
          have HCS : Hid (w.cell? ⟨hg, off, none⟩ = some (.string st)) := Lib.hid (by rw [hst]; exact HC.out 0 (by have := H16.out; omega))
          clear hF hAN hk32 hx0 hst hs0
          go_wp2_with fail
          go_loopw [12] (fun s12 wr => ∃ i : Nat, i ≤ 512 ∧ s12 = .int .i64 i ∧ Hid (∀ q, q < i → usedP (X 0) q = F q) ∧ Hid (Lv Nob w (OfA r nb 32 [] m ub F AN) wr)) (fun s12 _ => 512 - (intOf s12).toNat)
          case atStart => exact ⟨0, Nat.zero_le _, rfl, Lib.hid (fun q hq => by omega), HFX⟩
          case round =>
            clear HFX
            obtain ⟨i, hi, rfl, HQ, HL⟩ := hrel
            by_cases hil : i < 512
            · have i1 : i / 8 < st.size := by have := HS0.out; omega
              obtain ⟨x, hx⟩ : ∃ x, x = byteAt st (i / 8) := ⟨_, rfl⟩
              have d0 : ∀ W : World, (Instr.index 9 (.string st) (.int .i64 ((i : Int) / 8))).run Tryz.prog W = .ok (.int .u8 (x : Int)) W := fun W => by
                rw [hx, byteAt_get i1]; exact run_index_at (by omega) i1
              have hx256 : x < 256 := by rw [hx]; exact byteAt_lt _ _
              have hcs := HL.out.fr.cell HCS.out (fun h => h)
              have htm : (i : Int).tmod 8 = ((i % 8 : Nat) : Int) := by rw [Int.tmod_eq_emod_of_nonneg (by omega)]; omega
              have HXX := Lib.hid hx
              have HX2 := Lib.hid hx256
              clear hx i1 hx256
              have hil2 : (i : Int) < 512 := by omega
              go_wp2_with fail
              go_loopw [13, 14] (fun s13 s14 wr => ∃ (q y : Nat), q ≤ i % 8 ∧ y < 256 ∧ s13 = .int .u8 (y : Nat) ∧ s14 = .int .i64 q ∧ Hid (y = x / 2 ^ q) ∧ Hid (Lv Nob w (OfA r nb 32 [] m ub F AN) wr)) (fun _ s14 _ => i % 8 - (intOf s14).toNat)
              case atStart => exact ⟨0, x, Nat.zero_le _, HX2.out, rfl, rfl, Lib.hid (by simp), HL⟩
              case round =>
                clear HL hcs
                obtain ⟨q, y, hq, hy, rfl, rfl, HY, HL⟩ := hrel
                by_cases hq8 : q < i % 8
                · have hq82 : (q : Int) < ((i % 8 : Nat) : Int) := by omega
                  have wy : IntKind.u8.wrap ((y : Int) / 2) = ((y / 2 : Nat) : Int) := by unfold IntKind.wrap; simp [IntKind.signed, IntKind.bits]; omega
                  have HY2 : Hid (y / 2 = x / 2 ^ (q + 1)) := Lib.hid (by rw [HY.out, Nat.pow_succ, Nat.div_div_eq_div_mul])
                  have hq9 : q ≤ 8 := by omega
                  go_wp2_with fail
                  go_roundw
                  case rel => exact ⟨q + 1, y / 2, hq8, by omega, by go_num, by go_num, HY2, HL⟩
                  case measure => simp [intOf]; omega
                · have hq82 : ¬ (q : Int) < ((i % 8 : Nat) : Int) := by omega
                  obtain ⟨q0, q1⟩ := of_cell HL.out hil
                  have hm2 : (y : Int).tmod 2 = ((y % 2 : Nat) : Int) := by rw [Int.tmod_eq_emod_of_nonneg (by omega)]; omega
                  have wm : IntKind.u8.wrap ((y % 2 : Nat) : Int) = ((y % 2 : Nat) : Int) := by unfold IntKind.wrap; simp [IntKind.signed, IntKind.bits]; omega
                  have hus : usedP (X 0) i = (y % 2 == 1) := by
                    unfold usedP
                    rw [← HST.out, ← HXX.out, HY.out, show q = i % 8 by omega]
                  have HUS := Lib.hid hus
                  clear hus hq82
                  obtain ⟨z, hz⟩ : ∃ z, z = y % 2 := ⟨_, rfl⟩
                  rw [← hz] at hm2 wm HUS
                  have hz2 : z = 0 ∨ z = 1 := by omega
                  have hq8e : ¬ (q : Int) < ((i % 8 : Nat) : Int) := by omega
                  clear hz
                  rcases hz2 with rfl | rfl
                  all_goals
                    cases hFi : F i
                  all_goals
                    rw [hFi] at q0
                  case inl.true | inr.false =>
                    have HBAD : Hid (¬ Whole m X) := Lib.hid fun h => by
                      have h1 := h.map i hil
                      have h2 : usedTo X 32 = F := by rw [HF.out, HK32.out]
                      rw [h2, HUS.out, hFi] at h1
                      cases h1
                    have HFR := Lib.hid HL.out.fr
                    clear HL
                    go_wp2_with fail
                    go_ret2
                    exact .inr ⟨HBAD.out, rfl, HFR.out⟩
                  all_goals
                    have HQ2 : Hid (∀ q, q < i + 1 → usedP (X 0) q = F q) := Lib.hid fun q hq => by
                      by_cases e : q = i
                      · rw [e, HUS.out, hFi]; rfl
                      · exact HQ.out q (by omega)
                    go_wp2_with fail
                    go_roundw
                    case rel => exact ⟨i + 1, hil, by go_num, HQ2, HL⟩
                    case measure => simp [intOf]; omega
            · have HW : Hid (Whole m X) := Lib.hid ⟨fun n hn => HT.out n (by have := HK32.out; omega), fun q hq => by
                have h2 : usedTo X 32 = F := by rw [HF.out, HK32.out]
                rw [h2]; exact HQ.out q (by omega)⟩
              have hV : Lv Nob w (rvX r m (nodesX X)) wr := by
                have h1 := HL.out.drop
                have h2 : Lv Nob w (Star (rvA r nb 32 [] m (nodesX X)) Emp) wr := rv_congr h1 fun n hn => by
                  rw [HAN.out]; unfold nodesTo; rw [if_pos (by have := HK32.out; omega)]
                exact (rvX_shut h2).map fun U ⟨S, T, h3, _, _, h4, _⟩ => mon_rvX r m _ wr S U h3 h4
              have HV := Lib.hid hV
              have hge2 : ¬ (i : Int) < 512 := by omega
              clear hV HL
              go_wp2_with fail
              go_ret2
              exact .inl ⟨HW.out, r, rfl, HV.out⟩
end Go.Proofs.YtfldhmeenbdkiaaGreatDoor
