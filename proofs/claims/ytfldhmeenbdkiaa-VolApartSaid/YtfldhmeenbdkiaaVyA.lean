/- VolApart: its walk. -/
import Derived.Test.YtfldhmeenbdkiaaVyC
import Derived.Test.YtfldhmeenbdkiaaVyD
namespace Go.Proofs.Ytfldhmeenbdkiaa
open Go.RowKit

/-- What the first files hold. -/
def befA (A : Nat → Node) (k : Nat) : List ByteArray := (List.range k).map fun j : Nat => areadB A j 0 3000
theorem befA_succ (A : Nat → Node) (k : Nat) : befA A (k + 1) = befA A k ++ [areadB A k 0 3000] := by unfold befA; rw [List.range_succ, List.map_append]; rfl
theorem befA_get (A : Nat → Node) {k n : Nat} (h : k < n) : (strs (befA A n))[k]? = some (.string (areadB A k 0 3000)) := by
  unfold strs befA
  rw [List.getElem?_map, List.getElem?_map, List.getElem?_range h]; rfl
theorem afind_other {A : Nat → Node} {j : Nat} {d : Node} {n : Int} (hn : 0 ≤ n) (h : n ≠ j) : afindE (setA A n.toNat d) j = afindE A j ∧ (setA A n.toNat d) j = A j := by
  have : (setA A n.toNat d) j = A j := by unfold setA; rw [if_neg (by omega)]
  refine ⟨?_, this⟩
  unfold afindE
  rw [Int.toNat_natCast, this]
theorem afind_zero {A : Nat → Node} {n : Int} (h : afindE A n = 0) : 0 ≤ n ∧ n < 32 := by
  unfold afindE at h
  split at h
  · cases h
  · omega
theorem awrite_found {A : Nat → Node} {m : Nat} {full : Bool} {n off : Int} {s : ByteArray} (h : awriteE m A full n off s = 0) : afindE A n = 0 ∧ 0 ≤ off ∧ off ≤ (A n.toNat).data.length := by
  unfold awriteE at h
  split at h
  · rename_i h'; exact absurd h h'
  · rename_i h'
    split at h
    · cases h
    · exact ⟨by simpa using h', by omega, by omega⟩
theorem apart_other {A : Nat → Node} {m : Nat} {full : Bool} {n off : Int} {s : ByteArray} {j : Nat} (h : n ≠ j ∨ awriteE m A full n off s ≠ 0) : areadB (awrite m A full n off s) j 0 3000 = areadB A j 0 3000 := by
  unfold awrite
  by_cases hE : awriteE m A full n off s = 0
  · rw [if_pos hE]
    have hn := h.resolve_right (fun h => h hE)
    obtain ⟨e1, e2⟩ := afind_other (A := A) (d := { A n.toNat with data := splice (A n.toNat).data off.toNat s.data.toList }) (afind_zero (awrite_found hE).1).1 hn
    unfold areadB areadS areadE
    rw [e1, Int.toNat_natCast, e2]
  · rw [if_neg hE]
theorem apart_self {A : Nat → Node} {m : Nat} {full : Bool} {n off : Int} {s : ByteArray} (h : awriteE m A full n off s = 0) : areadE (awrite m A full n off s) n off s.size = 0 ∧ areadB (awrite m A full n off s) n off s.size = s := by
  obtain ⟨h1, h2, h3⟩ := awrite_found h
  have hz := afind_zero h1
  have hN : (awrite m A full n off s) n.toNat = { A n.toNat with data := splice (A n.toNat).data off.toNat s.data.toList } := by
    unfold awrite setA
    rw [if_pos h, if_pos rfl]
  have hf : afindE (awrite m A full n off s) n = 0 := by
    unfold afindE at h1 ⊢
    rw [hN]
    exact h1
  have hE : areadE (awrite m A full n off s) n off s.size = 0 := by unfold areadE; rw [hf, if_neg (by simp), if_neg (by omega)]
  refine ⟨hE, bytes_eq ?_⟩
  unfold areadS
  rw [hE, if_neg (by simp), hN, Int.toNat_natCast]
  show ((splice (A n.toNat).data off.toNat s.data.toList).drop off.toNat).take s.size = s.data.toList
  unfold splice
  rw [List.append_assoc, List.drop_append, List.drop_of_length_le (by rw [List.length_take]; omega), List.length_take, Nat.min_eq_left (by omega), Nat.sub_self, List.drop_zero, List.nil_append]
  rw [List.take_append_of_le_length (by rw [bytes_len]; exact Nat.le_refl _), List.take_of_length_le (by rw [bytes_len]; exact Nat.le_refl _)]
section
variable {S0 : Nat → Prop} {w0 w w' : World} {v b d m c : Nat} {A : Nat → Node} {B R R' : Asr}
theorem VW.alloc (h : VW c S0 w0 v b d m A B w) (hB : Loc B) (o : Obj) : VW c S0 w0 v b d m A B (w.alloc o) := by
  obtain ⟨L, H, X, h1, h2, h3⟩ := h
  exact ⟨L, H, X, Lv.alloc h1 (VV.loc hB) o, h2, h3⟩
theorem VW.drew (h : VW c S0 w0 v b d m A B w) (hB : Loc B) : VW c S0 w0 v b d m A B w.drew := by
  obtain ⟨L, H, X, h1, h2, h3⟩ := h
  exact ⟨L, H, X, Lv.drew h1 (VV.loc hB), h2, h3⟩
theorem VW.turn (h : VW c S0 w0 v b d m A (Star R B) w) (hB : Loc B) (ht : Turn w w' R R') : VW c S0 w0 v b d m A (Star R' B) w' := by
  obtain ⟨L, H, X, h1, h2, h3⟩ := h
  exact ⟨L, H, X, VV.inn ((VV.out h1).turn (VV.loc hB) ht), h2, h3⟩
theorem VW.row (h : VW c S0 w0 v b d m A (Star R B) w) : ∃ S, R w S := by
  obtain ⟨L, H, X, h1, h2, h3⟩ := h
  exact (VV.out h1).first
theorem VW.put (h : VW c S0 w0 v b d m A B w) (hB : Loc B) (hb : R w (Plus Nob w w)) : VW c S0 w0 v b d m A (Star R B) w := by
  obtain ⟨L, H, X, h1, h2, h3⟩ := h
  exact ⟨L, H, X, VV.inn (Lv.new h1 (VV.loc hB) (Fr.refl _ _) hb), h2, h3⟩
end

set_option maxRecDepth 100000 in
set_option maxHeartbeats 4000000 in
theorem apart_calls {w : World} {ao : Option Addr} {cap : Nat} {acts : List ActV} (hs : Srcs w (.slice ao acts.length cap) acts.length 5 (flatV acts)) (hb : acts.length * 48 ≤ 140737488351232) (N Off : Int) (s : ByteArray) :
    Calls Try.prog 3 #[.agg #[.slice ao acts.length cap, .int .i64 N, .int .i64 Off, .string s]] w fun e w' => e = .returned (.bool true) ∧ Fr Nob w w' := by
  have LS : Lv Nob w Emp w := (Live.start w).lv
  have HH := Lib.hid (Lv.calls (LS.alloc loc_emp (.cells #[.slice ao acts.length cap, .int .i64 N, .int .i64 Off, .string s] 24)) loc_emp (vshown_calls _))
  have HS := Lib.hid hs
  clear hs LS
  obtain ⟨n, hn⟩ : ∃ n, n = acts.length := ⟨_, rfl⟩
  rw [← hn] at HH ⊢
  have HNN := Lib.hid hn
  clear hn
  go_enter Try.func3, Try.ntmps3
  go_wp2_with fail
  refine HH.out.mono ?_
  rintro e w0 ⟨rfl, LS⟩
  have HF := Lib.hid (fresh_calls loc_emp LS 200)
  clear LS HH
  go_wp2_with fail
  refine HF.out.mono ?_
  rintro e w1 ⟨d, b, rfl, L0⟩
  have HFO := Lib.hid (w_format L0 loc_emp)
  clear L0 HF
  go_wp2_with fail
  obtain ⟨c, HFO⟩ := HFO.out
  refine HFO.mono ?_
  rintro e w2 ⟨v, rfl, L1⟩
  rw [fresh_m.2.2] at L1
  have HC := Lib.hid (w_commit L1 loc_emp)
  clear L1 HFO
  go_wp2_with fail
  refine HC.out.mono ?_
  rintro e w3 ⟨rfl, L2⟩
  have HL := Lib.hid L2
  clear L2 HC
  go_wp2_with fail
  go_loopw [12] (fun s12 wr => ∃ (k c : Nat) (A : Nat → Node), k ≤ 4 ∧ s12 = .int .i64 k ∧ VW c Nob w v b d 168 A Emp wr) (fun s12 _ => 4 - (intOf s12).toNat)
  case atStart => exact ⟨0, 0, _, Nat.zero_le _, rfl, HL.out⟩
  case round =>
    clear HL
    obtain ⟨k, c, A, hk, rfl, hV⟩ := hrel
    have HL := Lib.hid hV
    clear hV
    by_cases hlt : k < 4
    · obtain ⟨full, r, c', HN⟩ := w_new_any HL.out loc_emp 1
      have HN := Lib.hid HN
      clear HL
      go_wp2_with fail
      refine HN.out.mono ?_
      rintro e w4 ⟨rfl, L4⟩
      have HL4 := Lib.hid L4
      clear L4 HN
      go_wp2_with fail
      go_roundw
      case rel => exact ⟨k + 1, c', _, hlt, by go_num, HL4.out⟩
      case measure => simp [intOf]; omega
    · have hge : ¬ (k : Int) < 4 := by omega
      have HC := Lib.hid (w_commit HL.out loc_emp)
      clear HL
      go_wp2_with fail
      refine HC.out.mono ?_
      rintro e w5 ⟨rfl, L5⟩
      have HL := Lib.hid L5
      clear L5 HC
      go_wp2_with fail
      go_loopw [13] (fun s13 wr => ∃ (k c : Nat) (A : Nat → Node), k ≤ n ∧ s13 = .int .i64 k ∧ VW c Nob w v b d 168 A Emp wr) (fun s13 _ => n - (intOf s13).toNat)
      case atStart => exact ⟨0, 0, _, Nat.zero_le _, rfl, HL.out⟩
      case round =>
        clear HL
        obtain ⟨k, c, A, hk, rfl, hV⟩ := hrel
        have HL := Lib.hid hV
        clear hV
        by_cases hlt : k < n
        · have hlt' : k < acts.length := by have := HNN.out; omega
          obtain ⟨a, ha⟩ : ∃ a, acts[k]? = some a := ⟨_, List.getElem?_eq_getElem hlt'⟩
          obtain ⟨g, off, rfl, q0, q1, q2, q3, q4⟩ := actv_cells HS.out HL.out.lv ha
          clear ha
          by_cases k6 : a.kind = 6
          · have t6 : (a.kind == 6) = true := by simpa using k6
            obtain ⟨full, c', _, HW⟩ := w_write (HL.out.drew loc_emp) loc_emp a.n a.off a.s
            have HW := Lib.hid HW
            clear HL k6
            go_wp2_with fail
            refine wp_region_tail 16 (by kernel_rfl) (by kernel_rfl) ?_
            simp only [List.take_succ_cons, List.take_zero, List.drop_succ_cons, List.drop_zero]
            repeat still_step
            refine wpStill_nil ?_
            go_wp2_with fail
            refine HW.out.mono ?_
            rintro e w6 ⟨rfl, L6⟩
            have HC := Lib.hid (w_commit L6 loc_emp)
            clear L6 HW q0 q1 q2 q3 q4
            go_wp2_with fail
            refine HC.out.mono ?_
            rintro e w7 ⟨rfl, L7⟩
            have HL7 := Lib.hid L7
            clear L7 HC
            go_wp2_with fail
            go_roundw
            case rel => exact ⟨k + 1, 0, _, hlt, by go_num, HL7.out⟩
            case measure => simp [intOf]; omega
          · have t6 : (a.kind == 6) = false := by rw [beq_eq_false_iff_ne]; exact k6
            clear k6
            go_wp2_with fail
            go_roundw
            case rel => exact ⟨k + 1, c, _, hlt, by go_num, HL.out⟩
            case measure => simp [intOf]; omega
        · have hge : ¬ (k : Int) < (n : Int) := by omega
          have HL3 : Hid (VW c Nob w v b d 168 A (Star (rowA tStr 1 (.slice none 0 0) 0 (strs (befA A 0))) Emp) wr) := Lib.hid (HL.out.put loc_emp ⟨World.ownsRow_nil _ _ _ _, fun k hk => (by cases hk)⟩)
          clear HL
          go_wp2_with fail
          go_loopw [14, 15] (fun s14 s15 wr => ∃ k : Nat, k ≤ 4 ∧ s15 = .int .i64 k ∧ ∃ ao1 c1, s14 = .slice ao1 k c1 ∧ VW c Nob w v b d 168 A (Star (rowA tStr 1 (.slice ao1 k c1) k (strs (befA A k))) Emp) wr) (fun _ s15 _ => 4 - (intOf s15).toNat)
          case atStart => exact ⟨0, Nat.zero_le _, rfl, none, 0, rfl, HL3.out⟩
          case round =>
            clear HL3
            obtain ⟨k, hk, rfl, ao1, c1, rfl, hV⟩ := hrel
            have HL := Lib.hid hV
            clear hV
            by_cases hlt : k < 4
            · have HR := Lib.hid (w_read HL.out (loc_star (loc_row _ _ _ _ _) loc_emp) k 0 3000)
              clear HL
              go_wp2_with fail
              refine HR.out.mono ?_
              rintro e w8 ⟨rfl, L8⟩
              obtain ⟨S8, h8, _⟩ := L8.row
              have HO := Lib.hid h8
              have HL8 := Lib.hid L8
              clear L8 h8 HR
              go_wp2_with (at_builtin; refine wpList_append_mine rfl (ho := rfl) (s := .tmp 95) (x := .tmp 97) Try.rowStr rfl (HO.out.alloc _) rfl (srcs_one w8 _ _ 1 rfl) (by omega) ?_; intro v' w9 hown hf9 hv9 _; obtain ⟨g', cap', rfl⟩ := row_succ hown)
              go_roundw
              case rel =>
                have L9 := (HL8.out.alloc (loc_star (loc_row _ _ _ _ _) loc_emp) (.cells #[.string (areadB A k 0 3000)] tStr)).turn loc_emp (turn_append hown hf9 hv9)
                refine ⟨k + 1, hlt, by go_num, _, _, rfl, ?_⟩
                rw [befA_succ, show strs (befA A k ++ [areadB A k 0 3000]) = strs (befA A k) ++ [.string (areadB A k 0 3000)] by simp [strs]]
                exact L9
              case measure => simp [intOf]; omega
            · obtain rfl : k = 4 := by omega
              obtain ⟨S9, h9, _⟩ := HL.out.row
              obtain ⟨g, off, rfl, _⟩ := (row_srcs h9 (fun u hu => by obtain ⟨x, _, rfl⟩ := List.mem_map.1 hu; rfl)).at (befA_get A (k := 0) (by omega))
              clear h9
              obtain ⟨full, c', _, HW⟩ := w_write HL.out (loc_star (loc_row _ _ _ _ _) loc_emp) N Off s
              have HW := Lib.hid HW
              obtain ⟨E, hE⟩ : ∃ E, E = awriteE 168 A full N Off s := ⟨_, rfl⟩
              rw [← hE] at HW
              have EH := Lib.hid hE
              clear HL hE
              go_wp2_with fail
              refine HW.out.mono ?_
              rintro e w9 ⟨rfl, L9⟩
              have HL9 := Lib.hid L9
              clear L9 HW
              go_wp2_with fail
              go_loopw [19] (fun s19 wr => ∃ k : Nat, k ≤ 4 ∧ s19 = .int .i64 k ∧ VW c' Nob w v b d 168 (awrite 168 A full N Off s) (Star (rowA tStr 1 (.slice (some ⟨g, off, none⟩) 4 c1) 4 (strs (befA A 4))) Emp) wr) (fun s19 _ => 4 - (intOf s19).toNat)
              case atStart => exact ⟨0, Nat.zero_le _, rfl, HL9.out⟩
              case round =>
                clear HL9
                obtain ⟨k, hk, rfl, hV⟩ := hrel
                have HL := Lib.hid hV
                clear hV
                have HB1 : Loc (Star (rowA tStr 1 (.slice (some ⟨g, off, none⟩) 4 c1) 4 (strs (befA A 4))) Emp) := loc_star (loc_row _ _ _ _ _) loc_emp
                by_cases hlt : k < 4
                · have hR := w_read HL.out HB1 k 0 3000
                  have hq : ((k : Int) ≠ N ∨ E ≠ 0) → areadB (awrite 168 A full N Off s) k 0 3000 = areadB A k 0 3000 := fun hne => apart_other (hne.imp (fun h => fun h' => h h'.symm) (fun h => by rw [← EH.out]; exact h))
                  by_cases hk1 : (k : Int) = N
                  · subst hk1
                    by_cases hE0 : E = 0
                    · have HR := Lib.hid hR
                      subst hE0
                      clear hR hq HL
                      go_wp2_with fail
                      refine HR.out.mono ?_
                      rintro e w10 ⟨rfl, L10⟩
                      have HL10 := Lib.hid L10
                      clear L10 HR
                      go_wp2_with fail
                      go_roundw
                      case rel => exact ⟨k + 1, hlt, by go_num, HL10.out⟩
                      case measure => simp [intOf]; omega
                    · rw [hq (.inr hE0)] at hR
                      have hE1 : (E != 0) = true := by rw [bne_iff_ne]; exact hE0
                      have HR := Lib.hid hR
                      clear hR hq HL hE0
                      go_wp2_with fail
                      refine HR.out.mono ?_
                      rintro e w10 ⟨rfl, L10⟩
                      have HL10 := Lib.hid L10
                      obtain ⟨S9, h9, _⟩ := L10.row
                      obtain ⟨g', off', e, q0⟩ := (row_srcs h9 (fun u hu => by obtain ⟨x, _, rfl⟩ := List.mem_map.1 hu; rfl)).at (befA_get A hlt)
                      cases e
                      clear L10 HR h9
                      go_wp2_with fail
                      go_roundw
                      case rel => exact ⟨k + 1, hlt, by go_num, HL10.out⟩
                      case measure => simp [intOf]; omega
                  · rw [hq (.inl hk1)] at hR
                    have hk2 : ((k : Int) != N) = true := by rw [bne_iff_ne]; exact hk1
                    have HR := Lib.hid hR
                    clear hR hq HL hk1
                    go_wp2_with fail
                    refine HR.out.mono ?_
                    rintro e w10 ⟨rfl, L10⟩
                    have HL10 := Lib.hid L10
                    obtain ⟨S9, h9, _⟩ := L10.row
                    obtain ⟨g', off', e, q0⟩ := (row_srcs h9 (fun u hu => by obtain ⟨x, _, rfl⟩ := List.mem_map.1 hu; rfl)).at (befA_get A hlt)
                    cases e
                    clear L10 HR h9
                    go_wp2_with fail
                    go_roundw
                    case rel => exact ⟨k + 1, hlt, by go_num, HL10.out⟩
                    case measure => simp [intOf]; omega
                · have hge : ¬ (k : Int) < 4 := by omega
                  by_cases hE0 : E = 0
                  · obtain ⟨r1, r2⟩ := apart_self (A := A) (m := 168) (full := full) (n := N) (off := Off) (s := s) (by rw [← EH.out]; exact hE0)
                    have hR := w_read HL.out HB1 N Off s.size
                    rw [r1, r2] at hR
                    have HR := Lib.hid hR
                    subst hE0
                    clear hR r1 r2 HL
                    go_wp2_with fail
                    refine HR.out.mono ?_
                    rintro e w10 ⟨rfl, L10⟩
                    have HFR := Lib.hid L10.lv
                    clear L10 HR
                    go_wp2_with fail
                    go_ret
                    exact ⟨rfl, HFR.out⟩
                  · have hE1 : (E != 0) = true := by rw [bne_iff_ne]; exact hE0
                    have HFR := Lib.hid HL.out.lv
                    clear HL hE0
                    go_wp2_with fail
                    go_ret
                    exact ⟨rfl, HFR.out⟩
end Go.Proofs.Ytfldhmeenbdkiaa
