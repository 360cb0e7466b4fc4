/- The statements' own helpers of layer 7: homes. -/
import Derived.Test.YtchilnjocnkodaaLwB
namespace Go.Proofs.Ytchilnjocnkodaa
open Go.RowKit

def homesN (L : LSt) (n : Nat) : List ByteArray := (List.range n).map fun i => L.getS (i : Nat)
def homesL (L : LSt) : List ByteArray := homesN L (L.D.safe.length - 32)
theorem homesN_succ (L : LSt) (n : Nat) : homesN L (n + 1) = homesN L n ++ [L.getS (n : Nat)] := by
  unfold homesN
  rw [List.range_succ, List.map_append]
  rfl
theorem homesN_length (L : LSt) (n : Nat) : (homesN L n).length = n := by simp [homesN]
/-- What homes answers. -/
def HomesAt (w0 : World) (b d : Nat) (L : LSt) (B : Asr) (e : Ending) (w' : World) : Prop :=
  ∃ ao c, e = .returned (.slice ao (homesL L).length c) ∧ LV Nob w0 b d L (Star (rowA tStr 1 (.slice ao (homesL L).length c) (homesL L).length (strs (homesL L))) B) w'

section
variable {w0 w : World} {b d : Nat} {L : LSt} {A B : Asr} {S0 : Nat → Prop}
theorem LV.front (h : LV S0 w0 b d L (Star A B) w) : Lv S0 w0 (Star A (Star (lgA b d L.stg L.dead) (Star (dskA kD d L.D) B))) w :=
  h.map fun _ h => star_flip (star_right h fun _ h => star_flip h)
theorem LV.back (h : Lv S0 w0 (Star A (Star (lgA b d L.stg L.dead) (Star (dskA kD d L.D) B))) w) : LV S0 w0 b d L (Star A B) w :=
  h.map fun _ h => star_right (star_flip h) fun _ h => star_flip h

set_option maxRecDepth 100000 in
set_option maxHeartbeats 4000000 in
theorem lhomes_calls (hL : LV Nob w0 b d L B w) (hB : Loc B) (hw : L.D.wait.length * 24 ≤ 140737488355328) :
    Calls Try.prog 15 #[.pointer (some ⟨b, 0, none⟩)] w (HomesAt w0 b d L B) := by
  obtain ⟨_, _, _, _, _, hok⟩ := hL.parts
  have h48 := hok.lo48
  have h544 := hok.len
  obtain ⟨n, hn⟩ : ∃ n, n = L.D.safe.length - 32 := ⟨_, rfl⟩
  have hnc : (L.D.safe.length : Int) - 32 = (n : Int) := by omega
  have hn512 : n ≤ 512 := by omega
  have HN := Lib.hid hn
  have HNC := Lib.hid hnc
  have HW := Lib.hid hw
  have hHA : ∀ ao c wr, LV Nob w0 b d L (Star (rowA tStr 1 (.slice ao n c) n (strs (homesN L n))) B) wr → HomesAt w0 b d L B (.returned (.slice ao n c)) wr := by
    intro ao c wr h
    have e : (homesL L).length = n := by unfold homesL; rw [homesN_length, hn]
    refine ⟨ao, c, by rw [e], ?_⟩
    rw [e]
    unfold homesL
    rw [← hn]
    exact h
  have HHA := Lib.hid hHA
  have hloc : ∀ v k, Loc (Star (rowA tStr 1 v k (strs (homesN L k))) B) := fun v k => loc_star (loc_row _ _ _ _ _) hB
  have L1 : LV Nob w0 b d L (Star (rowA tStr 1 (.slice none 0 0) 0 (strs (homesN L 0))) B) w :=
    LV.back (hL.new (B := rowA tStr 1 (.slice none 0 0) 0 (strs (homesN L 0))) (LV.loc hB) (Fr.refl _ _) ⟨World.ownsRow_nil _ _ _ _, fun k hk => (by cases hk)⟩)
  clear hok h48 h544 hn hnc hw hL hHA
  go_enter Try.func15, Try.ntmps15
  go_wp2_with fail
  refine (lv_home L1).mono ?_
  rw [HNC.out]
  rintro e w2 ⟨rfl, rfl⟩
  go_wp2_with fail
  go_loopw [3, 5] (fun s3 s5 wr => ∃ k : Nat, k ≤ n ∧ s5 = .int .i64 k ∧ ∃ ao c, s3 = .slice ao k c ∧ LV Nob w0 b d L (Star (rowA tStr 1 (.slice ao k c) k (strs (homesN L k))) B) wr) (fun _ s5 _ => n - (intOf s5).toNat)
  case atStart => exact ⟨0, Nat.zero_le _, rfl, none, 0, rfl, L1⟩
  case round =>
    obtain ⟨k, hk, rfl, ao, c, rfl, hLk⟩ := hrel
    clear L1
    by_cases hlt : k < n
    · go_wp2_with fail
      refine (lv_get hLk (hloc _ _) HW.out (k : Nat)).mono ?_
      rintro e w3 ⟨rfl, L3⟩
      have L4 := LV.front L3
      obtain ⟨S4, h4, _⟩ := L4.first
      have HO := Lib.hid h4
      clear hLk L3 h4
      go_wp2_with (at_builtin; refine wpList_append_mine rfl (ho := rfl) (s := .tmp 21) (x := .tmp 23) Try.rowStr rfl (HO.out.alloc _) rfl (srcs_one w3 _ _ 1 rfl) (by omega) ?_; intro v' w5 hown hf5 hv5 _; obtain ⟨g', cap', rfl⟩ := row_succ hown)
      go_roundw
      case rel =>
        have L5 := (L4.alloc (loc_star (loc_row _ _ _ _ _) (LV.loc hB)) (.cells #[.string (L.getS (k : Nat))] tStr)).turn (LV.loc hB) (turn_append hown hf5 hv5)
        refine ⟨k + 1, hlt, by go_num, _, _, rfl, ?_⟩
        rw [homesN_succ, show strs (homesN L k ++ [L.getS (k : Nat)]) = strs (homesN L k) ++ [.string (L.getS (k : Nat))] by simp [strs]]
        exact LV.back L5
      case measure => simp [intOf]; omega
    · obtain rfl : k = n := by omega
      have HR := Lib.hid (HHA.out ao c wr hLk)
      clear hLk
      go_wp2_with fail
      go_ret
      exact HR.out
end
end Go.Proofs.Ytchilnjocnkodaa
