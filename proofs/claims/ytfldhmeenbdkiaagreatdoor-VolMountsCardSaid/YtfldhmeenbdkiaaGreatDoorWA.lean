/- The statements' own helpers of layer 8: text, fresh. -/
import Derived.Test.YtfldhmeenbdkiaaGreatDoorMK
import Derived.Test.YtfldhmeenbdkiaaGreatDoorMI
namespace Go.Proofs.YtfldhmeenbdkiaaGreatDoor
open Go.RowKit

/-- So many bytes. -/
def textL (n : Nat) : List UInt8 := (List.range n).map fun i => UInt8.ofNat i
def textP (n : Nat) : ByteArray := ⟨(textL n).toArray⟩
theorem textP_size (n : Nat) : (textP n).size = n := by
  unfold textP
  rw [size_of_list]
  simp [textL]
def textC (n k : Nat) : List Value := ((List.range k).map fun i => Value.int .u8 ((i % 256 : Nat) : Int)) ++ List.replicate (n - k) (.int .u8 0)
theorem textC_zero (n : Nat) : textC n 0 = List.replicate n (.int .u8 0) := by simp [textC]
theorem textC_at {n k : Nat} (h : k < n) : (textC n k)[k]? = some (.int .u8 0) := by
  unfold textC
  rw [List.getElem?_append_right (by simp)]
  simp only [List.length_map, List.length_range, Nat.sub_self]
  rw [List.getElem?_replicate, if_pos (by omega)]
theorem textC_succ {n k : Nat} (h : k < n) : (textC n k).set k (.int .u8 ((k % 256 : Nat) : Int)) = textC n (k + 1) := by
  unfold textC
  rw [List.set_append_right _ _ (by simp)]
  simp only [List.length_map, List.length_range, Nat.sub_self]
  rw [show n - k = (n - (k + 1)) + 1 by omega, List.replicate_succ, List.set_cons_zero, List.range_succ, List.map_append]
  simp
theorem textC_all (n : Nat) : textC n n = ((textL n).map fun b => (b.toNat : Int)).map (Value.int .u8) := by
  unfold textC textL
  rw [List.map_map, List.map_map]
  simp only [Nat.sub_self, List.replicate_zero, List.append_nil]
  apply List.map_congr_left
  intro i _
  simp [UInt8.toNat_ofNat']

set_option maxRecDepth 100000 in
set_option maxHeartbeats 1000000 in
theorem text_calls (n : Nat) (hn : n ≤ 512) (w : World) :
    Calls Tryz.prog 35 #[.int .i64 n] w fun e w' => e = .returned (.string (textP n)) ∧ Fr Nob w w' := by
  go_enter Tryz.func35, Tryz.ntmps35
  go_wp2_with (at_make; refine wpList_make_mine (n := n) (l := .tmp 5) (c := .tmp 5) rfl rfl Tryz.underlying76 Tryz.infoU8 rfl rfl rfl (by omega) (by omega) ?_; intro w2 hb2 hf2 hs2)
  rw [← textC_zero] at hb2
  obtain ⟨g, hg⟩ : ∃ g, g = w.heap.size := ⟨_, rfl⟩
  rw [← hg] at hb2 ⊢
  have HB2 := Lib.hid hb2
  have HF2 := Lib.hid hf2
  have HG := Lib.hid hg
  clear hb2 hf2 hg hs2
  go_wp2_with fail
  go_loopw [4] (fun s4 wr => ∃ k : Nat, k ≤ n ∧ s4 = .int .i64 k ∧ Hid (Blk wr g tU8 (textC n k)) ∧ Hid (Fr Nob w wr)) (fun s4 _ => n - (intOf s4).toNat)
  case atStart => exact ⟨0, by omega, rfl, HB2, HF2⟩
  case round =>
    obtain ⟨k, hk, rfl, HBr, HFr⟩ := hrel
    clear HB2 HF2
    by_cases hlt : k < n
    · have c := HBr.out.cell (textC_at hlt)
      have f := HBr.out.free k
      go_wp2_with fail
      have hb := HBr.out.set k (.int .u8 ((k % 256 : Nat) : Int))
      rw [textC_succ hlt] at hb
      have e : ((k % 256 : Nat) : Int) = (k : Int) % 256 := by omega
      rw [e] at hb
      have HBn := Lib.hid hb
      have HFn := Lib.hid (HFr.out.set (b := g) (.inr (by rw [HG.out]; exact Nat.le_refl _)) k (.int .u8 ((k : Int) % 256)))
      clear hb c f
      go_roundw
      case rel => exact ⟨k + 1, hlt, by go_num, HBn, HFn⟩
      case measure => simp [intOf]; omega
    · obtain rfl : k = n := by omega
      have hsrc : ∀ j u, (((textL k).map fun b => (b.toNat : Int)).map (Value.int .u8))[j]? = some u → wr.cell? ((⟨g, 0, none⟩ : Addr).add j) = some u := by
        intro j u hj
        rw [← textC_all] at hj
        have := HBr.out.cell hj
        simpa [Addr.add_lit] using this
      have hlen : ((textL k).map fun b => (b.toNat : Int)).length = k := by simp [textL]
      have HS := Lib.hid hsrc
      have HE : Hid (strOf ((textL k).map fun b => (b.toNat : Int)) = textP k) := Lib.hid (strOf_bytes _)
      clear hsrc
      go_wp2_with (with_reducible show wpList _ _ _ _ _ _; refine wpList_bytes_string (x := .tmp 17) rfl rfl Tryz.underlying76 Tryz.underlying5 Tryz.underlying9 rfl hlen HS.out ?_; rw [HE.out])
      go_ret
      exact ⟨rfl, HFr.out⟩

/-- How many sectors a fresh disk has. -/
def freshN (n : Int) : Nat := if n < 48 ∨ 544 < n then 48 else n.toNat
def freshL (n : Int) : LSt := ⟨(DSt.fresh (freshN n)).opened, [], false⟩
theorem freshN_le (n : Int) : 48 ≤ freshN n ∧ freshN n ≤ 544 := by unfold freshN; split <;> omega
theorem fresh_opens (m : Nat) : (DSt.fresh (32 + m)).openE = 0 ∧ (DSt.fresh (32 + m)).opened = DSt.fresh (32 + m) := (calm_fresh m).opens
theorem freshL_eq (n : Int) : freshL n = ⟨DSt.fresh (freshN n), [], false⟩ ∧ (DSt.fresh (freshN n)).openE = 0 := by
  obtain ⟨h1, h2⟩ := freshN_le n
  obtain ⟨e1, e2⟩ := fresh_opens (freshN n - 32)
  rw [show 32 + (freshN n - 32) = freshN n by omega] at e1 e2
  exact ⟨by unfold freshL; rw [e2], e1⟩

set_option maxRecDepth 100000 in
set_option maxHeartbeats 1000000 in
theorem fresh_calls {S0 : Nat → Prop} {w0 w : World} {B : Asr} (hB : Loc B) (hL : Lv S0 w0 B w) (n : Int) :
    Calls Tryz.prog 25 #[.int .i64 n] w fun e w' => ∃ d b, e = .returned (.tuple #[.pointer (some ⟨d, 0, none⟩), .pointer (some ⟨b, 0, none⟩)]) ∧ LV S0 w0 b d (freshL n) B w' := by
  obtain ⟨_, hE⟩ := freshL_eq n
  obtain ⟨h48, h544⟩ := freshN_le n
  obtain ⟨m, hm⟩ : ∃ m, m = freshN n := ⟨_, rfl⟩
  have hF : freshL n = ⟨(DSt.fresh m).opened, [], false⟩ := by rw [hm]; rfl
  rw [hF]
  rw [← hm] at hE h48 h544
  have HN := Lib.hid (fun W => new_ok m W h48 h544)
  have HO : Hid (∀ d W, Lv S0 w0 (Star (dskA kD d (DSt.fresh m)) B) W → Calls Tryz.prog 10 #[.pointer (some ⟨d, 0, none⟩)] W fun e w' => ∃ b, e = .returned (.tuple #[.pointer (some ⟨b, 0, none⟩), .int .i64 0]) ∧ LV S0 w0 b d ⟨(DSt.fresh m).opened, [], false⟩ B w') :=
    Lib.hid fun d W hW => lv_opens hW hB hE (by show (([] : List (Nat × ByteArray)).length + 31) * 24 ≤ 140737488355328; decide)
  have HL := Lib.hid hL
  unfold freshN at hm
  clear hF hL hE
  by_cases hbad : n < 48 ∨ 544 < n
  · rw [if_pos hbad] at hm
    subst hm
    by_cases q : n < 48
    · clear hbad h48 h544
      go_enter Tryz.func25, Tryz.ntmps25
      go_wp2_with fail
      refine (HN.out _).mono ?_
      rintro e w1 ⟨d, rfl, hd, hf⟩
      have L1 := Lib.hid (Lv.new (B := dskA kD d (DSt.fresh _)) HL.out hB hf hd)
      clear hd hf
      have HOD := Lib.hid (HO.out d _ L1.out)
      go_wp2_with fail
      refine HOD.out.mono ?_
      rintro e w2 ⟨b, rfl, L2⟩
      go_wp2_with fail
      go_ret2
      exact ⟨d, b, rfl, L2⟩
    · have q2 : 544 < n := by omega
      clear hbad h48 h544
      go_enter Tryz.func25, Tryz.ntmps25
      go_wp2_with fail
      refine (HN.out _).mono ?_
      rintro e w1 ⟨d, rfl, hd, hf⟩
      have L1 := Lib.hid (Lv.new (B := dskA kD d (DSt.fresh _)) HL.out hB hf hd)
      clear hd hf
      have HOD := Lib.hid (HO.out d _ L1.out)
      go_wp2_with fail
      refine HOD.out.mono ?_
      rintro e w2 ⟨b, rfl, L2⟩
      go_wp2_with fail
      go_ret2
      exact ⟨d, b, rfl, L2⟩
  · rw [if_neg hbad] at hm
    obtain ⟨k, rfl⟩ : ∃ k : Nat, n = k := ⟨n.toNat, by omega⟩
    rw [Int.toNat_natCast] at hm
    subst hm
    have q : ¬ (m : Int) < 48 := by omega
    have q2 : ¬ 544 < (m : Int) := by omega
    clear hbad h48 h544
    go_enter Tryz.func25, Tryz.ntmps25
    go_wp2_with fail
    refine (HN.out _).mono ?_
    rintro e w1 ⟨d, rfl, hd, hf⟩
    have L1 := Lib.hid (Lv.new (B := dskA kD d (DSt.fresh _)) HL.out hB hf hd)
    clear hd hf
    have HOD := Lib.hid (HO.out d _ L1.out)
    go_wp2_with fail
    refine HOD.out.mono ?_
    rintro e w2 ⟨b, rfl, L2⟩
    go_wp2_with fail
    go_ret2
    exact ⟨d, b, rfl, L2⟩
end Go.Proofs.YtfldhmeenbdkiaaGreatDoor
