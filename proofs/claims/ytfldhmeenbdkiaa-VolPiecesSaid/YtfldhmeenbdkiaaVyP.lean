/- VolPieces: its walk. -/
import Derived.Test.YtfldhmeenbdkiaaVyC
namespace Go.Proofs.Ytfldhmeenbdkiaa
open Go.RowKit

theorem VW.mono {S0 : Nat → Prop} {w0 w : World} {v b d m c c' : Nat} {A : Nat → Node} {B : Asr} (h : VW c S0 w0 v b d m A B w) (hc : c ≤ c') : VW c' S0 w0 v b d m A B w := by
  obtain ⟨L, H, X, h1, h2, h3⟩ := h
  exact ⟨L, H, X, h1, h2, Nat.le_trans h3 hc⟩
theorem pieces_stat (d : ByteArray) : (if afindE (one d.data.toList) 0 = 0 then nstatV ((one d.data.toList) (0 : Int).toNat) else nstatV Node.free) = .agg #[.int .i64 1, .int .i64 0, .int .i64 d.size] := by
  rw [one_find, if_pos rfl, show Int.toNat 0 = 0 from rfl, one_zero]
  unfold nstatV
  rw [bytes_len]; rfl
theorem pieces_w {d s : ByteArray} (_hd : d.size ≤ 2368) : ∃ E : Int, awriteE 68 (one d.data.toList) false 0 d.size s = E ∧ (E = 0 → d.size + s.size ≤ 2368 ∧ awrite 68 (one d.data.toList) false 0 d.size s = one (d ++ s).data.toList) ∧ (E ≠ 0 → awrite 68 (one d.data.toList) false 0 d.size s = one d.data.toList) := by
  refine ⟨_, rfl, fun hE => ?_, one_write_no⟩
  constructor
  · unfold awriteE at hE
    rw [one_find, if_neg (by simp)] at hE
    split at hE
    · cases hE
    · split at hE
      · cases hE
      · omega
  · rw [one_write hE, Int.toNat_natCast, ByteArray.data_append, Array.toList_append]
    unfold splice
    rw [List.take_of_length_le (by rw [bytes_len]; omega), List.drop_eq_nil_of_le (by rw [bytes_len]; omega), List.append_nil]
theorem pieces_r {d : ByteArray} (hd : d.size ≤ 2368) : areadE (one d.data.toList) 0 0 5000 = 0 ∧ areadB (one d.data.toList) 0 0 5000 = d := by
  obtain ⟨e1, e2⟩ := one_read d.data.toList (off := 0) (many := 5000) (by omega) (by omega)
  refine ⟨e1, bytes_eq ?_⟩
  rw [e2, show Int.toNat 0 = 0 from rfl, List.drop_zero]
  rw [List.take_of_length_le]
  rw [bytes_len]
  show _ ≤ 5000
  omega

set_option maxRecDepth 100000 in
set_option maxHeartbeats 4000000 in
theorem pieces_calls {w : World} {ao : Option Addr} {cap : Nat} {ss : List ByteArray} (hs : Srcs w (.slice ao ss.length cap) ss.length 1 (ss.map Value.string)) (hb : ss.length * 16 ≤ 140737488351232) :
    Calls Try.prog 6 #[.slice ao ss.length cap] w fun e w' => e = .returned (.bool true) ∧ Fr Nob w w' := by
  have LS : Lv Nob w Emp w := (Live.start w).lv
  have HH := Lib.hid (Lv.calls LS loc_emp (vshown_calls w))
  have HS := Lib.hid hs
  clear LS hs
  go_enter Try.func6, Try.ntmps6
  go_wp2_with fail
  refine HH.out.mono ?_
  rintro e w0 ⟨rfl, LS⟩
  have HF := Lib.hid (fresh_calls loc_emp LS 100)
  clear LS HH
  go_wp2_with fail
  refine HF.out.mono ?_
  rintro e w1 ⟨d, b, rfl, L0⟩
  have HFO := Lib.hid (w_format L0 loc_emp)
  clear L0 HF
  go_wp2_with fail
  obtain ⟨c, HFO⟩ := HFO.out
  refine HFO.mono ?_
  rintro e w2 ⟨v, rfl, L1⟩
  have HC := Lib.hid (w_commit L1 loc_emp)
  clear L1 HFO
  go_wp2_with fail
  refine HC.out.mono ?_
  rintro e w3 ⟨rfl, L2⟩
  have HN := Lib.hid (w_new1 L2 loc_emp (by omega))
  clear L2 HC
  go_wp2_with fail
  refine HN.out.mono ?_
  rintro e w4 ⟨rfl, L3⟩
  rw [fresh_m.1] at L3
  have HL := Lib.hid L3
  clear L3 HN
  obtain ⟨n, hn⟩ : ∃ n, n = ss.length := ⟨_, rfl⟩
  rw [← hn]
  have HNN := Lib.hid hn
  clear hn
  go_wp2_with fail
  go_loopw [10, 11] (fun s10 s11 wr => ∃ (k : Nat) (acc : ByteArray), k ≤ n ∧ acc.size ≤ 2368 ∧ s10 = .string acc ∧ s11 = .int .i64 k ∧ VW 1 Nob w v b d 68 (one acc.data.toList) Emp wr) (fun _ s11 _ => n - (intOf s11).toNat)
  case atStart => exact ⟨0, ⟨#[]⟩, Nat.zero_le _, Nat.zero_le _, rfl, rfl, HL.out⟩
  case round =>
    obtain ⟨k, acc, hk, hacc, rfl, rfl, hV⟩ := hrel
    have HL := Lib.hid hV
    clear hV
    by_cases hlt : k < n
    · have hlt' : k < ss.length := by have := HNN.out; omega
      obtain ⟨x, hx⟩ : ∃ x, ss[k]? = some x := ⟨_, List.getElem?_eq_getElem hlt'⟩
      obtain ⟨g, off, rfl, q0⟩ := (HS.out.fr HL.out.lv (fun _ _ _ _ h => h)).at (j := k) (u := .string x) (by rw [List.getElem?_map, hx]; rfl)
      have HX : Hid (∀ w', Fr Nob w w' → w'.cell? ⟨g, off + k, none⟩ = some (.string x)) := Lib.hid fun w' hf => by
        obtain ⟨g', off', e, q⟩ := (HS.out.fr hf (fun _ _ _ _ h => h)).at (j := k) (u := .string x) (by rw [List.getElem?_map, hx]; rfl)
        cases e
        exact q
      have HWR := Lib.hid (w_write HL.out loc_emp 0 acc.size x)
      obtain ⟨E, hE, hY, hN⟩ := pieces_w (s := x) hacc
      have EH := Lib.hid hE
      by_cases h0 : E = 0
      · subst h0
        obtain ⟨hz, hA⟩ := hY rfl
        have HA := Lib.hid hA
        have hz2 : (acc ++ x).size ≤ 2368 := by rw [ByteArray.size_append]; exact hz
        have HZ2 := Lib.hid hz2
        clear hx hE hY hN hA hz2
        go_wp2_with fail
        obtain ⟨full, c2, hfull, HWR⟩ := HWR.out
        obtain rfl := hfull (by omega)
        rw [EH.out, HA.out] at HWR
        refine HWR.mono ?_
        rintro e w7 ⟨rfl, L7⟩
        have q0 := HX.out w7 L7.lv
        have HC := Lib.hid (w_commit L7 loc_emp)
        clear L7 HWR
        go_wp2_with fail
        refine HC.out.mono ?_
        rintro e w8 ⟨rfl, L8⟩
        have HL8 := Lib.hid (L8.mono (Nat.zero_le 1))
        clear L8 HC q0
        go_wp2_with fail
        go_roundw
        case rel => exact ⟨k + 1, acc ++ x, hlt, HZ2.out, rfl, by go_num, HL8.out⟩
        case measure => simp [intOf]; omega
      · have h0' : (E == 0) = false := by rw [beq_eq_false_iff_ne]; exact h0
        have HA := Lib.hid (hN h0)
        have HZ := Lib.hid hacc
        clear hx hE hY hN hacc h0
        go_wp2_with fail
        obtain ⟨full, c2, hfull, HWR⟩ := HWR.out
        obtain rfl := hfull (by omega)
        rw [EH.out, HA.out] at HWR
        refine HWR.mono ?_
        rintro e w7 ⟨rfl, L7⟩
        have HC := Lib.hid (w_commit L7 loc_emp)
        clear L7 HWR q0
        go_wp2_with fail
        refine HC.out.mono ?_
        rintro e w8 ⟨rfl, L8⟩
        have HL8 := Lib.hid (L8.mono (Nat.zero_le 1))
        clear L8 HC
        go_wp2_with fail
        go_roundw
        case rel => exact ⟨k + 1, acc, hlt, HZ.out, rfl, by go_num, HL8.out⟩
        case measure => simp [intOf]; omega
    · have hge : ¬ (k : Int) < (n : Int) := by omega
      have hR := w_read HL.out loc_emp 0 0 5000
      rw [(pieces_r hacc).1, (pieces_r hacc).2] at hR
      have HR := Lib.hid hR
      clear hR
      go_wp2_with fail
      refine HR.out.mono ?_
      rintro e w7 ⟨rfl, L7⟩
      have hS := w_stat L7 loc_emp 0
      rw [pieces_stat, one_find] at hS
      have HSt := Lib.hid hS
      clear hS L7 HR
      go_wp2_with fail
      refine HSt.out.mono ?_
      rintro e w8 ⟨rfl, L8⟩
      have HFR := Lib.hid L8.lv
      clear L8 HSt
      go_wp2_with fail
      go_ret
      exact ⟨rfl, HFR.out.alloc _⟩
end Go.Proofs.Ytfldhmeenbdkiaa
