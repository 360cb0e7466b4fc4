/- VolCuts: its walk. -/
import Derived.Test.YtfldhmeenbdkiaaMR
namespace Go.Proofs.Ytfldhmeenbdkiaa
open Go.RowKit

/-- One file alone. -/
def one (d : List UInt8) : Nat → Node := setA (fun _ => Node.free) 0 ⟨1, 0, d⟩
theorem one_zero (d : List UInt8) : (one d) 0 = ⟨1, 0, d⟩ := by unfold one setA; rw [if_pos rfl]
theorem one_set (d e : List UInt8) : setA (one d) 0 ⟨1, 0, e⟩ = one e := by
  funext j
  unfold one setA
  split <;> rfl
theorem one_find (d : List UInt8) : afindE (one d) 0 = 0 := rfl
theorem sumT_free : ∀ k, sumT (fun _ => Node.free) k = 0
  | 0 => rfl
  | k + 1 => by unfold sumT; rw [sumT_free k]; rfl
theorem one_sum (d : List UInt8) : sumT (one d) 32 = takesP d.length := by
  have h := sumT_set (fun _ => Node.free) (n := 0) ⟨1, 0, d⟩ (k := 32) (by omega)
  rw [sumT_free] at h
  have h0 : takesP (Node.free).data.length = 0 := rfl
  rw [h0] at h
  unfold one
  simpa using h
theorem one_room (m : Nat) (d : List UInt8) : aroom m (one d) = m - 9 - takesP d.length := by unfold aroom; rw [one_sum]
theorem one_writeE {m : Nat} {d : List UInt8} {off : Int} {s : ByteArray} (h0 : 0 ≤ off) (h1 : off ≤ d.length) (h2 : s.size ≤ 512) :
    awriteE m (one d) false 0 off s = if 2368 < off + s.size then 15 else if (aroom m (one d) : Int) < (takesP (max d.length (off.toNat + s.size)) : Int) - takesP d.length then 4 else 0 := by
  unfold awriteE
  rw [one_find, if_neg (by simp), show Int.toNat 0 = 0 from rfl, one_zero, if_neg (by show ¬ (off < 0 ∨ (d.length : Int) < off ∨ 512 < s.size); omega)]
  split
  · rfl
  · rw [if_neg Bool.false_ne_true]
theorem one_write {m : Nat} {d : List UInt8} {off : Int} {s : ByteArray} (h : awriteE m (one d) false 0 off s = 0) : awrite m (one d) false 0 off s = one (splice d off.toNat s.data.toList) := by
  unfold awrite
  rw [if_pos h, show Int.toNat 0 = 0 from rfl, one_zero, one_set]
theorem one_write_no {m : Nat} {d : List UInt8} {off : Int} {s : ByteArray} {full : Bool} (h : awriteE m (one d) full 0 off s ≠ 0) : awrite m (one d) full 0 off s = one d := by
  unfold awrite
  rw [if_neg h]
theorem one_read (d : List UInt8) {off many : Int} (h0 : 0 ≤ off) (h1 : 0 ≤ many) : areadE (one d) 0 off many = 0 ∧ areadS (one d) 0 off many = (d.drop off.toNat).take many.toNat := by
  have hE : areadE (one d) 0 off many = 0 := by unfold areadE; rw [one_find, if_neg (by simp), if_neg (by omega)]
  refine ⟨hE, ?_⟩
  unfold areadS
  rw [hE, if_neg (by simp), show Int.toNat 0 = 0 from rfl, one_zero]
theorem one_cutE (d : List UInt8) (size : Int) : acutE (one d) false 0 size = if size < 0 ∨ (d.length : Int) < size then 1 else 0 := by
  unfold acutE
  rw [one_find, if_neg (by simp), show Int.toNat 0 = 0 from rfl, one_zero]
  show (if size < 0 ∨ (d.length : Int) < size then _ else _) = _
  split
  · rfl
  · rw [if_neg Bool.false_ne_true]
theorem one_cut (d : List UInt8) {size : Int} (h : acutE (one d) false 0 size = 0) : acut (one d) false 0 size = one (d.take size.toNat) := by
  unfold acut
  rw [if_pos h, show Int.toNat 0 = 0 from rfl, one_zero, one_set]

theorem one_new : setA (fun _ => Node.free) 0 ⟨(1 : Int).toNat, 0, []⟩ = one [] := rfl
section
variable {S0 : Nat → Prop} {w0 w : World} {v b d m c : Nat} {B : Asr}
theorem w_new1 (h : VW c S0 w0 v b d m (fun _ => Node.free) B w) (hB : Loc B) (hc : c ≤ 16) :
    Calls Try.prog 11 #[.pointer (some ⟨v, 0, none⟩), .int .i64 1] w fun e w' => e = .returned (.tuple #[.int .i64 0, .int .i64 0]) ∧ VW (c + 1) S0 w0 v b d m (one []) B w' :=
  w_new h hB hc (.inl rfl) afirst_free
end
theorem fresh_m : freshN 100 - 32 = 68 ∧ freshN 60 - 32 = 28 ∧ freshN 200 - 32 = 168 := ⟨rfl, rfl, rfl⟩

theorem takes_le_of {a b : Nat} (h : a ≤ 64 * b) (h5 : 5 ≤ b) : takesP a ≤ b + 1 := by unfold takesP sectorsP; split <;> omega
theorem one_write_end {m : Nat} {d : List UInt8} {s : ByteArray} (hs : s.size ≤ 512) (h1 : d.length + s.size ≤ 2368) (hr : takesP (d.length + s.size) + 9 ≤ m) :
    awriteE m (one d) false 0 d.length s = 0 ∧ awrite m (one d) false 0 d.length s = one (d ++ s.data.toList) := by
  have hE : awriteE m (one d) false 0 d.length s = 0 := by
    rw [one_writeE (by omega) (by omega) hs, if_neg (by omega), one_room, if_neg]
    rw [Int.toNat_natCast, Nat.max_eq_right (by omega)]
    omega
  refine ⟨hE, ?_⟩
  rw [one_write hE, Int.toNat_natCast]
  unfold splice
  rw [List.take_length, List.drop_eq_nil_of_le (by omega), List.append_nil]
theorem cuts_w1 {s : ByteArray} (hs : s.size ≤ 512) : awriteE 68 (one []) false 0 0 s = 0 ∧ awrite 68 (one []) false 0 0 s = one s.data.toList := by
  have := one_write_end (m := 68) (d := []) hs (by simp; omega) (by have := takes_le_of (a := s.size) (b := 8) (by omega) (by omega); simp; omega)
  simpa using this
theorem cuts_cut {s : ByteArray} {size : Int} (hz : ¬ (size < 0 ∨ (s.size : Int) < size)) : acutE (one s.data.toList) false 0 size = 0 ∧ acut (one s.data.toList) false 0 size = one (s.data.toList.take size.toNat) := by
  have hE : acutE (one s.data.toList) false 0 size = 0 := by rw [one_cutE, bytes_len, if_neg hz]
  exact ⟨hE, one_cut _ hE⟩
theorem cuts_cut_no {s : ByteArray} {size : Int} (hz : size < 0 ∨ (s.size : Int) < size) : acutE (one s.data.toList) false 0 size = 1 := by
  rw [one_cutE, bytes_len, if_pos hz]
theorem bytes_eq {x : ByteArray} {l : List UInt8} (h : l = x.data.toList) : (⟨l.toArray⟩ : ByteArray) = x := by subst h; rfl
theorem cuts_r1 {s : ByteArray} (hs : s.size ≤ 512) {size : Int} : areadE (one (s.data.toList.take size.toNat)) 0 0 600 = 0 ∧ areadB (one (s.data.toList.take size.toNat)) 0 0 600 = s.extract 0 size.toNat := by
  obtain ⟨e1, e2⟩ := one_read (s.data.toList.take size.toNat) (off := 0) (many := 600) (by omega) (by omega)
  refine ⟨e1, bytes_eq ?_⟩
  rw [e2, toList_extract, show Int.toNat 0 = 0 from rfl]
  simp only [List.drop_zero]
  rw [List.take_of_length_le]
  rw [List.length_take, bytes_len]
  show _ ≤ 600
  omega
theorem cuts_w2 {s t : ByteArray} (hs : s.size ≤ 512) (ht : t.size ≤ 512) {size : Int} (hz : ¬ (size < 0 ∨ (s.size : Int) < size)) :
    awriteE 68 (one (s.data.toList.take size.toNat)) false 0 size t = 0 ∧ awrite 68 (one (s.data.toList.take size.toNat)) false 0 size t = one (s.data.toList.take size.toNat ++ t.data.toList) := by
  have hl : (s.data.toList.take size.toNat).length = size.toNat := by rw [List.length_take, bytes_len]; omega
  have := one_write_end (m := 68) (d := s.data.toList.take size.toNat) ht (by rw [hl]; omega) (by have := takes_le_of (a := size.toNat + t.size) (b := 16) (by omega) (by omega); rw [hl]; omega)
  rw [hl, show ((size.toNat : Nat) : Int) = size by omega] at this
  exact this
theorem cuts_r2 {s t : ByteArray} (hs : s.size ≤ 512) (ht : t.size ≤ 512) {size : Int} : areadE (one (s.data.toList.take size.toNat ++ t.data.toList)) 0 0 2000 = 0 ∧ areadB (one (s.data.toList.take size.toNat ++ t.data.toList)) 0 0 2000 = s.extract 0 size.toNat ++ t := by
  obtain ⟨e1, e2⟩ := one_read (s.data.toList.take size.toNat ++ t.data.toList) (off := 0) (many := 2000) (by omega) (by omega)
  refine ⟨e1, bytes_eq ?_⟩
  rw [e2, ByteArray.data_append, Array.toList_append, toList_extract, show Int.toNat 0 = 0 from rfl]
  simp only [List.drop_zero]
  rw [List.take_of_length_le]
  rw [List.length_append, List.length_take, bytes_len, bytes_len]
  show _ ≤ 2000
  omega

-- the walks, printed by vyc.py
set_option maxRecDepth 100000 in
set_option maxHeartbeats 4000000 in
theorem cuts000 (w : World) (s : ByteArray) (hs : s.size ≤ 512) (size : Int) (t : ByteArray) (ht : t.size ≤ 512) (hz : ¬ (size < 0 ∨ (s.size : Int) < size)) : Calls Try.prog 4 #[.string s, .int .i64 size, .string t] w fun e w' => e = .returned (.bool true) ∧ Fr Nob w w' := by
  have LS : Lv Nob w Emp w := (Live.start w).lv
  have HH := Lib.hid (Lv.calls LS loc_emp (vshown_calls w))
  have q1 : ¬ (512 : Int) < (s.size : Int) := by omega
  have HZS := Lib.hid hs
  have q2 : ¬ (512 : Int) < (t.size : Int) := by omega
  have HZT := Lib.hid ht
  have HZ := Lib.hid hz
  have q3 : ¬ size < 0 := by omega
  have q4 : ¬ (s.size : Int) < size := by omega
  clear LS hz hs ht
  go_enter Try.func4, Try.ntmps4
  go_wp2_with fail
  refine HH.out.mono ?_
  rintro e w0 ⟨rfl, LS⟩
  have HF := Lib.hid (fresh_calls loc_emp LS 100)
  clear LS HH
  go_wp2_with fail
  refine HF.out.mono ?_
  rintro e w1 ⟨d, b, rfl, L0⟩
  have HFO := Lib.hid (w_format L0 loc_emp)
  clear L0 HF
  go_wp2_with fail
  obtain ⟨c, HFO⟩ := HFO.out
  refine HFO.mono ?_
  rintro e w2 ⟨v, rfl, L1⟩
  have HC := Lib.hid (w_commit L1 loc_emp)
  clear L1 HFO
  go_wp2_with fail
  refine HC.out.mono ?_
  rintro e w3 ⟨rfl, L2⟩
  have HN := Lib.hid (w_new1 L2 loc_emp (by omega))
  clear L2 HC
  go_wp2_with fail
  refine HN.out.mono ?_
  rintro e w4 ⟨rfl, L3⟩
  rw [fresh_m.1] at L3
  have HW := Lib.hid (w_write L3 loc_emp 0 0 s)
  clear L3 HN
  go_wp2_with fail
  obtain ⟨full, c1, hfull, HW⟩ := HW.out
  obtain rfl := hfull (by omega)
  rw [(cuts_w1 HZS.out).1, (cuts_w1 HZS.out).2] at HW
  refine HW.mono ?_
  rintro e w5 ⟨rfl, L4⟩
  have HC := Lib.hid (w_commit L4 loc_emp)
  clear L4 HW
  go_wp2_with fail
  refine HC.out.mono ?_
  rintro e w6 ⟨rfl, L5⟩
  have HK := Lib.hid (w_cut L5 loc_emp 0 size)
  clear L5 HC
  go_wp2_with fail
  obtain ⟨full, c2, hfull, HK⟩ := HK.out
  obtain rfl := hfull (by omega)
  rw [(cuts_cut HZ.out).1, (cuts_cut HZ.out).2] at HK
  refine HK.mono ?_
  rintro e w7 ⟨rfl, L6⟩
  have HC := Lib.hid (w_commit L6 loc_emp)
  clear L6 HK
  go_wp2_with fail
  refine HC.out.mono ?_
  rintro e w8 ⟨rfl, L7⟩
  have HR := w_read L7 loc_emp 0 0 600
  rw [(cuts_r1 HZS.out).1, (cuts_r1 HZS.out).2] at HR
  have HR := Lib.hid HR
  clear L7 HC
  go_wp2_with fail
  refine HR.out.mono ?_
  rintro e w9 ⟨rfl, L8⟩
  have HW := Lib.hid (w_write L8 loc_emp 0 size t)
  clear L8 HR
  go_wp2_with fail
  obtain ⟨full, c3, hfull, HW⟩ := HW.out
  obtain rfl := hfull (by omega)
  rw [(cuts_w2 HZS.out HZT.out HZ.out).1, (cuts_w2 HZS.out HZT.out HZ.out).2] at HW
  refine HW.mono ?_
  rintro e w10 ⟨rfl, L9⟩
  have HR := w_read L9 loc_emp 0 0 2000
  rw [(cuts_r2 HZS.out HZT.out).1, (cuts_r2 HZS.out HZT.out).2] at HR
  have HR := Lib.hid HR
  clear L9 HW
  go_wp2_with fail
  refine HR.out.mono ?_
  rintro e w11 ⟨rfl, L10⟩
  have HFR := Lib.hid L10.lv
  clear L10 HR
  go_wp2_with fail
  go_ret
  exact ⟨rfl, HFR.out⟩
set_option maxRecDepth 100000 in
set_option maxHeartbeats 4000000 in
theorem cuts001 (w : World) (s : ByteArray) (hs : s.size ≤ 512) (size : Int) (t : ByteArray) (ht : t.size ≤ 512) (hz : (size < 0 ∨ (s.size : Int) < size)) : Calls Try.prog 4 #[.string s, .int .i64 size, .string t] w fun e w' => e = .returned (.bool true) ∧ Fr Nob w w' := by
  have LS : Lv Nob w Emp w := (Live.start w).lv
  have HH := Lib.hid (Lv.calls LS loc_emp (vshown_calls w))
  have q1 : ¬ (512 : Int) < (s.size : Int) := by omega
  have HZS := Lib.hid hs
  have q2 : ¬ (512 : Int) < (t.size : Int) := by omega
  have HZT := Lib.hid ht
  have HZ := Lib.hid hz
  have q3 : size < 0 ∨ (0 ≤ size ∧ (s.size : Int) < size) := by omega
  clear LS hz hs ht
  go_enter Try.func4, Try.ntmps4
  go_wp2_with fail
  refine HH.out.mono ?_
  rintro e w0 ⟨rfl, LS⟩
  have HF := Lib.hid (fresh_calls loc_emp LS 100)
  clear LS HH
  go_wp2_with fail
  refine HF.out.mono ?_
  rintro e w1 ⟨d, b, rfl, L0⟩
  have HFO := Lib.hid (w_format L0 loc_emp)
  clear L0 HF
  go_wp2_with fail
  obtain ⟨c, HFO⟩ := HFO.out
  refine HFO.mono ?_
  rintro e w2 ⟨v, rfl, L1⟩
  have HC := Lib.hid (w_commit L1 loc_emp)
  clear L1 HFO
  go_wp2_with fail
  refine HC.out.mono ?_
  rintro e w3 ⟨rfl, L2⟩
  have HN := Lib.hid (w_new1 L2 loc_emp (by omega))
  clear L2 HC
  go_wp2_with fail
  refine HN.out.mono ?_
  rintro e w4 ⟨rfl, L3⟩
  rw [fresh_m.1] at L3
  have HW := Lib.hid (w_write L3 loc_emp 0 0 s)
  clear L3 HN
  go_wp2_with fail
  obtain ⟨full, c1, hfull, HW⟩ := HW.out
  obtain rfl := hfull (by omega)
  rw [(cuts_w1 HZS.out).1, (cuts_w1 HZS.out).2] at HW
  refine HW.mono ?_
  rintro e w5 ⟨rfl, L4⟩
  have HC := Lib.hid (w_commit L4 loc_emp)
  clear L4 HW
  go_wp2_with fail
  refine HC.out.mono ?_
  rintro e w6 ⟨rfl, L5⟩
  have HK := Lib.hid (w_cut L5 loc_emp 0 size)
  clear L5 HC
  go_wp2_with fail
  obtain ⟨full, c2, hfull, HK⟩ := HK.out
  obtain rfl := hfull (by omega)
  rw [cuts_cut_no HZ.out] at HK
  refine HK.mono ?_
  rintro e w7 ⟨rfl, L6⟩
  have HFR := Lib.hid L6.lv
  clear L6 HK
  rcases q3 with q3 | ⟨q3, q4⟩
  · go_wp2_with fail
    go_ret
    exact ⟨rfl, HFR.out⟩
  · go_wp2_with fail
    go_ret
    exact ⟨rfl, HFR.out⟩
set_option maxRecDepth 100000 in
set_option maxHeartbeats 4000000 in
theorem cuts010 (w : World) (s : ByteArray) (hs : s.size ≤ 512) (size : Int) (t : ByteArray) (ht : 512 < t.size) (hz : ¬ (size < 0 ∨ (s.size : Int) < size)) : Calls Try.prog 4 #[.string s, .int .i64 size, .string t] w fun e w' => e = .returned (.bool true) ∧ Fr Nob w w' := by
  have LS : Lv Nob w Emp w := (Live.start w).lv
  have HH := Lib.hid (Lv.calls LS loc_emp (vshown_calls w))
  have q1 : ¬ (512 : Int) < (s.size : Int) := by omega
  have HZS := Lib.hid hs
  have hte : (t.extract 0 512).size = 512 := by rw [ByteArray.size_extract]; omega
  have q2 : (512 : Int) < (t.size : Int) := by omega
  have q2' : (512 : Int) ≤ (t.size : Int) := by omega
  have HZT : Hid ((t.extract 0 512).size ≤ 512) := Lib.hid (by omega)
  have HZ := Lib.hid hz
  have q3 : ¬ size < 0 := by omega
  have q4 : ¬ (s.size : Int) < size := by omega
  clear LS hz hs ht
  go_enter Try.func4, Try.ntmps4
  go_wp2_with fail
  refine HH.out.mono ?_
  rintro e w0 ⟨rfl, LS⟩
  have HF := Lib.hid (fresh_calls loc_emp LS 100)
  clear LS HH
  go_wp2_with fail
  refine HF.out.mono ?_
  rintro e w1 ⟨d, b, rfl, L0⟩
  have HFO := Lib.hid (w_format L0 loc_emp)
  clear L0 HF
  go_wp2_with fail
  obtain ⟨c, HFO⟩ := HFO.out
  refine HFO.mono ?_
  rintro e w2 ⟨v, rfl, L1⟩
  have HC := Lib.hid (w_commit L1 loc_emp)
  clear L1 HFO
  go_wp2_with fail
  refine HC.out.mono ?_
  rintro e w3 ⟨rfl, L2⟩
  have HN := Lib.hid (w_new1 L2 loc_emp (by omega))
  clear L2 HC
  go_wp2_with fail
  refine HN.out.mono ?_
  rintro e w4 ⟨rfl, L3⟩
  rw [fresh_m.1] at L3
  have HW := Lib.hid (w_write L3 loc_emp 0 0 s)
  clear L3 HN
  go_wp2_with fail
  obtain ⟨full, c1, hfull, HW⟩ := HW.out
  obtain rfl := hfull (by omega)
  rw [(cuts_w1 HZS.out).1, (cuts_w1 HZS.out).2] at HW
  refine HW.mono ?_
  rintro e w5 ⟨rfl, L4⟩
  have HC := Lib.hid (w_commit L4 loc_emp)
  clear L4 HW
  go_wp2_with fail
  refine HC.out.mono ?_
  rintro e w6 ⟨rfl, L5⟩
  have HK := Lib.hid (w_cut L5 loc_emp 0 size)
  clear L5 HC
  go_wp2_with fail
  obtain ⟨full, c2, hfull, HK⟩ := HK.out
  obtain rfl := hfull (by omega)
  rw [(cuts_cut HZ.out).1, (cuts_cut HZ.out).2] at HK
  refine HK.mono ?_
  rintro e w7 ⟨rfl, L6⟩
  have HC := Lib.hid (w_commit L6 loc_emp)
  clear L6 HK
  go_wp2_with fail
  refine HC.out.mono ?_
  rintro e w8 ⟨rfl, L7⟩
  have HR := w_read L7 loc_emp 0 0 600
  rw [(cuts_r1 HZS.out).1, (cuts_r1 HZS.out).2] at HR
  have HR := Lib.hid HR
  clear L7 HC
  go_wp2_with fail
  refine HR.out.mono ?_
  rintro e w9 ⟨rfl, L8⟩
  have HW := Lib.hid (w_write L8 loc_emp 0 size (t.extract 0 512))
  clear L8 HR
  go_wp2_with fail
  obtain ⟨full, c3, hfull, HW⟩ := HW.out
  obtain rfl := hfull (by omega)
  rw [(cuts_w2 HZS.out HZT.out HZ.out).1, (cuts_w2 HZS.out HZT.out HZ.out).2] at HW
  refine HW.mono ?_
  rintro e w10 ⟨rfl, L9⟩
  have HR := w_read L9 loc_emp 0 0 2000
  rw [(cuts_r2 HZS.out HZT.out).1, (cuts_r2 HZS.out HZT.out).2] at HR
  have HR := Lib.hid HR
  clear L9 HW
  go_wp2_with fail
  refine HR.out.mono ?_
  rintro e w11 ⟨rfl, L10⟩
  have HFR := Lib.hid L10.lv
  clear L10 HR
  go_wp2_with fail
  go_ret
  exact ⟨rfl, HFR.out⟩
set_option maxRecDepth 100000 in
set_option maxHeartbeats 4000000 in
theorem cuts011 (w : World) (s : ByteArray) (hs : s.size ≤ 512) (size : Int) (t : ByteArray) (ht : 512 < t.size) (hz : (size < 0 ∨ (s.size : Int) < size)) : Calls Try.prog 4 #[.string s, .int .i64 size, .string t] w fun e w' => e = .returned (.bool true) ∧ Fr Nob w w' := by
  have LS : Lv Nob w Emp w := (Live.start w).lv
  have HH := Lib.hid (Lv.calls LS loc_emp (vshown_calls w))
  have q1 : ¬ (512 : Int) < (s.size : Int) := by omega
  have HZS := Lib.hid hs
  have hte : (t.extract 0 512).size = 512 := by rw [ByteArray.size_extract]; omega
  have q2 : (512 : Int) < (t.size : Int) := by omega
  have q2' : (512 : Int) ≤ (t.size : Int) := by omega
  have HZT : Hid ((t.extract 0 512).size ≤ 512) := Lib.hid (by omega)
  have HZ := Lib.hid hz
  have q3 : size < 0 ∨ (0 ≤ size ∧ (s.size : Int) < size) := by omega
  clear LS hz hs ht
  go_enter Try.func4, Try.ntmps4
  go_wp2_with fail
  refine HH.out.mono ?_
  rintro e w0 ⟨rfl, LS⟩
  have HF := Lib.hid (fresh_calls loc_emp LS 100)
  clear LS HH
  go_wp2_with fail
  refine HF.out.mono ?_
  rintro e w1 ⟨d, b, rfl, L0⟩
  have HFO := Lib.hid (w_format L0 loc_emp)
  clear L0 HF
  go_wp2_with fail
  obtain ⟨c, HFO⟩ := HFO.out
  refine HFO.mono ?_
  rintro e w2 ⟨v, rfl, L1⟩
  have HC := Lib.hid (w_commit L1 loc_emp)
  clear L1 HFO
  go_wp2_with fail
  refine HC.out.mono ?_
  rintro e w3 ⟨rfl, L2⟩
  have HN := Lib.hid (w_new1 L2 loc_emp (by omega))
  clear L2 HC
  go_wp2_with fail
  refine HN.out.mono ?_
  rintro e w4 ⟨rfl, L3⟩
  rw [fresh_m.1] at L3
  have HW := Lib.hid (w_write L3 loc_emp 0 0 s)
  clear L3 HN
  go_wp2_with fail
  obtain ⟨full, c1, hfull, HW⟩ := HW.out
  obtain rfl := hfull (by omega)
  rw [(cuts_w1 HZS.out).1, (cuts_w1 HZS.out).2] at HW
  refine HW.mono ?_
  rintro e w5 ⟨rfl, L4⟩
  have HC := Lib.hid (w_commit L4 loc_emp)
  clear L4 HW
  go_wp2_with fail
  refine HC.out.mono ?_
  rintro e w6 ⟨rfl, L5⟩
  have HK := Lib.hid (w_cut L5 loc_emp 0 size)
  clear L5 HC
  go_wp2_with fail
  obtain ⟨full, c2, hfull, HK⟩ := HK.out
  obtain rfl := hfull (by omega)
  rw [cuts_cut_no HZ.out] at HK
  refine HK.mono ?_
  rintro e w7 ⟨rfl, L6⟩
  have HFR := Lib.hid L6.lv
  clear L6 HK
  rcases q3 with q3 | ⟨q3, q4⟩
  · go_wp2_with fail
    go_ret
    exact ⟨rfl, HFR.out⟩
  · go_wp2_with fail
    go_ret
    exact ⟨rfl, HFR.out⟩
set_option maxRecDepth 100000 in
set_option maxHeartbeats 4000000 in
theorem cuts100 (w : World) (s : ByteArray) (hs : 512 < s.size) (size : Int) (t : ByteArray) (ht : t.size ≤ 512) (hz : ¬ (size < 0 ∨ ((s.extract 0 512).size : Int) < size)) : Calls Try.prog 4 #[.string s, .int .i64 size, .string t] w fun e w' => e = .returned (.bool true) ∧ Fr Nob w w' := by
  have LS : Lv Nob w Emp w := (Live.start w).lv
  have HH := Lib.hid (Lv.calls LS loc_emp (vshown_calls w))
  have hse : (s.extract 0 512).size = 512 := by rw [ByteArray.size_extract]; omega
  have q1 : (512 : Int) < (s.size : Int) := by omega
  have q1' : (512 : Int) ≤ (s.size : Int) := by omega
  have HZS : Hid ((s.extract 0 512).size ≤ 512) := Lib.hid (by omega)
  have q2 : ¬ (512 : Int) < (t.size : Int) := by omega
  have HZT := Lib.hid ht
  have HZ := Lib.hid hz
  have q3 : ¬ size < 0 := by omega
  have q4 : ¬ ((s.extract 0 512).size : Int) < size := by omega
  have q5 : size ≤ 512 := by omega
  clear LS hz hs ht
  go_enter Try.func4, Try.ntmps4
  go_wp2_with fail
  refine HH.out.mono ?_
  rintro e w0 ⟨rfl, LS⟩
  have HF := Lib.hid (fresh_calls loc_emp LS 100)
  clear LS HH
  go_wp2_with fail
  refine HF.out.mono ?_
  rintro e w1 ⟨d, b, rfl, L0⟩
  have HFO := Lib.hid (w_format L0 loc_emp)
  clear L0 HF
  go_wp2_with fail
  obtain ⟨c, HFO⟩ := HFO.out
  refine HFO.mono ?_
  rintro e w2 ⟨v, rfl, L1⟩
  have HC := Lib.hid (w_commit L1 loc_emp)
  clear L1 HFO
  go_wp2_with fail
  refine HC.out.mono ?_
  rintro e w3 ⟨rfl, L2⟩
  have HN := Lib.hid (w_new1 L2 loc_emp (by omega))
  clear L2 HC
  go_wp2_with fail
  refine HN.out.mono ?_
  rintro e w4 ⟨rfl, L3⟩
  rw [fresh_m.1] at L3
  have HW := Lib.hid (w_write L3 loc_emp 0 0 (s.extract 0 512))
  clear L3 HN
  go_wp2_with fail
  obtain ⟨full, c1, hfull, HW⟩ := HW.out
  obtain rfl := hfull (by omega)
  rw [(cuts_w1 HZS.out).1, (cuts_w1 HZS.out).2] at HW
  refine HW.mono ?_
  rintro e w5 ⟨rfl, L4⟩
  have HC := Lib.hid (w_commit L4 loc_emp)
  clear L4 HW
  go_wp2_with fail
  refine HC.out.mono ?_
  rintro e w6 ⟨rfl, L5⟩
  have HK := Lib.hid (w_cut L5 loc_emp 0 size)
  clear L5 HC
  go_wp2_with fail
  obtain ⟨full, c2, hfull, HK⟩ := HK.out
  obtain rfl := hfull (by omega)
  rw [(cuts_cut HZ.out).1, (cuts_cut HZ.out).2] at HK
  refine HK.mono ?_
  rintro e w7 ⟨rfl, L6⟩
  have HC := Lib.hid (w_commit L6 loc_emp)
  clear L6 HK
  go_wp2_with fail
  refine HC.out.mono ?_
  rintro e w8 ⟨rfl, L7⟩
  have HR := w_read L7 loc_emp 0 0 600
  rw [(cuts_r1 HZS.out).1, (cuts_r1 HZS.out).2] at HR
  have HR := Lib.hid HR
  clear L7 HC
  go_wp2_with fail
  refine HR.out.mono ?_
  rintro e w9 ⟨rfl, L8⟩
  have HW := Lib.hid (w_write L8 loc_emp 0 size t)
  clear L8 HR
  go_wp2_with fail
  obtain ⟨full, c3, hfull, HW⟩ := HW.out
  obtain rfl := hfull (by omega)
  rw [(cuts_w2 HZS.out HZT.out HZ.out).1, (cuts_w2 HZS.out HZT.out HZ.out).2] at HW
  refine HW.mono ?_
  rintro e w10 ⟨rfl, L9⟩
  have HR := w_read L9 loc_emp 0 0 2000
  rw [(cuts_r2 HZS.out HZT.out).1, (cuts_r2 HZS.out HZT.out).2] at HR
  have HR := Lib.hid HR
  clear L9 HW
  go_wp2_with fail
  refine HR.out.mono ?_
  rintro e w11 ⟨rfl, L10⟩
  have HFR := Lib.hid L10.lv
  clear L10 HR
  go_wp2_with fail
  go_ret
  exact ⟨rfl, HFR.out⟩
set_option maxRecDepth 100000 in
set_option maxHeartbeats 4000000 in
theorem cuts101 (w : World) (s : ByteArray) (hs : 512 < s.size) (size : Int) (t : ByteArray) (ht : t.size ≤ 512) (hz : (size < 0 ∨ ((s.extract 0 512).size : Int) < size)) : Calls Try.prog 4 #[.string s, .int .i64 size, .string t] w fun e w' => e = .returned (.bool true) ∧ Fr Nob w w' := by
  have LS : Lv Nob w Emp w := (Live.start w).lv
  have HH := Lib.hid (Lv.calls LS loc_emp (vshown_calls w))
  have hse : (s.extract 0 512).size = 512 := by rw [ByteArray.size_extract]; omega
  have q1 : (512 : Int) < (s.size : Int) := by omega
  have q1' : (512 : Int) ≤ (s.size : Int) := by omega
  have HZS : Hid ((s.extract 0 512).size ≤ 512) := Lib.hid (by omega)
  have q2 : ¬ (512 : Int) < (t.size : Int) := by omega
  have HZT := Lib.hid ht
  have HZ := Lib.hid hz
  have q3 : size < 0 ∨ (0 ≤ size ∧ ((s.extract 0 512).size : Int) < size) := by omega
  clear LS hz hs ht
  go_enter Try.func4, Try.ntmps4
  go_wp2_with fail
  refine HH.out.mono ?_
  rintro e w0 ⟨rfl, LS⟩
  have HF := Lib.hid (fresh_calls loc_emp LS 100)
  clear LS HH
  go_wp2_with fail
  refine HF.out.mono ?_
  rintro e w1 ⟨d, b, rfl, L0⟩
  have HFO := Lib.hid (w_format L0 loc_emp)
  clear L0 HF
  go_wp2_with fail
  obtain ⟨c, HFO⟩ := HFO.out
  refine HFO.mono ?_
  rintro e w2 ⟨v, rfl, L1⟩
  have HC := Lib.hid (w_commit L1 loc_emp)
  clear L1 HFO
  go_wp2_with fail
  refine HC.out.mono ?_
  rintro e w3 ⟨rfl, L2⟩
  have HN := Lib.hid (w_new1 L2 loc_emp (by omega))
  clear L2 HC
  go_wp2_with fail
  refine HN.out.mono ?_
  rintro e w4 ⟨rfl, L3⟩
  rw [fresh_m.1] at L3
  have HW := Lib.hid (w_write L3 loc_emp 0 0 (s.extract 0 512))
  clear L3 HN
  go_wp2_with fail
  obtain ⟨full, c1, hfull, HW⟩ := HW.out
  obtain rfl := hfull (by omega)
  rw [(cuts_w1 HZS.out).1, (cuts_w1 HZS.out).2] at HW
  refine HW.mono ?_
  rintro e w5 ⟨rfl, L4⟩
  have HC := Lib.hid (w_commit L4 loc_emp)
  clear L4 HW
  go_wp2_with fail
  refine HC.out.mono ?_
  rintro e w6 ⟨rfl, L5⟩
  have HK := Lib.hid (w_cut L5 loc_emp 0 size)
  clear L5 HC
  go_wp2_with fail
  obtain ⟨full, c2, hfull, HK⟩ := HK.out
  obtain rfl := hfull (by omega)
  rw [cuts_cut_no HZ.out] at HK
  refine HK.mono ?_
  rintro e w7 ⟨rfl, L6⟩
  have HFR := Lib.hid L6.lv
  clear L6 HK
  rcases q3 with q3 | ⟨q3, q4⟩
  · go_wp2_with fail
    go_ret
    exact ⟨rfl, HFR.out⟩
  · go_wp2_with fail
    go_ret
    exact ⟨rfl, HFR.out⟩
set_option maxRecDepth 100000 in
set_option maxHeartbeats 4000000 in
theorem cuts110 (w : World) (s : ByteArray) (hs : 512 < s.size) (size : Int) (t : ByteArray) (ht : 512 < t.size) (hz : ¬ (size < 0 ∨ ((s.extract 0 512).size : Int) < size)) : Calls Try.prog 4 #[.string s, .int .i64 size, .string t] w fun e w' => e = .returned (.bool true) ∧ Fr Nob w w' := by
  have LS : Lv Nob w Emp w := (Live.start w).lv
  have HH := Lib.hid (Lv.calls LS loc_emp (vshown_calls w))
  have hse : (s.extract 0 512).size = 512 := by rw [ByteArray.size_extract]; omega
  have q1 : (512 : Int) < (s.size : Int) := by omega
  have q1' : (512 : Int) ≤ (s.size : Int) := by omega
  have HZS : Hid ((s.extract 0 512).size ≤ 512) := Lib.hid (by omega)
  have hte : (t.extract 0 512).size = 512 := by rw [ByteArray.size_extract]; omega
  have q2 : (512 : Int) < (t.size : Int) := by omega
  have q2' : (512 : Int) ≤ (t.size : Int) := by omega
  have HZT : Hid ((t.extract 0 512).size ≤ 512) := Lib.hid (by omega)
  have HZ := Lib.hid hz
  have q3 : ¬ size < 0 := by omega
  have q4 : ¬ ((s.extract 0 512).size : Int) < size := by omega
  have q5 : size ≤ 512 := by omega
  clear LS hz hs ht
  go_enter Try.func4, Try.ntmps4
  go_wp2_with fail
  refine HH.out.mono ?_
  rintro e w0 ⟨rfl, LS⟩
  have HF := Lib.hid (fresh_calls loc_emp LS 100)
  clear LS HH
  go_wp2_with fail
  refine HF.out.mono ?_
  rintro e w1 ⟨d, b, rfl, L0⟩
  have HFO := Lib.hid (w_format L0 loc_emp)
  clear L0 HF
  go_wp2_with fail
  obtain ⟨c, HFO⟩ := HFO.out
  refine HFO.mono ?_
  rintro e w2 ⟨v, rfl, L1⟩
  have HC := Lib.hid (w_commit L1 loc_emp)
  clear L1 HFO
  go_wp2_with fail
  refine HC.out.mono ?_
  rintro e w3 ⟨rfl, L2⟩
  have HN := Lib.hid (w_new1 L2 loc_emp (by omega))
  clear L2 HC
  go_wp2_with fail
  refine HN.out.mono ?_
  rintro e w4 ⟨rfl, L3⟩
  rw [fresh_m.1] at L3
  have HW := Lib.hid (w_write L3 loc_emp 0 0 (s.extract 0 512))
  clear L3 HN
  go_wp2_with fail
  obtain ⟨full, c1, hfull, HW⟩ := HW.out
  obtain rfl := hfull (by omega)
  rw [(cuts_w1 HZS.out).1, (cuts_w1 HZS.out).2] at HW
  refine HW.mono ?_
  rintro e w5 ⟨rfl, L4⟩
  have HC := Lib.hid (w_commit L4 loc_emp)
  clear L4 HW
  go_wp2_with fail
  refine HC.out.mono ?_
  rintro e w6 ⟨rfl, L5⟩
  have HK := Lib.hid (w_cut L5 loc_emp 0 size)
  clear L5 HC
  go_wp2_with fail
  obtain ⟨full, c2, hfull, HK⟩ := HK.out
  obtain rfl := hfull (by omega)
  rw [(cuts_cut HZ.out).1, (cuts_cut HZ.out).2] at HK
  refine HK.mono ?_
  rintro e w7 ⟨rfl, L6⟩
  have HC := Lib.hid (w_commit L6 loc_emp)
  clear L6 HK
  go_wp2_with fail
  refine HC.out.mono ?_
  rintro e w8 ⟨rfl, L7⟩
  have HR := w_read L7 loc_emp 0 0 600
  rw [(cuts_r1 HZS.out).1, (cuts_r1 HZS.out).2] at HR
  have HR := Lib.hid HR
  clear L7 HC
  go_wp2_with fail
  refine HR.out.mono ?_
  rintro e w9 ⟨rfl, L8⟩
  have HW := Lib.hid (w_write L8 loc_emp 0 size (t.extract 0 512))
  clear L8 HR
  go_wp2_with fail
  obtain ⟨full, c3, hfull, HW⟩ := HW.out
  obtain rfl := hfull (by omega)
  rw [(cuts_w2 HZS.out HZT.out HZ.out).1, (cuts_w2 HZS.out HZT.out HZ.out).2] at HW
  refine HW.mono ?_
  rintro e w10 ⟨rfl, L9⟩
  have HR := w_read L9 loc_emp 0 0 2000
  rw [(cuts_r2 HZS.out HZT.out).1, (cuts_r2 HZS.out HZT.out).2] at HR
  have HR := Lib.hid HR
  clear L9 HW
  go_wp2_with fail
  refine HR.out.mono ?_
  rintro e w11 ⟨rfl, L10⟩
  have HFR := Lib.hid L10.lv
  clear L10 HR
  go_wp2_with fail
  go_ret
  exact ⟨rfl, HFR.out⟩
set_option maxRecDepth 100000 in
set_option maxHeartbeats 4000000 in
theorem cuts111 (w : World) (s : ByteArray) (hs : 512 < s.size) (size : Int) (t : ByteArray) (ht : 512 < t.size) (hz : (size < 0 ∨ ((s.extract 0 512).size : Int) < size)) : Calls Try.prog 4 #[.string s, .int .i64 size, .string t] w fun e w' => e = .returned (.bool true) ∧ Fr Nob w w' := by
  have LS : Lv Nob w Emp w := (Live.start w).lv
  have HH := Lib.hid (Lv.calls LS loc_emp (vshown_calls w))
  have hse : (s.extract 0 512).size = 512 := by rw [ByteArray.size_extract]; omega
  have q1 : (512 : Int) < (s.size : Int) := by omega
  have q1' : (512 : Int) ≤ (s.size : Int) := by omega
  have HZS : Hid ((s.extract 0 512).size ≤ 512) := Lib.hid (by omega)
  have hte : (t.extract 0 512).size = 512 := by rw [ByteArray.size_extract]; omega
  have q2 : (512 : Int) < (t.size : Int) := by omega
  have q2' : (512 : Int) ≤ (t.size : Int) := by omega
  have HZT : Hid ((t.extract 0 512).size ≤ 512) := Lib.hid (by omega)
  have HZ := Lib.hid hz
  have q3 : size < 0 ∨ (0 ≤ size ∧ ((s.extract 0 512).size : Int) < size) := by omega
  clear LS hz hs ht
  go_enter Try.func4, Try.ntmps4
  go_wp2_with fail
  refine HH.out.mono ?_
  rintro e w0 ⟨rfl, LS⟩
  have HF := Lib.hid (fresh_calls loc_emp LS 100)
  clear LS HH
  go_wp2_with fail
  refine HF.out.mono ?_
  rintro e w1 ⟨d, b, rfl, L0⟩
  have HFO := Lib.hid (w_format L0 loc_emp)
  clear L0 HF
  go_wp2_with fail
  obtain ⟨c, HFO⟩ := HFO.out
  refine HFO.mono ?_
  rintro e w2 ⟨v, rfl, L1⟩
  have HC := Lib.hid (w_commit L1 loc_emp)
  clear L1 HFO
  go_wp2_with fail
  refine HC.out.mono ?_
  rintro e w3 ⟨rfl, L2⟩
  have HN := Lib.hid (w_new1 L2 loc_emp (by omega))
  clear L2 HC
  go_wp2_with fail
  refine HN.out.mono ?_
  rintro e w4 ⟨rfl, L3⟩
  rw [fresh_m.1] at L3
  have HW := Lib.hid (w_write L3 loc_emp 0 0 (s.extract 0 512))
  clear L3 HN
  go_wp2_with fail
  obtain ⟨full, c1, hfull, HW⟩ := HW.out
  obtain rfl := hfull (by omega)
  rw [(cuts_w1 HZS.out).1, (cuts_w1 HZS.out).2] at HW
  refine HW.mono ?_
  rintro e w5 ⟨rfl, L4⟩
  have HC := Lib.hid (w_commit L4 loc_emp)
  clear L4 HW
  go_wp2_with fail
  refine HC.out.mono ?_
  rintro e w6 ⟨rfl, L5⟩
  have HK := Lib.hid (w_cut L5 loc_emp 0 size)
  clear L5 HC
  go_wp2_with fail
  obtain ⟨full, c2, hfull, HK⟩ := HK.out
  obtain rfl := hfull (by omega)
  rw [cuts_cut_no HZ.out] at HK
  refine HK.mono ?_
  rintro e w7 ⟨rfl, L6⟩
  have HFR := Lib.hid L6.lv
  clear L6 HK
  rcases q3 with q3 | ⟨q3, q4⟩
  · go_wp2_with fail
    go_ret
    exact ⟨rfl, HFR.out⟩
  · go_wp2_with fail
    go_ret
    exact ⟨rfl, HFR.out⟩
theorem cuts_calls (w : World) (s : ByteArray) (size : Int) (t : ByteArray) : Calls Try.prog 4 #[.string s, .int .i64 size, .string t] w fun e w' => e = .returned (.bool true) ∧ Fr Nob w w' := by
  by_cases hs : 512 < s.size
  · by_cases ht : 512 < t.size
    · by_cases hz : size < 0 ∨ ((s.extract 0 512).size : Int) < size
      · exact cuts111 w s hs size t ht hz
      · exact cuts110 w s hs size t ht hz
    · by_cases hz : size < 0 ∨ ((s.extract 0 512).size : Int) < size
      · exact cuts101 w s hs size t (Nat.not_lt.1 ht) hz
      · exact cuts100 w s hs size t (Nat.not_lt.1 ht) hz
  · by_cases ht : 512 < t.size
    · by_cases hz : size < 0 ∨ (s.size : Int) < size
      · exact cuts011 w s (Nat.not_lt.1 hs) size t ht hz
      · exact cuts010 w s (Nat.not_lt.1 hs) size t ht hz
    · by_cases hz : size < 0 ∨ (s.size : Int) < size
      · exact cuts001 w s (Nat.not_lt.1 hs) size t (Nat.not_lt.1 ht) hz
      · exact cuts000 w s (Nat.not_lt.1 hs) size t (Nat.not_lt.1 ht) hz
end Go.Proofs.Ytfldhmeenbdkiaa
