/- VolLinks: its walk. -/
import Derived.Test.YtfldhmeenbdkiaaVyC
namespace Go.Proofs.Ytfldhmeenbdkiaa
open Go.RowKit

section
variable {S0 : Nat → Prop} {w0 w : World} {v b d m c : Nat} {A : Nat → Node} {B R : Asr}
theorem VW.box (h : VW c S0 w0 v b d m A B w) (hB : Loc B) (e : Nat) (cs : List Value) : VW c S0 w0 v b d m A (Star (blkA w.heap.size e cs) B) (w.alloc (.cells cs.toArray e)) := by
  obtain ⟨L, H, X, h1, h2, h3⟩ := h
  exact ⟨L, H, X, VV.box h1 hB e cs, h2, h3⟩
theorem VW.rerow {g e : Nat} {cs ds : List Value} {w' : World} (h : VW c S0 w0 v b d m A (Star (blkA g e cs) B) w) (hB : Loc B) (hb : Blk w' g e ds) (hf : Fr (· = g) w w') : VW c S0 w0 v b d m A (Star (blkA g e ds) B) w' := by
  obtain ⟨L, H, X, h1, h2, h3⟩ := h
  exact ⟨L, H, X, VV.rerow h1 hB hb hf, h2, h3⟩
theorem VW.less (h : VW c S0 w0 v b d m A (Star R B) w) : VW c S0 w0 v b d m A B w := by
  obtain ⟨L, H, X, h1, h2, h3⟩ := h
  exact ⟨L, H, X, VV.less h1, h2, h3⟩
theorem VW.blk {g e : Nat} {cs : List Value} (h : VW c S0 w0 v b d m A (Star (blkA g e cs) B) w) : Blk w g e cs := by
  obtain ⟨L, H, X, h1, h2, h3⟩ := h
  exact VV.blk h1
end
/-- What Stat tells of it. -/
abbrev fstL (k n : Nat) : List Value := [.int .i64 1, .int .i64 k, .int .i64 n]
theorem Try.sizeFstL (k n : Nat) : (Try.prog.info? tStat).map (·.size) = some (fstL k n).length := by rw [Try.sizeStat]; rfl
theorem fst_len (k n : Nat) : zeroS.length = (fstL k n).length := rfl
theorem fst_one (k n : Nat) : (fstL k n).toArray.all (·.oneCell') = true := by simp [fstL, Value.oneCell']

/-- One file alone, its links. -/
def onel (k : Nat) (d : List UInt8) : Nat → Node := setA (fun _ => Node.free) 0 ⟨1, k, d⟩
theorem onel_zero (k : Nat) (d : List UInt8) : (onel k d) 0 = ⟨1, k, d⟩ := by unfold onel setA; rw [if_pos rfl]
theorem onel_set (k j : Nat) (d e : List UInt8) : setA (onel k d) 0 ⟨1, j, e⟩ = onel j e := by
  funext i
  unfold onel setA
  split <;> rfl
theorem onel_find (k : Nat) (d : List UInt8) : afindE (onel k d) 0 = 0 := rfl
theorem one_onel (d : List UInt8) : one d = onel 0 d := rfl
def abc : ByteArray := ⟨#[97, 98, 99]⟩
theorem abc_write : awriteE 28 (one []) false 0 0 abc = 0 ∧ awrite 28 (one []) false 0 0 abc = onel 0 abc.data.toList := by
  have := one_write_end (m := 28) (d := []) (s := abc) (by decide) (by decide) (by decide)
  simpa [one_onel] using this
/-- May it be linked so? -/
def linkOk (k : Nat) (by_ : Int) : Prop := -255 ≤ by_ ∧ by_ ≤ 255 ∧ 0 ≤ (k : Int) + by_ ∧ (k : Int) + by_ ≤ 255
theorem onel_link {k : Nat} {d : List UInt8} {by_ : Int} (h : linkOk k by_) : alinkE (onel k d) false 0 by_ = 0 ∧ alink (onel k d) false 0 by_ = onel ((k : Int) + by_).toNat d := by
  obtain ⟨h1, h2, h3, h4⟩ := h
  have hE : alinkE (onel k d) false 0 by_ = 0 := by
    unfold alinkE
    rw [onel_find, if_neg (by simp), show Int.toNat 0 = 0 from rfl, onel_zero, if_neg, if_neg Bool.false_ne_true]
    show ¬ (by_ < -255 ∨ 255 < by_ ∨ (k : Int) + by_ < 0 ∨ 255 < (k : Int) + by_)
    omega
  refine ⟨hE, ?_⟩
  unfold alink
  rw [if_pos hE, show Int.toNat 0 = 0 from rfl, onel_zero, onel_set]
theorem onel_link_no {k : Nat} {d : List UInt8} {by_ : Int} (h : ¬ linkOk k by_) : alinkE (onel k d) false 0 by_ = 15 ∧ alink (onel k d) false 0 by_ = onel k d := by
  have hE : alinkE (onel k d) false 0 by_ = 15 := by
    unfold alinkE
    rw [onel_find, if_neg (by simp), show Int.toNat 0 = 0 from rfl, onel_zero, if_pos]
    show by_ < -255 ∨ 255 < by_ ∨ (k : Int) + by_ < 0 ∨ 255 < (k : Int) + by_
    unfold linkOk at h
    omega
  refine ⟨hE, ?_⟩
  unfold alink
  rw [hE, if_neg (by decide)]
theorem onel_stat (k : Nat) (d : List UInt8) : (if afindE (onel k d) 0 = 0 then nstatV ((onel k d) (0 : Int).toNat) else nstatV Node.free) = .agg (fstL k d.length).toArray := by
  rw [onel_find, if_pos rfl, show Int.toNat 0 = 0 from rfl, onel_zero]; rfl

set_option maxRecDepth 100000 in
set_option maxHeartbeats 4000000 in
theorem links_calls {w : World} {ao : Option Addr} {cap : Nat} {ks : List Int} (hs : Srcs w (.slice ao ks.length cap) ks.length 1 (ks.map (Value.int .i64))) (hb : ks.length * 8 ≤ 140737488351232) (hr : ∀ k ∈ ks, -9223372036854775808 ≤ k ∧ k ≤ 9223372036854775807) :
    Calls Try.prog 5 #[.slice ao ks.length cap] w fun e w' => e = .returned (.bool true) ∧ Fr Nob w w' := by
  have LS : Lv Nob w Emp w := (Live.start w).lv
  have HH := Lib.hid (Lv.calls LS loc_emp (vshown_calls w))
  have HS := Lib.hid hs
  have HRG := Lib.hid hr
  clear LS hs hr
  go_enter Try.func5, Try.ntmps5
  go_wp2_with fail
  refine HH.out.mono ?_
  rintro e w0 ⟨rfl, LS⟩
  have HF := Lib.hid (fresh_calls loc_emp LS 60)
  clear LS HH
  go_wp2_with fail
  refine HF.out.mono ?_
  rintro e w1 ⟨d, b, rfl, L0⟩
  have HFO := Lib.hid (w_format L0 loc_emp)
  clear L0 HF
  go_wp2_with fail
  obtain ⟨c, HFO⟩ := HFO.out
  refine HFO.mono ?_
  rintro e w2 ⟨v, rfl, L1⟩
  have HC := Lib.hid (w_commit L1 loc_emp)
  clear L1 HFO
  go_wp2_with fail
  refine HC.out.mono ?_
  rintro e w3 ⟨rfl, L2⟩
  have HN := Lib.hid (w_new1 L2 loc_emp (by omega))
  clear L2 HC
  go_wp2_with fail
  refine HN.out.mono ?_
  rintro e w4 ⟨rfl, L3⟩
  rw [fresh_m.2.1] at L3
  have HW := Lib.hid (w_write L3 loc_emp 0 0 abc)
  clear L3 HN
  go_wp2_with fail
  obtain ⟨full, c1, hfull, HW⟩ := HW.out
  obtain rfl := hfull (by omega)
  rw [abc_write.1, abc_write.2] at HW
  refine HW.mono ?_
  rintro e w5 ⟨rfl, L4⟩
  have HC := Lib.hid (w_commit L4 loc_emp)
  clear L4 HW
  go_wp2_with fail
  refine HC.out.mono ?_
  rintro e w6 ⟨rfl, L5⟩
  have HL := Lib.hid L5
  clear L5 HC
  obtain ⟨n, hn⟩ : ∃ n, n = ks.length := ⟨_, rfl⟩
  rw [← hn]
  have HNN := Lib.hid hn
  clear hn
  go_wp2_with fail
  go_loopw [10, 11] (fun s10 s11 wr => ∃ k K : Nat, k ≤ n ∧ K ≤ 255 ∧ s10 = .int .i64 K ∧ s11 = .int .i64 k ∧ VW 0 Nob w v b d 28 (onel K abc.data.toList) Emp wr) (fun _ s11 _ => n - (intOf s11).toNat)
  case atStart => exact ⟨0, 0, Nat.zero_le _, Nat.zero_le _, rfl, rfl, HL.out⟩
  case round =>
    obtain ⟨k, K, hk, hK, rfl, rfl, hV⟩ := hrel
    have HL := Lib.hid hV
    clear hV
    by_cases hlt : k < n
    · have hlt' : k < ks.length := by have := HNN.out; omega
      obtain ⟨x, hx⟩ : ∃ x, ks[k]? = some x := ⟨_, List.getElem?_eq_getElem hlt'⟩
      obtain ⟨g, off, rfl, q0⟩ := (HS.out.fr HL.out.lv (fun _ _ _ _ h => h)).at (j := k) (u := .int .i64 x) (by rw [List.getElem?_map, hx]; rfl)
      have hxr := HRG.out x (List.mem_of_getElem? hx)
      have wr1 : linkOk K x → IntKind.i64.wrap ((K : Int) + x) = (K : Int) + x := fun h => by obtain ⟨h1, h2, h3, h4⟩ := h; rw [IntKind.wrap_i64] <;> omega
      have HX : Hid (∀ w', Fr Nob w w' → w'.cell? ⟨g, off + k, none⟩ = some (.int .i64 x)) := Lib.hid fun w' hf => by
        obtain ⟨g', off', e, q⟩ := (HS.out.fr hf (fun _ _ _ _ h => h)).at (j := k) (u := .int .i64 x) (by rw [List.getElem?_map, hx]; rfl)
        cases e
        exact q
      have HLK := Lib.hid (w_link HL.out loc_emp 0 x)
      by_cases hok : linkOk K x
      · have wr2 := wr1 hok
        have HOK := Lib.hid hok
        obtain ⟨h1, h2, h3, h4⟩ := hok
        obtain ⟨K', hK'⟩ : ∃ K' : Nat, (K : Int) + x = K' := ⟨((K : Int) + x).toNat, by omega⟩
        have hK2 : K' ≤ 255 := by omega
        rw [hK'] at h3 h4 wr2
        have HK2 := Lib.hid hK2
        have e1 := onel_link (d := abc.data.toList) HOK.out
        rw [hK', Int.toNat_natCast] at e1
        have E1 := Lib.hid e1
        clear wr1 hx hxr e1 hK2
        go_wp2_with fail
        obtain ⟨full, c2, hfull, HLK⟩ := HLK.out
        obtain rfl := hfull (by omega)
        rw [E1.out.1, E1.out.2] at HLK
        refine HLK.mono ?_
        rintro e w7 ⟨rfl, L7⟩
        have q0 := HX.out w7 L7.lv
        have hS := w_stat L7 loc_emp 0
        rw [onel_stat, onel_find] at hS
        have HSt := Lib.hid hS
        clear hS L7 HLK
        go_wp2_with fail
        refine HSt.out.mono ?_
        rintro e w8 ⟨rfl, L8⟩
        have HB8 := Lib.hid (Blk.new w8 tStat zeroS)
        have HL8 := Lib.hid (L8.box loc_emp tStat zeroS)
        clear L8 HSt q0
        go_wp2_with (first | (with_reducible show wpList _ _ _ _ _ _; refine wpList_store_blk (x := .tmp 14) (y := .tmp 106) rfl rfl rfl HB8.out [.int .i64 1, .int .i64 K', .int .i64 3] rfl (Try.sizeFstL _ _) (fst_len _ _) (fst_one _ _) ?_; intro w9 hb9 hf9 hs9; have HB9 := Lib.hid hb9; have L9 := (HL8.out.rerow loc_emp hb9 hf9).less; have HL9 := Lib.hid L9; clear L9 hb9 hf9 hs9) | (with_reducible show wpList _ _ _ _ _ _; refine wpList_load_blk (x := .tmp 14) rfl rfl rfl HB9.out Try.underlying48 rfl (Try.sizeFstL _ _) ?_))
        refine (w_commit HL9.out loc_emp).mono ?_
        rintro e w10 ⟨rfl, L10⟩
        have HL10 := Lib.hid L10
        clear L10
        go_wp2_with fail
        go_roundw
        case rel => exact ⟨k + 1, K', hlt, HK2.out, rfl, by go_num, HL10.out⟩
        case measure => simp [intOf]; omega
      · have E1 := Lib.hid (onel_link_no (d := abc.data.toList) hok)
        have HK2 := Lib.hid hK
        have hcs : x < -255 ∨ (-255 ≤ x ∧ 255 < x) ∨ (-255 ≤ x ∧ x ≤ 255 ∧ (K : Int) + x < 0) ∨ (-255 ≤ x ∧ x ≤ 255 ∧ 0 ≤ (K : Int) + x ∧ 255 < (K : Int) + x) := by unfold linkOk at hok; omega
        have wr3 : -255 ≤ x → x ≤ 255 → IntKind.i64.wrap ((K : Int) + x) = (K : Int) + x := fun h1 h2 => by rw [IntKind.wrap_i64] <;> omega
        clear wr1 hx hxr hok hK
        rcases hcs with h1 | ⟨h1, h2⟩ | ⟨h1, h2, h3⟩ | ⟨h1, h2, h3, h4⟩
        · clear wr3
          go_wp2_with fail
          obtain ⟨full, c2, hfull, HLK⟩ := HLK.out
          obtain rfl := hfull (by omega)
          rw [E1.out.1, E1.out.2] at HLK
          refine HLK.mono ?_
          rintro e w7 ⟨rfl, L7⟩
          have q0 := HX.out w7 L7.lv
          have hS := w_stat L7 loc_emp 0
          rw [onel_stat, onel_find] at hS
          have HSt := Lib.hid hS
          clear hS L7 HLK
          go_wp2_with fail
          refine HSt.out.mono ?_
          rintro e w8 ⟨rfl, L8⟩
          have HB8 := Lib.hid (Blk.new w8 tStat zeroS)
          have HL8 := Lib.hid (L8.box loc_emp tStat zeroS)
          clear L8 HSt q0
          go_wp2_with (first | (with_reducible show wpList _ _ _ _ _ _; refine wpList_store_blk (x := .tmp 14) (y := .tmp 106) rfl rfl rfl HB8.out [.int .i64 1, .int .i64 K, .int .i64 3] rfl (Try.sizeFstL _ _) (fst_len _ _) (fst_one _ _) ?_; intro w9 hb9 hf9 hs9; have HB9 := Lib.hid hb9; have L9 := (HL8.out.rerow loc_emp hb9 hf9).less; have HL9 := Lib.hid L9; clear L9 hb9 hf9 hs9) | (with_reducible show wpList _ _ _ _ _ _; refine wpList_load_blk (x := .tmp 14) rfl rfl rfl HB9.out Try.underlying48 rfl (Try.sizeFstL _ _) ?_))
          refine (w_commit HL9.out loc_emp).mono ?_
          rintro e w10 ⟨rfl, L10⟩
          have HL10 := Lib.hid L10
          clear L10
          go_wp2_with fail
          go_roundw
          case rel => exact ⟨k + 1, K, hlt, HK2.out, rfl, by go_num, HL10.out⟩
          case measure => simp [intOf]; omega
        · clear wr3
          go_wp2_with fail
          obtain ⟨full, c2, hfull, HLK⟩ := HLK.out
          obtain rfl := hfull (by omega)
          rw [E1.out.1, E1.out.2] at HLK
          refine HLK.mono ?_
          rintro e w7 ⟨rfl, L7⟩
          have q0 := HX.out w7 L7.lv
          have hS := w_stat L7 loc_emp 0
          rw [onel_stat, onel_find] at hS
          have HSt := Lib.hid hS
          clear hS L7 HLK
          go_wp2_with fail
          refine HSt.out.mono ?_
          rintro e w8 ⟨rfl, L8⟩
          have HB8 := Lib.hid (Blk.new w8 tStat zeroS)
          have HL8 := Lib.hid (L8.box loc_emp tStat zeroS)
          clear L8 HSt q0
          go_wp2_with (first | (with_reducible show wpList _ _ _ _ _ _; refine wpList_store_blk (x := .tmp 14) (y := .tmp 106) rfl rfl rfl HB8.out [.int .i64 1, .int .i64 K, .int .i64 3] rfl (Try.sizeFstL _ _) (fst_len _ _) (fst_one _ _) ?_; intro w9 hb9 hf9 hs9; have HB9 := Lib.hid hb9; have L9 := (HL8.out.rerow loc_emp hb9 hf9).less; have HL9 := Lib.hid L9; clear L9 hb9 hf9 hs9) | (with_reducible show wpList _ _ _ _ _ _; refine wpList_load_blk (x := .tmp 14) rfl rfl rfl HB9.out Try.underlying48 rfl (Try.sizeFstL _ _) ?_))
          refine (w_commit HL9.out loc_emp).mono ?_
          rintro e w10 ⟨rfl, L10⟩
          have HL10 := Lib.hid L10
          clear L10
          go_wp2_with fail
          go_roundw
          case rel => exact ⟨k + 1, K, hlt, HK2.out, rfl, by go_num, HL10.out⟩
          case measure => simp [intOf]; omega
        · have wr2 := wr3 h1 h2
          clear wr3
          go_wp2_with fail
          obtain ⟨full, c2, hfull, HLK⟩ := HLK.out
          obtain rfl := hfull (by omega)
          rw [E1.out.1, E1.out.2] at HLK
          refine HLK.mono ?_
          rintro e w7 ⟨rfl, L7⟩
          have q0 := HX.out w7 L7.lv
          have hS := w_stat L7 loc_emp 0
          rw [onel_stat, onel_find] at hS
          have HSt := Lib.hid hS
          clear hS L7 HLK
          go_wp2_with fail
          refine HSt.out.mono ?_
          rintro e w8 ⟨rfl, L8⟩
          have HB8 := Lib.hid (Blk.new w8 tStat zeroS)
          have HL8 := Lib.hid (L8.box loc_emp tStat zeroS)
          clear L8 HSt q0
          go_wp2_with (first | (with_reducible show wpList _ _ _ _ _ _; refine wpList_store_blk (x := .tmp 14) (y := .tmp 106) rfl rfl rfl HB8.out [.int .i64 1, .int .i64 K, .int .i64 3] rfl (Try.sizeFstL _ _) (fst_len _ _) (fst_one _ _) ?_; intro w9 hb9 hf9 hs9; have HB9 := Lib.hid hb9; have L9 := (HL8.out.rerow loc_emp hb9 hf9).less; have HL9 := Lib.hid L9; clear L9 hb9 hf9 hs9) | (with_reducible show wpList _ _ _ _ _ _; refine wpList_load_blk (x := .tmp 14) rfl rfl rfl HB9.out Try.underlying48 rfl (Try.sizeFstL _ _) ?_))
          refine (w_commit HL9.out loc_emp).mono ?_
          rintro e w10 ⟨rfl, L10⟩
          have HL10 := Lib.hid L10
          clear L10
          go_wp2_with fail
          go_roundw
          case rel => exact ⟨k + 1, K, hlt, HK2.out, rfl, by go_num, HL10.out⟩
          case measure => simp [intOf]; omega
        · have wr2 := wr3 h1 h2
          clear wr3
          go_wp2_with fail
          obtain ⟨full, c2, hfull, HLK⟩ := HLK.out
          obtain rfl := hfull (by omega)
          rw [E1.out.1, E1.out.2] at HLK
          refine HLK.mono ?_
          rintro e w7 ⟨rfl, L7⟩
          have q0 := HX.out w7 L7.lv
          have hS := w_stat L7 loc_emp 0
          rw [onel_stat, onel_find] at hS
          have HSt := Lib.hid hS
          clear hS L7 HLK
          go_wp2_with fail
          refine HSt.out.mono ?_
          rintro e w8 ⟨rfl, L8⟩
          have HB8 := Lib.hid (Blk.new w8 tStat zeroS)
          have HL8 := Lib.hid (L8.box loc_emp tStat zeroS)
          clear L8 HSt q0
          go_wp2_with (first | (with_reducible show wpList _ _ _ _ _ _; refine wpList_store_blk (x := .tmp 14) (y := .tmp 106) rfl rfl rfl HB8.out [.int .i64 1, .int .i64 K, .int .i64 3] rfl (Try.sizeFstL _ _) (fst_len _ _) (fst_one _ _) ?_; intro w9 hb9 hf9 hs9; have HB9 := Lib.hid hb9; have L9 := (HL8.out.rerow loc_emp hb9 hf9).less; have HL9 := Lib.hid L9; clear L9 hb9 hf9 hs9) | (with_reducible show wpList _ _ _ _ _ _; refine wpList_load_blk (x := .tmp 14) rfl rfl rfl HB9.out Try.underlying48 rfl (Try.sizeFstL _ _) ?_))
          refine (w_commit HL9.out loc_emp).mono ?_
          rintro e w10 ⟨rfl, L10⟩
          have HL10 := Lib.hid L10
          clear L10
          go_wp2_with fail
          go_roundw
          case rel => exact ⟨k + 1, K, hlt, HK2.out, rfl, by go_num, HL10.out⟩
          case measure => simp [intOf]; omega
    · have hge : ¬ (k : Int) < (n : Int) := by omega
      have HFR := Lib.hid HL.out.lv
      go_wp2_with fail
      go_ret
      exact ⟨rfl, HFR.out⟩
end Go.Proofs.Ytfldhmeenbdkiaa
