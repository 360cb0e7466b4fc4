/- The statements' own helpers of layer 7: sets, homes. -/
import Derived.Test.YtchilnjocnkodaaLwA
import Derived.Deep.RegionHeld3
namespace Go.Proofs.Ytchilnjocnkodaa
open Go.RowKit

/-- A transaction that comes in. -/
structure TxD where
  I : List Int
  S : List ByteArray
def TxD.pairs (t : TxD) : List (Int × ByteArray) := t.I.zip t.S
def setsL (L : LSt) (l : List (Int × ByteArray)) : LSt := l.foldl (fun L p => L.set p.1 (secOf p.2)) L
def i64s (l : List Int) : List Value := l.map (.int .i64)
/-- As it lies in a world. -/
structure TxAt (w : World) (a1 a2 : Option Addr) (c1 c2 : Nat) (t : TxD) : Prop where
  I : Srcs w (.slice a1 t.I.length c1) t.I.length 1 (i64s t.I)
  S : Srcs w (.slice a2 t.S.length c2) t.S.length 1 (strs t.S)
  text : ∀ s ∈ t.S, s.size ≤ 140737488351232
  lenI : t.I.length ≤ 140737488351232
  lenS : t.S.length ≤ 140737488351232
  capI : t.I.length ≤ c1

theorem setsL_take (L : LSt) {l : List (Int × ByteArray)} {k : Nat} {p : Int × ByteArray} (h : l[k]? = some p) : setsL L (l.take (k + 1)) = (setsL L (l.take k)).set p.1 (secOf p.2) := by
  unfold setsL
  rw [List.take_add_one, h]
  simp
theorem setsL_good {L : LSt} (h : L.Ok) (l : List (Int × ByteArray)) : (setsL L l).Ok := by
  unfold setsL
  induction l generalizing L with
  | nil => exact h
  | cons p l ih => exact ih (set_good h _ _)
theorem setsL_D (L : LSt) (l : List (Int × ByteArray)) : (setsL L l).D = L.D ∧ (setsL L l).dead = L.dead := by
  unfold setsL
  induction l generalizing L with
  | nil => exact ⟨rfl, rfl⟩
  | cons p l ih =>
    have h1 := set_D L p.1 (secOf p.2)
    have h2 := ih (L := L.set p.1 (secOf p.2))
    exact ⟨h2.1.trans h1.1, h2.2.trans h1.2⟩
theorem zip_some {l : List Int} {k : List ByteArray} {i : Nat} (h1 : i < l.length) (h2 : i < k.length) : (l.zip k)[i]? = some (l[i], k[i]) := by
  rw [List.getElem?_eq_getElem (by rw [List.length_zip]; omega)]
  simp

abbrev tTx : Nat := 26
section
variable {w0 w : World} {b d : Nat} {L : LSt} {B : Asr}

theorem tx_cells {wr : World} {a1 a2 : Option Addr} {c1 c2 : Nat} {t : TxD} (h : TxAt w0 a1 a2 c1 c2 t) (hf : Fr Nob w0 wr) {k : Nat} {i : Int} {s : ByteArray} (h1 : t.I[k]? = some i) (h2 : t.S[k]? = some s) :
    ∃ g1 o1 g2 o2, a1 = some ⟨g1, o1, none⟩ ∧ a2 = some ⟨g2, o2, none⟩ ∧ wr.cell? ⟨g1, o1 + k, none⟩ = some (.int .i64 i) ∧ wr.cell? ⟨g2, o2 + k, none⟩ = some (.string s) := by
  obtain ⟨g1, o1, e1, q1⟩ := h.I.at (j := k) (u := .int .i64 i) (by simp [i64s, h1])
  obtain ⟨g2, o2, e2, q2⟩ := h.S.at (j := k) (u := .string s) (by simp [strs, h2])
  exact ⟨g1, o1, g2, o2, e1, e2, hf.cell q1 (fun h => h), hf.cell q2 (fun h => h)⟩

set_option maxRecDepth 100000 in
set_option maxHeartbeats 4000000 in
theorem sets_calls {a1 a2 : Option Addr} {c1 c2 : Nat} {t : TxD} (hT : TxAt w0 a1 a2 c1 c2 t) (hL : LV Nob w0 b d L B w) (hB : Loc B) (hk : L.Ok) :
    Calls Try.prog 13 #[.pointer (some ⟨b, 0, none⟩), .agg #[.slice a1 t.I.length c1, .slice a2 t.S.length c2]] w fun e w' => e = .returned (.tuple #[]) ∧ LV Nob w0 b d (setsL L t.pairs) B w' := by
  have HT := Lib.hid hT
  have HK := Lib.hid hk
  have hlI := hT.lenI
  have hlS := hT.lenS
  obtain ⟨nI, hnI⟩ : ∃ n, n = t.I.length := ⟨_, rfl⟩
  obtain ⟨nS, hnS⟩ : ∃ n, n = t.S.length := ⟨_, rfl⟩
  rw [← hnI] at hlI ⊢
  rw [← hnS] at hlS ⊢
  have hnp : t.pairs.length = min nI nS := by unfold TxD.pairs; rw [List.length_zip, hnI, hnS]
  have HNI := Lib.hid hnI
  have HNS := Lib.hid hnS
  have HNP := Lib.hid hnp
  have hBl := LV.loc (L := L) (b := b) (d := d) hB
  have L1 := hL.box hBl tTx [.slice a1 nI c1, .slice a2 nS c2]
  clear hnI hnS hnp hT hk hL
  go_enter Try.func13, Try.ntmps13
  go_wp2_with fail
  go_loopw [4] (fun i wr => ∃ k : Nat, k ≤ t.pairs.length ∧ i = .int .i64 k ∧ Lv Nob w0 (Star (blkA w.heap.size tTx [.slice a1 nI c1, .slice a2 nS c2]) (Star (lgA b d (setsL L (t.pairs.take k)).stg (setsL L (t.pairs.take k)).dead) (Star (dskA kD d (setsL L (t.pairs.take k)).D) B))) wr) (fun i _ => t.pairs.length - (intOf i).toNat)
  case atStart => exact ⟨0, Nat.zero_le _, rfl, L1⟩
  case round =>
    obtain ⟨k, hk, rfl, hLk⟩ := hrel
    have hb := hLk.first
    obtain ⟨S1, hb1, _⟩ := hb
    have c0 := hb1.cell (j := 0) rfl
    have cc1 := hb1.cell (j := 1) rfl
    clear hb1 L1
    have hkn := HNP.out
    by_cases hlt : k < t.pairs.length
    · have hk1 : k < nI := by omega
      have hk2 : k < nS := by omega
      have hi : t.I[k]? = some (t.I[k]'(by rw [← HNI.out]; exact hk1)) := List.getElem?_eq_getElem _
      have hs : t.S[k]? = some (t.S[k]'(by rw [← HNS.out]; exact hk2)) := List.getElem?_eq_getElem _
      have hp : t.pairs[k]? = some (t.I[k]'(by rw [← HNI.out]; exact hk1), t.S[k]'(by rw [← HNS.out]; exact hk2)) := zip_some _ _
      obtain ⟨i, ei⟩ : ∃ i, i = t.I[k]'(by rw [← HNI.out]; exact hk1) := ⟨_, rfl⟩
      obtain ⟨s, es⟩ : ∃ s, s = t.S[k]'(by rw [← HNS.out]; exact hk2) := ⟨_, rfl⟩
      rw [← ei] at hi hp
      rw [← es] at hs hp
      have hsz := HT.out.text s (List.mem_of_getElem? hs)
      have HS := Lib.hid hsz
      have hstep := setsL_take L hp
      have HSTEP := Lib.hid hstep
      have hgk := setsL_good HK.out (t.pairs.take k)
      have HGK := Lib.hid hgk
      obtain ⟨g1, o1, g2, o2, rfl, rfl, q1, q2⟩ := tx_cells HT.out hLk.fr hi hs
      have HI := Lib.hid hi
      have HSS := Lib.hid hs
      have hBk : Loc (Star (lgA b d (setsL L (t.pairs.take k)).stg (setsL L (t.pairs.take k)).dead) (Star (dskA kD d (setsL L (t.pairs.take k)).D) B)) := LV.loc hB
      have L2 := hLk.drew (loc_star (loc_blk _ _ _) hBk)
      clear hkn hi hs hp ei es hsz hstep hgk hLk
      go_wp2_with fail
      go_region_held3 (fun w' => w'.cell? ⟨w.heap.size, 0, none⟩ = some (.slice (some ⟨g1, o1, none⟩) nI c1) ∧ w'.cell? ⟨w.heap.size, 1, none⟩ = some (.slice (some ⟨g2, o2, none⟩) nS c2) ∧ w'.cell? ⟨g1, o1 + k, none⟩ = some (.int .i64 i) ∧ w'.cell? ⟨g2, o2 + k, none⟩ = some (.string s))
        (first | go_keep | exact ⟨r0, r1, r2, r3⟩ | exact ⟨s0, s1, s2, s3⟩)
        (first
          | (go_at_call 22; refine (L2.calls (loc_star (loc_blk _ _ _) hBk) (sector_calls s _ (by have := HS.out; omega))).mono ?_; rintro e w7 ⟨rfl, L7⟩; obtain ⟨S7, h7, _⟩ := L7.first; have r0 := h7.cell (j := 0) rfl; have r1 := h7.cell (j := 1) rfl; obtain ⟨_, _, _, _, e1, e2, r2, r3⟩ := tx_cells HT.out L7.fr HI.out HSS.out; cases e1; cases e2)
          | (go_at_call 21; refine (lv_set (L := setsL L (t.pairs.take k)) (B := Star (blkA w.heap.size tTx [.slice (some ⟨g1, o1, none⟩) nI c1, .slice (some ⟨g2, o2, none⟩) nS c2]) B) (L7.map fun _ h => star_right (star_flip h) fun _ h => star_flip h) (loc_star (loc_blk _ _ _) hB) HGK.out i (secOf s)).mono ?_; rintro e w8 ⟨rfl, L8⟩; have L9 := Lv.map (B := Star (blkA w.heap.size tTx [.slice (some ⟨g1, o1, none⟩) nI c1, .slice (some ⟨g2, o2, none⟩) nS c2]) (Star (lgA b d ((setsL L (t.pairs.take k)).set i (secOf s)).stg ((setsL L (t.pairs.take k)).set i (secOf s)).dead) (Star (dskA kD d ((setsL L (t.pairs.take k)).set i (secOf s)).D) B))) L8 (fun _ h => star_flip (star_right h fun _ h => star_flip h)); obtain ⟨S8, h8, _⟩ := L9.first; have s0 := h8.cell (j := 0) rfl; have s1 := h8.cell (j := 1) rfl; obtain ⟨_, _, _, _, e1, e2, s2, s3⟩ := tx_cells HT.out L9.fr HI.out HSS.out; cases e1; cases e2))
      clear L2 L7 h7 r0 r1 r2 r3 L8 h8 s0 s1 s2 s3
      go_wp2_with fail
      go_roundw
      case rel => exact ⟨k + 1, hlt, by go_num, by rw [HSTEP.out]; exact L9⟩
      case measure => simp [intOf]; omega
    · obtain rfl : k = t.pairs.length := by omega
      have hfin : LV Nob w0 b d (setsL L t.pairs) B wr := by
        have := hLk.drop
        rw [List.take_length] at this
        exact this
      have HF := Lib.hid hfin
      obtain ⟨k, hkk⟩ : ∃ k, k = t.pairs.length := ⟨_, rfl⟩
      rw [← hkk] at hkn ⊢
      clear hLk hfin hlt hk
      by_cases h1 : k < nI
      · have h2 : nS ≤ k := by omega
        clear hkk hkn
        go_wp2_with fail
        exact ⟨rfl, .tuple #[], results_none rfl _ _ _, rfl, HF.out⟩
      · clear hkk hkn
        go_wp2_with fail
        exact ⟨rfl, .tuple #[], results_none rfl _ _ _, rfl, HF.out⟩
end
end Go.Proofs.Ytchilnjocnkodaa
