/- A head read: the program's log. -/
import Derived.Test.YtchilnjocnkodaaGreatHead
namespace Go.Proofs.YtchilnjocnkodaaGreat
open Go.RowKit

theorem byteAt_get {s : ByteArray} {i : Nat} (h : i < s.size) : byteAt s i = s[i].toNat := by
  unfold byteAt
  rw [List.getD, byte_at h]
  rfl
theorem byteAt_lt (s : ByteArray) (i : Nat) : byteAt s i < 256 := UInt8.toNat_lt _
theorem homeAt_lt (s : ByteArray) (i : Nat) : homeAt s i < 65536 := by
  have h1 := byteAt_lt s (1 + 2 * i)
  have h2 := byteAt_lt s (2 + 2 * i)
  unfold homeAt
  omega
theorem le_two {s : ByteArray} {i : Nat} (h : 3 + 2 * i ≤ s.size) : leNat (s.extract (1 + 2 * i) (3 + 2 * i)).data.toList = homeAt s i := by
  have e : (s.extract (1 + 2 * i) (3 + 2 * i)).data.toList = [s[1 + 2 * i]'(by omega), s[2 + 2 * i]'(by omega)] := by
    apply List.ext_getElem?
    intro j
    rw [ByteArray.data_extract, Array.toList_extract, List.extract_eq_take_drop]
    rw [List.getElem?_take, List.getElem?_drop]
    match j with
    | 0 => rw [if_pos (by omega), byte_at (by omega)]; rfl
    | 1 => rw [if_pos (by omega), show 1 + 2 * i + 1 = 2 + 2 * i by omega, byte_at (by omega)]; rfl
    | j + 2 => rw [if_neg (by omega)]; rfl
  rw [e]
  unfold homeAt
  rw [byteAt_get (by omega), byteAt_get (by omega)]
  simp [leNat]
def risesAt (s : ByteArray) (most : Int) (i : Nat) : Bool := decide ((homeAt s i : Int) < most) && (i == 0 || decide (homeAt s (i - 1) < homeAt s i))
theorem rising_succ (s : ByteArray) (most : Int) (j : Nat) : rising s most (j + 1) = (rising s most j && risesAt s most j) := by
  unfold rising risesAt
  rw [List.range_succ, List.all_append]
  simp
theorem rising_bad {s : ByteArray} {most : Int} {j n : Nat} (hj : j < n) (h : risesAt s most j = false) : rising s most n = false := by
  unfold rising
  rw [List.all_eq_false]
  exact ⟨j, List.mem_range.2 hj, by unfold risesAt at h; rw [h]; simp⟩
def hs (s : ByteArray) (j : Nat) : List Nat := (List.range j).map (homeAt s)
theorem hs_succ (s : ByteArray) (j : Nat) : hs s (j + 1) = hs s j ++ [homeAt s j] := by unfold hs; rw [List.range_succ, List.map_append]; rfl
theorem hs_length (s : ByteArray) (j : Nat) : (hs s j).length = j := by simp [hs]
theorem hs_get (s : ByteArray) {i j : Nat} (h : i < j) : (hs s j)[i]? = some (homeAt s i) := by simp [hs, h]
theorem homesP_eq (s : ByteArray) (most : Int) : homesP s most = if byteAt s 0 ≤ 30 ∧ rising s most (byteAt s 0) = true ∧ headP (hs s (byteAt s 0)) = s then some (hs s (byteAt s 0)) else none := rfl

theorem Tryz.infoInt : (Tryz.prog.info? 3).map (fun i => (i.zero, i.size, i.bytes)) = some (some (.int .i64 0), 1, 8) := by kernel_rfl
theorem Tryz.rowInt : RowT Tryz.prog 59 3 1 8 := by
  obtain ⟨i0, hi, hz0, hz1, hz2⟩ := info_parts Tryz.infoInt
  exact ⟨⟨i0, _, Tryz.underlying59, hi, hz0, hz1, hz2, rfl⟩, by decide, by decide⟩
abbrev tIntE : Nat := 3

/-- What the log's homes answers. -/
def HomesRet (s : ByteArray) (most : Int) (w : World) (e : Ending) (w' : World) : Prop :=
  Fr Nob w w' ∧ ∃ v, e = .returned (.tuple #[v, .bool (homesP s most).isSome]) ∧ ∀ l, homesP s most = some l → w'.ownsRow 0 tIntE 1 v l.length (nums l) ∧ ∀ k, v.ownBlock = some k → w.heap.size ≤ k
theorem homesRet_none {s : ByteArray} {most : Int} {w w' : World} {v : Value} (h : homesP s most = none) (hf : Fr Nob w w') : HomesRet s most w (.returned (.tuple #[v, .bool false])) w' :=
  ⟨hf, v, by rw [h]; rfl, fun l hl => by rw [h] at hl; cases hl⟩

set_option maxRecDepth 100000 in
set_option maxHeartbeats 2000000 in
theorem homes_calls {s : ByteArray} (hz : s.size = 64) (most : Int) (w : World) : Calls Tryz.prog 29 #[.string s, .int .i64 most] w (HomesRet s most w) := by
  have h0 : 0 < s.size := by omega
  have hb0 := byteAt_get h0
  obtain ⟨n, hn⟩ : ∃ n, n = byteAt s 0 := ⟨_, rfl⟩
  have hn2 := byteAt_lt s 0
  have hsz : (s.size : Int) = 64 := by omega
  rw [← hn] at hb0 hn2
  have hbi : (s[0].toNat : Int) = (n : Int) := by rw [← hb0]
  have HN := Lib.hid hn
  clear hn hb0
  by_cases h30 : 30 < n
  · have HB : Hid (homesP s most = none) := (show homesP s most = none by rw [homesP_eq, if_neg (fun h => by have := h.1; rw [← HN.out] at this; omega)])
    have h30' : (30 : Int) < (n : Int) := by omega
    go_enter Tryz.func29, Tryz.ntmps29
    go_wp2
    go_ret2
    exact homesRet_none HB.out (Fr.refl _ _)
  · have h30' : ¬ (30 : Int) < (n : Int) := by omega
    go_enter Tryz.func29, Tryz.ntmps29
    go_wp2_with fail
    go_loopw [7, 16] (fun o i wr => ∃ j : Nat, j ≤ n ∧ i = .int .i64 j ∧ rising s most j = true ∧ ∃ ao c, o = .slice ao j c ∧ wr.ownsRow 0 tIntE 1 (.slice ao j c) j (nums (hs s j)) ∧ (∀ k, (Value.slice ao j c).ownBlock = some k → w.heap.size ≤ k) ∧ Fr Nob w wr) (fun _ i _ => n - (intOf i).toNat)
    case atStart => exact ⟨0, Nat.zero_le _, rfl, rfl, none, 0, rfl, World.ownsRow_nil _ _ _ _, fun k hk => (by cases hk), Fr.refl _ _⟩
    case round =>
      obtain ⟨j, hj, rfl, hri, ao, c, rfl, hown, hnew, hf⟩ := hrel
      have HO := Lib.hid hown
      have HW := Lib.hid hnew
      have HF := Lib.hid hf
      have HRI := Lib.hid hri
      clear hown hnew hf hri
      by_cases hlt : j < n
      · have hle := le_two (s := s) (i := j) (by omega)
        go_wp2_with fail
        refine (wof_calls _ wr (by rw [ByteArray.size_extract]; omega)).mono ?_
        rintro e w2 ⟨rfl, hf2⟩
        rw [hle]
        have hlt6 := homeAt_lt s j
        have HF2 : Hid (Fr Nob w w2) := HF.out.trans hf2
        have HO2 : Hid (w2.ownsRow 0 tIntE 1 (Value.slice ao j c) j (nums (hs s j))) := row_fr HO.out hf2 (fun _ _ h => h)
        obtain ⟨h, hh⟩ : ∃ h, h = homeAt s j := ⟨_, rfl⟩
        have HH := Lib.hid hh
        rw [← hh] at hlt6 ⊢
        clear hle hf2 HO hh
        -- what the round comes to where the home sector may stand here
        have fin : ∀ (v' : Value) (w3 : World) (g c' : Nat), v' = .slice (some ⟨g, 0, none⟩) (j + 1) c' → risesAt s most j = true → w3.ownsRow 0 tIntE 1 v' (j + 1) (nums (hs s j) ++ [.int .i64 (h : Int)]) → Fr (fun k => (Value.slice ao j c).ownBlock = some k) (w2.alloc (.cells #[.int .i64 (h : Int)] tIntE)) w3 →
            (∀ k, v'.ownBlock = some k → (Value.slice ao j c).ownBlock = some k ∨ (w2.alloc (.cells #[.int .i64 (h : Int)] tIntE)).heap.size ≤ k) →
            ∃ j' : Nat, j' ≤ n ∧ Value.int .i64 ((j : Int) + 1) = .int .i64 j' ∧ rising s most j' = true ∧ ∃ ao c, v' = .slice ao j' c ∧ w3.ownsRow 0 tIntE 1 (.slice ao j' c) j' (nums (hs s j')) ∧ (∀ k, (Value.slice ao j' c).ownBlock = some k → w.heap.size ≤ k) ∧ Fr Nob w w3 := by
          rintro v' w3 g c' rfl hri hown3 hf3 hv3
          refine ⟨j + 1, hlt, by go_num, ?_, _, _, rfl, ?_, ?_, ?_⟩
          · rw [rising_succ, HRI.out, hri]; rfl
          · rw [hs_succ, ← HH.out]
            simpa [nums] using hown3
          · intro k hk
            rcases hv3 k hk with h | h
            · exact HW.out k h
            · have := HF2.out.size
              simp at h
              omega
          · exact ((HF2.out.alloc _).trans' hf3 (fun i hi e => by have := HW.out i e; omega))
        have FIN := Lib.hid fin
        clear fin
        by_cases hm : most ≤ (h : Int)
        · have HB : Hid (homesP s most = none) := (show homesP s most = none by
            rw [homesP_eq, if_neg]
            rintro ⟨_, h2, _⟩
            rw [rising_bad (j := j) (by rw [← HN.out]; exact hlt) (by unfold risesAt; rw [← HH.out, decide_eq_false (by omega)]; rfl)] at h2
            cases h2)
          go_wp2
          go_ret2
          exact homesRet_none HB.out HF2.out
        by_cases hj0 : j = 0
        · subst hj0
          have hri : risesAt s most 0 = true := by unfold risesAt; rw [← HH.out, decide_eq_true (by omega)]; rfl
          have HRJ := Lib.hid hri
          clear hri
          go_wp2_with (at_builtin; refine wpList_append_mine rfl (ho := rfl) (s := .tmp 45) (x := .tmp 47) Tryz.rowInt rfl (HO2.out.alloc _) rfl (srcs_one w2 _ _ 1 rfl) (by omega) ?_; intro v' w3 hown3 hf3 hv3 _; obtain ⟨g', cap', rfl⟩ := row_succ hown3)
          go_roundw
          case rel => exact FIN.out _ w3 g' cap' rfl HRJ.out hown3 hf3 hv3
          case measure => simp [intOf]; omega
        · obtain ⟨g, c', hgc⟩ : ∃ g cap, Value.slice ao j c = .slice (some ⟨g, 0, none⟩) j cap := (row_form HO2.out).elim (fun h => by have := h.2; omega) id
          simp only [Value.slice.injEq, true_and] at hgc
          obtain ⟨rfl, rfl⟩ := hgc
          have hc := HO2.out.cells (g := g) rfl (j - 1) (.int .i64 (homeAt s (j - 1) : Int)) (by unfold nums; rw [List.getElem?_map, hs_get s (by omega)]; rfl)
          simp only [Addr.add_lit, Nat.zero_add] at hc
          have hj1 : ((j : Int) - 1) = ((j - 1 : Nat) : Int) := by omega
          obtain ⟨q, hq⟩ : ∃ q, q = homeAt s (j - 1) := ⟨_, rfl⟩
          rw [← hq] at hc
          have HQ := Lib.hid hq
          have hpos : (0 : Int) < (j : Int) := by omega
          have hjl : j - 1 < j := by omega
          clear hq
          by_cases hle : (h : Int) ≤ (q : Int)
          · have HB : Hid (homesP s most = none) := (show homesP s most = none by
              rw [homesP_eq, if_neg]
              rintro ⟨_, h2, _⟩
              rw [rising_bad (j := j) (by rw [← HN.out]; exact hlt) (by unfold risesAt; rw [← HH.out, ← HQ.out, decide_eq_false (p := q < h) (by omega), show (j == 0) = false from beq_eq_false_iff_ne.2 hj0]; simp)] at h2
              cases h2)
            go_wp2
            go_ret2
            exact homesRet_none HB.out HF2.out
          · have hri : risesAt s most j = true := by unfold risesAt; rw [← HH.out, ← HQ.out, decide_eq_true (by omega), decide_eq_true (p := q < h) (by omega)]; simp
            have HRJ := Lib.hid hri
            clear hri
            go_wp2_with (at_builtin; refine wpList_append_mine rfl (ho := rfl) (s := .tmp 45) (x := .tmp 47) Tryz.rowInt rfl (HO2.out.alloc _) rfl (srcs_one w2 _ _ 1 rfl) (by omega) ?_; intro v' w3 hown3 hf3 hv3 _; obtain ⟨g', cap', rfl⟩ := row_succ hown3)
            go_roundw
            case rel => exact FIN.out _ w3 g' cap' rfl HRJ.out hown3 hf3 hv3
            case measure => simp [intOf]; omega
      · obtain rfl : j = n := by omega
        have hln := hs_length s j
        have hhc := head_calls (l := hs s j) (ao := ao) (c := c) (w := wr) (by rw [hln]; exact row_srcs HO.out (nums_one _)) (by rw [hln]; omega) (by intro h hh; obtain ⟨i, _, rfl⟩ := List.mem_map.1 hh; exact homeAt_lt s i)
        rw [hln] at hhc
        have hcmp := bytes_beq (headP (hs s j)) s
        go_wp2_with fail
        refine hhc.mono ?_
        rintro e w2 ⟨rfl, hf2⟩
        have HF2 : Hid (Fr Nob w w2) := HF.out.trans hf2
        have HO2 : Hid (w2.ownsRow 0 tIntE 1 (Value.slice ao j c) j (nums (hs s j))) := row_fr HO.out hf2 (fun _ _ h => h)
        clear hhc hf2
        by_cases he : headP (hs s j) = s
        · have HP : Hid (homesP s most = some (hs s j)) := (show homesP s most = some (hs s j) by
            rw [homesP_eq, ← HN.out, if_pos ⟨by omega, HRI.out, he⟩])
          rw [decide_eq_true he] at hcmp
          clear he
          go_wp2
          go_ret2
          refine ⟨HF2.out, _, by rw [HP.out]; rfl, fun l hl => ?_⟩
          rw [HP.out] at hl
          simp only [Option.some.injEq] at hl
          subst hl
          rw [hln]
          exact ⟨HO2.out, HW.out⟩
        · have HP : Hid (homesP s most = none) := (show homesP s most = none by
            rw [homesP_eq, ← HN.out, if_neg (fun h => he h.2.2)])
          rw [decide_eq_false he] at hcmp
          clear he
          go_wp2
          go_ret2
          exact homesRet_none HP.out HF2.out
end Go.Proofs.YtchilnjocnkodaaGreat
