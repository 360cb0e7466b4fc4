/- The document's log: Head. The document's log: Homes. The document's log: install. -/
import Derived.Test.YtchilnjocnkodaaGreatRefT
import Derived.Test.YtchilnjocnkodaaGreatLwA
import Derived.Deep.RegionHeld3
import Derived.BigQuiet
namespace Go.Proofs.YtchilnjocnkodaaGreat
open Go.RowKit

theorem srcs_pair (w : World) (x y : Value) (t : TypeId) (c : Nat) (hx : x.oneCell' = true) (hy : y.oneCell' = true) : Srcs (w.alloc (.cells #[x, y] t)) (.slice (some ⟨w.heap.size, 0, none⟩) 2 c) 2 1 [x, y] := by
  have := srcs_two w x y t c hx hy
  obtain ⟨h1, h2, h3⟩ := this
  refine ⟨h1, h2, ?_⟩
  rcases h3 with ⟨_, h⟩ | ⟨ad, c', e, h⟩
  · cases h
  · right
    simp only [Value.slice.injEq, true_and] at e
    obtain ⟨e1, e2⟩ := e
    cases e1
    exact ⟨_, c, rfl, h⟩

/-- A head as far as its home sectors. -/
def headTo (l : List Nat) (j : Nat) : List UInt8 := UInt8.ofNat l.length :: (l.take j).flatMap twoB
theorem headTo_length (l : List Nat) {j : Nat} (h : j ≤ l.length) : (headTo l j).length = 1 + 2 * j := by
  unfold headTo
  rw [List.length_cons, flat_length, List.length_take]; omega
theorem headTo_succ {l : List Nat} {j h : Nat} (hj : l[j]? = some h) : headTo l (j + 1) = headTo l j ++ twoB h := by
  unfold headTo
  rw [List.take_add_one, hj]
  simp
theorem byteV_mod (h : Nat) : byteV (UInt8.ofNat (h % 256)) = .int .u8 ((h % 256 : Nat) : Int) := by
  unfold byteV
  rw [UInt8.toNat_ofNat']
  congr 1
  omega

def lenV : Value → Nat | .slice _ n _ => n | _ => 0
set_option maxRecDepth 100000 in
set_option maxHeartbeats 4000000 in
theorem rhead_calls {l : List Nat} {ao : Option Addr} {c : Nat} {w : World} (hS : Srcs w (.slice ao l.length c) l.length 1 (nums l)) (hl : l.length ≤ 30) (hh : ∀ h ∈ l, h < 65536) :
    Calls Tryz.prog 56 #[.slice ao l.length c] w fun e w' => e = .returned (.string (headP l)) ∧ Fr Nob w w' := by
  obtain ⟨n, hn⟩ : ∃ n, n = l.length := ⟨_, rfl⟩
  have HN := Lib.hid hn
  have HS := Lib.hid hS
  have HH := Lib.hid hh
  rw [← hn] at hl ⊢
  have L0 : byteV (UInt8.ofNat l.length) = .int .u8 (n : Int) := by
    have := byteV_mod l.length
    rw [Nat.mod_eq_of_lt (by omega)] at this
    rw [this, hn]
  have HL0 := Lib.hid L0
  have hcv : IntKind.u8.wrap (n : Int) = (n : Int) := by unfold IntKind.wrap; simp [IntKind.signed, IntKind.bits]; omega
  clear hn hS hh L0
  go_enter Tryz.func56, Tryz.ntmps56
  go_wp2_with fail
  go_loopw [3, 4] (fun b i wr => ∃ j : Nat, j ≤ n ∧ i = .int .i64 j ∧ ∃ ao c, b = .slice ao (1 + 2 * j) c ∧ wr.ownsRow 0 5 1 (.slice ao (1 + 2 * j) c) (1 + 2 * j) ((headTo l j).map byteV) ∧ (∀ k, (Value.slice ao (1 + 2 * j) c).ownBlock = some k → w.heap.size ≤ k) ∧ Fr Nob w wr) (fun _ i _ => n - (intOf i).toNat)
  case atStart =>
    refine ⟨0, Nat.zero_le _, rfl, some ⟨w.heap.size, 0, none⟩, 1, rfl, ?_, fun k hk => by simp [Value.ownBlock] at hk; omega, (Fr.refl _ _).alloc _⟩
    have e : (headTo l 0).map byteV = [.int .u8 (n : Int)] := by unfold headTo; simp [HL0.out]
    rw [e]
    exact ⟨rfl, .inr ⟨w.heap.size, 1, #[.int .u8 (n : Int)], rfl, Nat.zero_le _, Blk.new _ _ [_], Nat.le_refl _, by unfold maxLen; omega, rfl, by simp⟩⟩
  case round =>
    obtain ⟨j, hj, rfl, a2, c2, rfl, hown, hlt0, hf⟩ := hrel
    have HO := Lib.hid hown
    have HL := Lib.hid hlt0
    have HF := Lib.hid hf
    clear hown hlt0 hf
    by_cases hlt : j < n
    · obtain ⟨h, hx⟩ : ∃ h, l[j]? = some h := ⟨_, List.getElem?_eq_getElem (by rw [← HN.out]; exact hlt)⟩
      obtain ⟨g, off, rfl, cx⟩ := HS.out.at (j := j) (u := .int .i64 (h : Int)) (by simp [nums, hx])
      have cx := HF.out.cell cx (fun h => h)
      have hh6 := HH.out h (List.mem_of_getElem? hx)
      have w1 : IntKind.u8.wrap ((h : Int).tmod 256) = ((h % 256 : Nat) : Int) := by rw [Int.tmod_eq_emod_of_nonneg (by omega)]; unfold IntKind.wrap; simp [IntKind.signed, IntKind.bits]
      have w2 : IntKind.u8.wrap (IntKind.i64.wrap ((h : Int) / 256)) = ((h / 256 % 256 : Nat) : Int) := by rw [show IntKind.i64.wrap ((h : Int) / 256) = (h : Int) / 256 by rw [IntKind.wrap_i64]; omega]; unfold IntKind.wrap; simp [IntKind.signed, IntKind.bits]
      have HX := Lib.hid hx
      have W1 := Lib.hid w1
      have W2 := Lib.hid w2
      clear hx w1 w2
      go_wp2_with fail
      go_region_law (first
          | (refine step_append_mine rfl (ho := rfl) (s := .tmp 15) (x := .tmp 28) Tryz.rowU8 (v := .slice a2 (1 + 2 * j) c2) (by simp [Act.eval]) ((HO.out.drew).alloc _) (src := .slice (some ⟨wr.heap.size, 0, none⟩) 2 2) (by simp [Act.eval]) (srcs_pair wr.drew _ _ _ 2 rfl rfl) (by omega) ?_; intro v' w3 hown3 hf3 hv3 _; obtain ⟨g', cap', rfl⟩ := row_succ hown3))
      all_goals
        rw [W1.out, W2.out] at hown3
        go_wp2_with fail
        go_roundw
        case rel =>
          have e : 1 + 2 * j + 1 + 1 = 1 + 2 * (j + 1) := by omega
          refine ⟨j + 1, hlt, by go_num, some ⟨g', 0, none⟩, cap', by rw [e], ?_, ?_, ?_⟩
          · rw [headTo_succ HX.out, List.map_append]
            have e2 : (twoB h).map byteV = [.int .u8 ((h % 256 : Nat) : Int), .int .u8 ((h / 256 % 256 : Nat) : Int)] := by unfold twoB; rw [List.map_cons, List.map_cons, List.map_nil, byteV_mod, byteV_mod]
            rw [e2, ← e]
            exact hown3
          · intro k hk
            rw [← e] at hk
            rcases hv3 k hk with h | h
            · exact HL.out k h
            · have := HF.out.size
              simp at h
              omega
          · exact ((HF.out.drew.alloc _).trans' hf3 (fun i hi e => by have := HL.out i e; omega))
        case measure => simp [intOf]; omega
    · obtain rfl : j = n := by omega
      have hR1 : ∃ m : Nat, 1 + 2 * j ≤ m ∧ m ≤ 64 ∧ ∃ ao c, Value.slice a2 (1 + 2 * j) c2 = .slice ao m c ∧ wr.ownsRow 0 5 1 (.slice ao m c) m ((headTo l j ++ List.replicate (m - (1 + 2 * j)) 0).map byteV) ∧ (∀ k, (Value.slice ao m c).ownBlock = some k → w.heap.size ≤ k) ∧ Fr Nob w wr :=
        ⟨1 + 2 * j, Nat.le_refl _, by omega, a2, c2, rfl, by rw [Nat.sub_self, List.replicate_zero, List.append_nil]; exact HO.out, HL.out, HF.out⟩
      clear HO HL HF
      go_wp2_with fail
      go_loopw [3] (fun b wr => ∃ m : Nat, 1 + 2 * j ≤ m ∧ m ≤ 64 ∧ ∃ ao c, b = .slice ao m c ∧ wr.ownsRow 0 5 1 (.slice ao m c) m ((headTo l j ++ List.replicate (m - (1 + 2 * j)) 0).map byteV) ∧ (∀ k, (Value.slice ao m c).ownBlock = some k → w.heap.size ≤ k) ∧ Fr Nob w wr) (fun b _ => 64 - lenV b)
      case atStart => exact hR1
      case round =>
        obtain ⟨m, hm1, hm2, a3, c3, rfl, hown, hlt0, hf⟩ := hrel
        have HO := Lib.hid hown
        have HL := Lib.hid hlt0
        have HF := Lib.hid hf
        clear hown hlt0 hf hR1
        by_cases hlt6 : m < 64
        · go_wp2_with (at_builtin; refine wpList_append_mine rfl (ho := rfl) (s := .tmp 33) (x := .tmp 34) Tryz.rowU8 rfl (HO.out.alloc _) rfl (srcs_one _ _ _ 1 rfl) (by omega) ?_; intro v' w3 hown3 hf3 hv3 _; obtain ⟨g', cap', rfl⟩ := row_succ hown3)
          go_roundw
          case rel =>
            refine ⟨m + 1, by omega, by omega, _, _, rfl, ?_, ?_, ?_⟩
            · have e : headTo l j ++ List.replicate (m + 1 - (1 + 2 * j)) 0 = (headTo l j ++ List.replicate (m - (1 + 2 * j)) 0) ++ [0] := by
                rw [show m + 1 - (1 + 2 * j) = (m - (1 + 2 * j)) + 1 by omega, List.replicate_succ', List.append_assoc]
              rw [e, List.map_append]
              exact hown3
            · intro k hk
              rcases hv3 k hk with h | h
              · exact HL.out k h
              · have := HF.out.size
                simp at h
                omega
            · exact ((HF.out.alloc _).trans' hf3 (fun i hi e => by have := HL.out i e; omega))
          case measure => simp [lenV]; omega
        · obtain rfl : m = 64 := by omega
          obtain ⟨g, c', hgc⟩ : ∃ g cap, Value.slice a3 64 c3 = .slice (some ⟨g, 0, none⟩) 64 cap := (row_form HO.out).elim (fun h => by have := h.2; omega) id
          simp only [Value.slice.injEq, true_and] at hgc
          obtain ⟨rfl, rfl⟩ := hgc
          have hc := HO.out.cells (g := g) rfl
          rw [map_bytes] at hc
          have HC := Lib.hid hc
          have hfin : headTo l j ++ List.replicate (64 - (1 + 2 * j)) 0 = headL l := by
            unfold headTo headL
            rw [HN.out, List.take_length, List.cons_append, show 64 - (1 + 2 * l.length) = 63 - 2 * l.length by omega]
          have HFIN := Lib.hid hfin
          have hlen : ((headTo l j ++ List.replicate (64 - (1 + 2 * j)) (0 : UInt8)).map fun b => (b.toNat : Int)).length = 64 := by rw [List.length_map, hfin, headL_length (by rw [← HN.out]; exact hl)]
          clear hc hfin
          go_wp2_with (with_reducible show wpList _ _ _ _ _ _; refine wpList_bytes_string (x := .tmp 36) rfl rfl Tryz.underlying108 Tryz.underlying5 Tryz.underlying9 rfl hlen HC.out ?_; rw [strOf_bytes, HFIN.out])
          go_ret
          exact ⟨rfl, HF.out⟩
end Go.Proofs.YtchilnjocnkodaaGreat

namespace Go.Proofs.YtchilnjocnkodaaGreat
open Go.RowKit

theorem run_index_at {s : ByteArray} {w : World} {i : Int} {k : Nat} (h : i = (k : Int)) (hk : k < s.size) : (Instr.index 9 (.string s) (.int .i64 i)).run Tryz.prog w = .ok (.int .u8 ((s[k].toNat : Nat) : Int)) w := by
  subst h
  have h1 : s[k]? = some s[k] := getElem?_pos s k hk
  unfold Instr.index
  simp [run_underlying Tryz.underlying9, asIntOf, Result.andThen, h1]

set_option maxRecDepth 100000 in
set_option maxHeartbeats 4000000 in
theorem rhomes_calls {s : ByteArray} (hz : s.size = 64) (most : Int) (w : World) : Calls Tryz.prog 34 #[.string s, .int .i64 most] w (HomesRet s most w) := by
  have h0 : 0 < s.size := by omega
  have hb0 := byteAt_get h0
  obtain ⟨n, hn⟩ : ∃ n, n = byteAt s 0 := ⟨_, rfl⟩
  have hn2 := byteAt_lt s 0
  have hsz : (s.size : Int) = 64 := by omega
  rw [← hn] at hb0 hn2
  have hbi : (s[0].toNat : Int) = (n : Int) := by rw [← hb0]
  have HN := Lib.hid hn
  clear hn hb0
  by_cases h30 : 30 < n
  · have HB : Hid (homesP s most = none) := (show homesP s most = none by rw [homesP_eq, if_neg (fun h => by have := h.1; rw [← HN.out] at this; omega)])
    have h30' : (30 : Int) < (n : Int) := by omega
    go_enter Tryz.func34, Tryz.ntmps34
    go_wp2
    go_ret2
    exact homesRet_none HB.out (Fr.refl _ _)
  · have h30' : ¬ (30 : Int) < (n : Int) := by omega
    go_enter Tryz.func34, Tryz.ntmps34
    go_wp2_with fail
    go_loopw [7, 8] (fun o i wr => ∃ j : Nat, j ≤ n ∧ i = .int .i64 j ∧ rising s most j = true ∧ ∃ ao c, o = .slice ao j c ∧ wr.ownsRow 0 tIntE 1 (.slice ao j c) j (nums (hs s j)) ∧ (∀ k, (Value.slice ao j c).ownBlock = some k → w.heap.size ≤ k) ∧ Fr Nob w wr) (fun _ i _ => n - (intOf i).toNat)
    case atStart => exact ⟨0, Nat.zero_le _, rfl, rfl, none, 0, rfl, World.ownsRow_nil _ _ _ _, fun k hk => (by cases hk), Fr.refl _ _⟩
    case round =>
      obtain ⟨j, hj, rfl, hri, ao, c, rfl, hown, hnew, hf⟩ := hrel
      have HO := Lib.hid hown
      have HW := Lib.hid hnew
      have HF := Lib.hid hf
      have HRI := Lib.hid hri
      clear hown hnew hf hri
      by_cases hlt : j < n
      · have i1 : 1 + 2 * j < s.size := by omega
        have i2 : 2 + 2 * j < s.size := by omega
        obtain ⟨x1, e1⟩ : ∃ x, x = byteAt s (1 + 2 * j) := ⟨_, rfl⟩
        obtain ⟨x2, e2⟩ : ∃ x, x = byteAt s (2 + 2 * j) := ⟨_, rfl⟩
        have d1 : ∀ W : World, (Instr.index 9 (.string s) (.int .i64 (1 + 2 * (j : Int)))).run Tryz.prog W = .ok (.int .u8 (x1 : Int)) W := fun W => by
          rw [e1, byteAt_get i1]; exact run_index_at (by omega) i1
        have d2 : ∀ W : World, (Instr.index 9 (.string s) (.int .i64 (2 + 2 * (j : Int)))).run Tryz.prog W = .ok (.int .u8 (x2 : Int)) W := fun W => by
          rw [e2, byteAt_get i2]; exact run_index_at (by omega) i2
        have hx1 : x1 < 256 := by rw [e1]; exact byteAt_lt _ _
        have hx2 : x2 < 256 := by rw [e2]; exact byteAt_lt _ _
        have w1 : IntKind.i64.wrap (2 * (j : Int)) = 2 * (j : Int) := by rw [IntKind.wrap_i64]; omega
        have w2 : IntKind.i64.wrap (1 + 2 * (j : Int)) = 1 + 2 * (j : Int) := by rw [IntKind.wrap_i64]; omega
        have w3 : IntKind.i64.wrap (2 + 2 * (j : Int)) = 2 + 2 * (j : Int) := by rw [IntKind.wrap_i64]; omega
        have w4 : IntKind.i64.wrap (256 * (x2 : Int)) = 256 * (x2 : Int) := by rw [IntKind.wrap_i64]; omega
        have w5 : IntKind.i64.wrap ((x1 : Int) + 256 * (x2 : Int)) = (x1 : Int) + 256 * (x2 : Int) := by rw [IntKind.wrap_i64]; omega
        have E1 := Lib.hid e1
        have E2 := Lib.hid e2
        clear e1 e2 i1 i2
        go_wp2_with fail
        go_quiet (fail)
        have hx12 : ((x1 : Int) + 256 * (x2 : Int)) = ((homeAt s j : Nat) : Int) := by unfold homeAt; rw [← E1.out, ← E2.out]; omega
        have hlt6 := homeAt_lt s j
        have HF2 : Hid (Fr Nob w (wr.drewN nq)) := HF.out.drewN nq
        have HO2 : Hid ((wr.drewN nq).ownsRow 0 tIntE 1 (Value.slice ao j c) j (nums (hs s j))) := row_fr HO.out ((Fr.refl Nob _).drewN nq) (fun _ _ h => h)
        obtain ⟨h, hh⟩ : ∃ h, h = homeAt s j := ⟨_, rfl⟩
        have HH := Lib.hid hh
        rw [hx12, ← hh]
        rw [← hh] at hlt6
        clear hx12 HO hh d1 d2 hx1 hx2 w1 w2 w3 w4 w5
        -- what the round comes to where the home sector may stand here
        have fin : ∀ (v' : Value) (w3 : World) (g c' : Nat), v' = .slice (some ⟨g, 0, none⟩) (j + 1) c' → risesAt s most j = true → w3.ownsRow 0 tIntE 1 v' (j + 1) (nums (hs s j) ++ [.int .i64 (h : Int)]) → Fr (fun k => (Value.slice ao j c).ownBlock = some k) ((wr.drewN nq).alloc (.cells #[.int .i64 (h : Int)] tIntE)) w3 →
            (∀ k, v'.ownBlock = some k → (Value.slice ao j c).ownBlock = some k ∨ ((wr.drewN nq).alloc (.cells #[.int .i64 (h : Int)] tIntE)).heap.size ≤ k) →
            ∃ j' : Nat, j' ≤ n ∧ Value.int .i64 ((j : Int) + 1) = .int .i64 j' ∧ rising s most j' = true ∧ ∃ ao c, v' = .slice ao j' c ∧ w3.ownsRow 0 tIntE 1 (.slice ao j' c) j' (nums (hs s j')) ∧ (∀ k, (Value.slice ao j' c).ownBlock = some k → w.heap.size ≤ k) ∧ Fr Nob w w3 := by
          rintro v' w3 g c' rfl hri hown3 hf3 hv3
          refine ⟨j + 1, hlt, by go_num, ?_, _, _, rfl, ?_, ?_, ?_⟩
          · rw [rising_succ, HRI.out, hri]; rfl
          · rw [hs_succ, ← HH.out]
            simpa [nums] using hown3
          · intro k hk
            rcases hv3 k hk with h | h
            · exact HW.out k h
            · have := HF2.out.size
              simp at h this
              omega
          · exact ((HF2.out.alloc _).trans' hf3 (fun i hi e => by have := HW.out i e; omega))
        have FIN := Lib.hid fin
        clear fin
        by_cases hm : most ≤ (h : Int)
        · have HB : Hid (homesP s most = none) := (show homesP s most = none by
            rw [homesP_eq, if_neg]
            rintro ⟨_, h2, _⟩
            rw [rising_bad (j := j) (by rw [← HN.out]; exact hlt) (by unfold risesAt; rw [← HH.out, decide_eq_false (by omega)]; rfl)] at h2
            cases h2)
          go_wp2
          go_ret2
          exact homesRet_none HB.out HF2.out
        by_cases hj0 : j = 0
        · subst hj0
          have hri : risesAt s most 0 = true := by unfold risesAt; rw [← HH.out, decide_eq_true (by omega)]; rfl
          have HRJ := Lib.hid hri
          clear hri
          go_wp2_with (at_builtin; refine wpList_append_mine rfl (ho := rfl) (s := .tmp 50) (x := .tmp 52) Tryz.rowInt rfl (HO2.out.alloc _) rfl (srcs_one (wr.drewN nq) _ _ 1 rfl) (by omega) ?_; intro v' w3 hown3 hf3 hv3 _; obtain ⟨g', cap', rfl⟩ := row_succ hown3)
          go_roundw
          case rel => exact FIN.out _ w3 g' cap' rfl HRJ.out hown3 hf3 hv3
          case measure => simp [intOf]; omega
        · obtain ⟨g, c', hgc⟩ : ∃ g cap, Value.slice ao j c = .slice (some ⟨g, 0, none⟩) j cap := (row_form HO2.out).elim (fun h => by have := h.2; omega) id
          simp only [Value.slice.injEq, true_and] at hgc
          obtain ⟨rfl, rfl⟩ := hgc
          have hc := HO2.out.cells (g := g) rfl (j - 1) (.int .i64 (homeAt s (j - 1) : Int)) (by unfold nums; rw [List.getElem?_map, hs_get s (by omega)]; rfl)
          simp only [Addr.add_lit, Nat.zero_add] at hc
          have hj1 : ((j : Int) - 1) = ((j - 1 : Nat) : Int) := by omega
          obtain ⟨q, hq⟩ : ∃ q, q = homeAt s (j - 1) := ⟨_, rfl⟩
          rw [← hq] at hc
          have HQ := Lib.hid hq
          have hpos : (0 : Int) < (j : Int) := by omega
          have hjl : j - 1 < j := by omega
          clear hq
          by_cases hle : (h : Int) ≤ (q : Int)
          · have HB : Hid (homesP s most = none) := (show homesP s most = none by
              rw [homesP_eq, if_neg]
              rintro ⟨_, h2, _⟩
              rw [rising_bad (j := j) (by rw [← HN.out]; exact hlt) (by unfold risesAt; rw [← HH.out, ← HQ.out, decide_eq_false (p := q < h) (by omega), show (j == 0) = false from beq_eq_false_iff_ne.2 hj0]; simp)] at h2
              cases h2)
            go_wp2
            go_ret2
            exact homesRet_none HB.out HF2.out
          · have hri : risesAt s most j = true := by unfold risesAt; rw [← HH.out, ← HQ.out, decide_eq_true (by omega), decide_eq_true (p := q < h) (by omega)]; simp
            have HRJ := Lib.hid hri
            clear hri
            go_wp2_with (at_builtin; refine wpList_append_mine rfl (ho := rfl) (s := .tmp 50) (x := .tmp 52) Tryz.rowInt rfl (HO2.out.alloc _) rfl (srcs_one (wr.drewN nq) _ _ 1 rfl) (by omega) ?_; intro v' w3 hown3 hf3 hv3 _; obtain ⟨g', cap', rfl⟩ := row_succ hown3)
            go_roundw
            case rel => exact FIN.out _ w3 g' cap' rfl HRJ.out hown3 hf3 hv3
            case measure => simp [intOf]; omega
      · obtain rfl : j = n := by omega
        have hln := hs_length s j
        have hhc := rhead_calls (l := hs s j) (ao := ao) (c := c) (w := wr) (by rw [hln]; exact row_srcs HO.out (nums_one _)) (by rw [hln]; omega) (by intro h hh; obtain ⟨i, _, rfl⟩ := List.mem_map.1 hh; exact homeAt_lt s i)
        rw [hln] at hhc
        have hcmp := bytes_beq (headP (hs s j)) s
        go_wp2_with fail
        refine hhc.mono ?_
        rintro e w2 ⟨rfl, hf2⟩
        have HF2 : Hid (Fr Nob w w2) := HF.out.trans hf2
        have HO2 : Hid (w2.ownsRow 0 tIntE 1 (Value.slice ao j c) j (nums (hs s j))) := row_fr HO.out hf2 (fun _ _ h => h)
        clear hhc hf2
        by_cases he : headP (hs s j) = s
        · have HP : Hid (homesP s most = some (hs s j)) := (show homesP s most = some (hs s j) by
            rw [homesP_eq, ← HN.out, if_pos ⟨by omega, HRI.out, he⟩])
          rw [decide_eq_true he] at hcmp
          clear he
          go_wp2
          go_ret2
          refine ⟨HF2.out, _, by rw [HP.out]; rfl, fun l hl => ?_⟩
          rw [HP.out] at hl
          simp only [Option.some.injEq] at hl
          subst hl
          rw [hln]
          exact ⟨HO2.out, HW.out⟩
        · have HP : Hid (homesP s most = none) := (show homesP s most = none by
            rw [homesP_eq, ← HN.out, if_neg (fun h => he h.2.2)])
          rw [decide_eq_false he] at hcmp
          clear he
          go_wp2
          go_ret2
          exact homesRet_none HP.out HF2.out
end Go.Proofs.YtchilnjocnkodaaGreat

namespace Go.Proofs.YtchilnjocnkodaaGreat
open Go.RowKit

def vals (l : Stg) : List ByteArray := l.map (·.2)
theorem seal_eq (D : DSt) (l : List Nat) : D.actsE (sealA l) = (if D.flushE = 0 then (if D.flush.writeE 1 (headP l) = 0 then (D.flush.write 1 (headP l)).flushE else D.flush.writeE 1 (headP l)) else D.flushE) ∧
    D.acts (sealA l) = (if D.flushE = 0 then (if D.flush.writeE 1 (headP l) = 0 then (D.flush.write 1 (headP l)).flush else D.flush.write 1 (headP l)) else D.flush) := by
  constructor
  · show D.actsE (.flush :: .write 1 (headP l) :: [.flush]) = _
    rw [DSt.actsE_cons, DSt.actsE_cons, one_actsE]
    rfl
  · show D.acts (.flush :: .write 1 (headP l) :: [.flush]) = _
    rw [DSt.acts_cons, DSt.acts_cons, one_acts]
    rfl

section
variable {S0 : Nat → Prop} {w0 w : World} {d : Nat} {D : DSt} {B : Asr}

theorem inst_cells {l : Stg} {a1 a2 : Option Addr} {n c1 c2 : Nat} {E : DSt} {wr : World} (hL : Lv S0 w0 (Star (dskA kR d E) (Star (rowA tIntE 1 (.slice a1 n c1) n (nums (keys l))) (Star (rowA tStr 1 (.slice a2 n c2) n (strs (vals l))) B))) wr)
    {k : Nat} {x : Nat × ByteArray} (hx : l[k]? = some x) : ∃ g1 o1 g2 o2, a1 = some ⟨g1, o1, none⟩ ∧ a2 = some ⟨g2, o2, none⟩ ∧ wr.cell? ⟨g1, o1 + k, none⟩ = some (.int .i64 (x.1 : Int)) ∧ wr.cell? ⟨g2, o2 + k, none⟩ = some (.string x.2) := by
  obtain ⟨_, ⟨_, _, _, ⟨_, _, r1, ⟨_, _, r2, _⟩, _⟩, _⟩, _⟩ := hL
  obtain ⟨g1, o1, e1, q1⟩ := (row_srcs r1.1 (nums_one _)).at (j := k) (u := .int .i64 (x.1 : Int)) (by simp [nums, keys, hx])
  obtain ⟨g2, o2, e2, q2⟩ := (row_srcs r2.1 (strs_one _)).at (j := k) (u := .string x.2) (by simp [strs, vals, hx])
  exact ⟨g1, o1, g2, o2, e1, e2, q1, q2⟩

set_option maxRecDepth 100000 in
set_option maxHeartbeats 4000000 in
theorem rinstall_calls {l : Stg} {a1 a2 : Option Addr} {n c1 c2 : Nat} (hn : n = l.length) (hL : Lv S0 w0 (Star (dskA kR d D) (Star (rowA tIntE 1 (.slice a1 n c1) n (nums (keys l))) (Star (rowA tStr 1 (.slice a2 n c2) n (strs (vals l))) B))) w) (hB : Loc B) (hl : n ≤ 30) (hh : ∀ x ∈ l, x.1 < 65536) (hw : (D.wait.length + 31) * 24 ≤ 140737488355328) :
    Calls Tryz.prog 35 #[.pointer (some ⟨d, 0, none⟩), .slice a1 n c1, .slice a2 n c2] w fun e w' => e = .returned (.int .i64 (D.actsE (installA l))) ∧ Lv S0 w0 (Star (dskA kR d (D.acts (installA l))) (Star (rowA tIntE 1 (.slice a1 n c1) n (nums (keys l))) (Star (rowA tStr 1 (.slice a2 n c2) n (strs (vals l))) B))) w' := by
  have HH := Lib.hid hh
  have HN := Lib.hid hn
  have HW := Lib.hid hw
  clear hn hw hh
  have hB' : Loc (Star (rowA tIntE 1 (.slice a1 n c1) n (nums (keys l))) (Star (rowA tStr 1 (.slice a2 n c2) n (strs (vals l))) B)) := loc_star (loc_row _ _ _ _ _) (loc_star (loc_row _ _ _ _ _) hB)
  go_enter Tryz.func35, Tryz.ntmps35
  go_wp2_with fail
  go_loopw [7] (fun i wr => ∃ k : Nat, k ≤ n ∧ i = .int .i64 k ∧ D.actsE (homeA (l.take k)) = 0 ∧ Lv S0 w0 (Star (dskA kR d (D.acts (homeA (l.take k)))) (Star (rowA tIntE 1 (.slice a1 n c1) n (nums (keys l))) (Star (rowA tStr 1 (.slice a2 n c2) n (strs (vals l))) B))) wr) (fun i _ => n - (intOf i).toNat)
  case atStart => exact ⟨0, Nat.zero_le _, rfl, rfl, hL⟩
  case round =>
    obtain ⟨k, hk, rfl, hE0, hLk⟩ := hrel
    have HE0 := Lib.hid hE0
    clear hL hE0
    by_cases hlt : k < n
    · obtain ⟨x, hx⟩ : ∃ x, l[k]? = some x := ⟨_, List.getElem?_eq_getElem (by rw [← HN.out]; exact hlt)⟩
      obtain ⟨g1, o1, g2, o2, rfl, rfl, cx, cy⟩ := inst_cells hLk hx
      have hwk := homeA_wait D (l.take k)
      rw [List.length_take] at hwk
      have hx6 := HH.out x (List.mem_of_getElem? hx)
      obtain ⟨q1, q2⟩ := acts_snoc (.write (32 + x.1) x.2) HE0.out
      rw [← homeA_take hx] at q1 q2
      have hcast : ((32 + x.1 : Nat) : Int) = 32 + (x.1 : Int) := by omega
      have q1 : D.acts (homeA (l.take (k + 1))) = (D.acts (homeA (l.take k))).write (32 + (x.1 : Int)) x.2 := by rw [q1, ← hcast]; rfl
      have q2 : D.actsE (homeA (l.take (k + 1))) = (D.acts (homeA (l.take k))).writeE (32 + (x.1 : Int)) x.2 := by rw [q2, ← hcast]; rfl
      have HQ1 := Lib.hid q1
      have HQ2 := Lib.hid q2
      have HX := Lib.hid hx
      have hw32 : IntKind.i64.wrap (32 + (x.1 : Int)) = 32 + (x.1 : Int) := by rw [IntKind.wrap_i64]; omega
      have L2 := hLk.drew (loc_star (loc_dsk _ _ _) hB')
      clear hx q1 q2 hcast hLk
      go_wp2_with fail
      go_region_held3 (fun w' => w'.cell? ⟨g1, o1 + k, none⟩ = some (.int .i64 (x.1 : Int)) ∧ w'.cell? ⟨g2, o2 + k, none⟩ = some (.string x.2))
        (first | go_keep | exact ⟨r1, r2⟩)
        (first | (go_at_call 57; refine (L2.op ((r_write (32 + (x.1 : Int)) x.2 (by have := HW.out; omega)).left hB')).mono ?_; rintro e w8 ⟨rfl, L3⟩; obtain ⟨_, _, _, _, e1, e2, r1, r2⟩ := inst_cells L3 HX.out; cases e1; cases e2))
      clear L2 cx cy r1 r2
      by_cases hE : (D.acts (homeA (l.take k))).writeE (32 + (x.1 : Int)) x.2 = 0
      · have hE' : ((D.acts (homeA (l.take k))).writeE (32 + (x.1 : Int)) x.2 == 0) = true := by rw [beq_iff_eq]; exact hE
        have HEE := Lib.hid hE
        clear hE
        go_wp2_with fail
        go_roundw
        case rel =>
          refine ⟨k + 1, hlt, by go_num, HQ2.out.trans HEE.out, ?_⟩
          rw [HQ1.out]
          exact L3
        case measure => simp [intOf]; omega
      · have hE' : ((D.acts (homeA (l.take k))).writeE (32 + (x.1 : Int)) x.2 == 0) = false := by rw [beq_eq_false_iff_ne]; exact hE
        have hstop := acts_stop (D := D) (l := homeA (l.take (k + 1))) (k := homeA (l.drop (k + 1)) ++ sealA []) (by rw [HQ2.out]; exact hE)
        have hall : homeA (l.take (k + 1)) ++ (homeA (l.drop (k + 1)) ++ sealA []) = installA l := by
          rw [← List.append_assoc, installA_eq]
          congr 1
          unfold homeA
          rw [← List.map_append, List.take_append_drop]
        rw [hall] at hstop
        have HS := Lib.hid hstop
        clear hE hstop hall
        go_wp2_with fail
        go_ret
        exact ⟨(by rw [HS.out.2, HQ2.out]; try rfl), by rw [HS.out.1, HQ1.out]; exact L3⟩
    · obtain rfl : k = n := by omega
      rw [show l.take k = l by rw [HN.out, List.take_length]] at HE0 hLk
      have hwk := homeA_wait D l
      rw [← HN.out] at hwk
      have hall : installA l = homeA l ++ sealA [] := rfl
      obtain ⟨E, hEE⟩ : ∃ E, E = D.acts (homeA l) := ⟨_, rfl⟩
      have HI : Hid (D.actsE (installA l) = E.actsE (sealA []) ∧ D.acts (installA l) = E.acts (sealA [])) := by
        rw [hall, DSt.acts_append, DSt.actsE_append, if_pos HE0.out, if_pos HE0.out, hEE]
        exact ⟨rfl, rfl⟩
      rw [← hEE] at hLk hwk
      have hF := flush_keeps E
      have hW := write_keeps E.flush 1 (headP [])
      obtain ⟨e1, e2⟩ := seal_eq E []
      have E1 := Lib.hid e1
      have E2 := Lib.hid e2
      have hhc : ∀ W : World, Calls Tryz.prog 56 #[.slice none 0 0] W fun e w' => e = .returned (.string (headP [])) ∧ Fr Nob W w' := fun W =>
        rhead_calls (l := []) ⟨rfl, fun u hu => by simp [nums] at hu, .inl ⟨rfl, rfl⟩⟩ (by simp) (fun h hh => by cases hh)
      have HHC := Lib.hid hhc
      clear hall hEE e1 e2 hhc
      go_wp2_with fail
      refine (hLk.op ((r_flush (by have := HW.out; omega)).left hB')).mono ?_
      rintro e w1 ⟨rfl, L1⟩
      clear hLk
      by_cases hE : E.flushE = 0
      · rw [if_pos hE] at E1 E2
        have hE' : (E.flushE == 0) = true := by rw [beq_iff_eq]; exact hE
        clear hE
        go_wp2_with fail
        refine (L1.calls (loc_star (loc_dsk _ _ _) hB') (HHC.out _)).mono ?_
        rintro e w2 ⟨rfl, L2⟩
        clear L1
        go_wp2_with fail
        refine (L2.op ((r_write 1 (headP []) (by have := HW.out; omega)).left hB')).mono ?_
        rintro e w3 ⟨rfl, L3⟩
        clear L2
        by_cases hE : E.flush.writeE 1 (headP []) = 0
        · rw [if_pos hE] at E1 E2
          have hE' : (E.flush.writeE 1 (headP []) == 0) = true := by rw [beq_iff_eq]; exact hE
          clear hE
          go_wp2_with fail
          refine (L3.op ((r_flush (by have := HW.out; omega)).left hB')).mono ?_
          rintro e w4 ⟨rfl, L4⟩
          clear L3
          go_wp2_with fail
          go_ret
          exact ⟨(by rw [HI.out.1, E1.out]; try rfl), by rw [HI.out.2, E2.out]; exact L4⟩
        · rw [if_neg hE] at E1 E2
          have hE' : (E.flush.writeE 1 (headP []) == 0) = false := by rw [beq_eq_false_iff_ne]; exact hE
          clear hE
          go_wp2_with fail
          go_ret
          exact ⟨(by rw [HI.out.1, E1.out]; try rfl), by rw [HI.out.2, E2.out]; exact L3⟩
      · rw [if_neg hE] at E1 E2
        have hE' : (E.flushE == 0) = false := by rw [beq_eq_false_iff_ne]; exact hE
        clear hE
        go_wp2_with fail
        go_ret
        exact ⟨(by rw [HI.out.1, E1.out]; try rfl), by rw [HI.out.2, E2.out]; exact L1⟩
end
end Go.Proofs.YtchilnjocnkodaaGreat
