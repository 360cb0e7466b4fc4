/- slices.Backward over waiting writes: what it hands to a loop, and in which order. -/
import Derived.Test.YtchilnjocnkodaaGreatMDskA
import Derived.RangeFuncNested
import Derived.RangeFuncBound
import Derived.RangeFuncCalls
import Derived.RangeFuncLeaves
import Derived.RangeFuncBox
import Derived.Shelf.Abstract
import Derived.Shelf.RegionOpen
import Derived.OwnWalkIn
import Derived.TacticsInMore
import Derived.LoopNIn
import Derived.LoopIn
namespace Go.Proofs.YtchilnjocnkodaaGreat
open Go.RowKit Go.Shelf

attribute [local go_sem] Oper.semAt_some

/-- The waiting writes from the last one on, with their places. -/
def backs (ws : List (Nat × ByteArray)) : List (Nat × (Nat × ByteArray)) := (ws.zipIdx.map (fun p => (p.2, p.1))).reverse
theorem backs_length (ws : List (Nat × ByteArray)) : (backs ws).length = ws.length := by simp [backs]
theorem backs_get (ws : List (Nat × ByteArray)) {j k : Nat} {x : Nat × ByteArray} (h : ws[k]? = some x) (hj : j + k + 1 = ws.length) : (backs ws)[j]? = some (k, x) := by
  unfold backs
  rw [List.getElem?_reverse (by simp; omega)]
  simp only [List.length_map, List.length_zipIdx]
  rw [show ws.length - 1 - j = k by omega]
  simp [h]

theorem backs_rev (ws : List (Nat × ByteArray)) : (backs ws).map (·.2) = ws.reverse := by
  unfold backs
  rw [List.map_reverse, List.map_map, show ((fun x : Nat × (Nat × ByteArray) => x.2) ∘ fun p : (Nat × ByteArray) × Nat => (p.2, p.1)) = Prod.fst from rfl, List.zipIdx_map_fst]
theorem lastOf_none {ws : List (Nat × ByteArray)} {i : Nat} (h : ∀ p ∈ backs ws, p.2.1 ≠ i) : lastOf ws i = none := by
  unfold lastOf
  rw [← backs_rev, Option.map_eq_none_iff, List.find?_eq_none]
  intro x hx
  obtain ⟨p, hp, rfl⟩ := List.mem_map.1 hx
  simpa using h p hp
theorem lastOf_some {ws : List (Nat × ByteArray)} {i : Nat} {ini : List (Nat × (Nat × ByteArray))} {last : Nat × (Nat × ByteArray)} (hp : (ini ++ [last]) <+: backs ws) (h : ∀ p ∈ ini, p.2.1 ≠ i) (hl : last.2.1 = i) :
    lastOf ws i = some last.2.2 := by
  obtain ⟨r, hr⟩ := hp
  unfold lastOf
  rw [← backs_rev, ← hr, List.map_append, List.map_append, List.append_assoc, List.find?_append]
  have h1 : (ini.map (·.2)).find? (fun x => x.1 == i) = none := by
    rw [List.find?_eq_none]
    intro x hx
    obtain ⟨p, hp, rfl⟩ := List.mem_map.1 hx
    simpa using h p hp
  rw [h1]
  simp [hl]

set_option maxRecDepth 100000 in
set_option maxHeartbeats 2000000 in
theorem back1_in (F : Fence) (n : Nat) (h7 : F.fn 72) (hro : F.round = none) (hn : 1 ≤ n) (l Bs n₀ b len cap : Nat) (ws : List (Nat × ByteArray)) (hlen : ws.length = len) (hreach : len ≤ 9223372036854775807) (hb : b < n₀) (hBn : Bs < n₀) (J Jx : List (Nat × (Nat × ByteArray)) → World → Prop)
    (hY : ∀ pre x W, J pre W → pre.length < len → YieldAt F (n - 1) Tryz.prog l #[.int .i64 (x.1 : Int), .agg #[.int .i64 (x.2.1 : Int), .string x.2.2]] W fun e W' =>
      (e = .returned (.bool true) ∧ J (pre ++ [x]) W' ∧ Below n₀ W W') ∨ (e = .returned (.bool false) ∧ Jx (pre ++ [x]) W'))
    (W : World) (hBs : W.cell? ⟨Bs, 0, none⟩ = some (.slice (some ⟨b, 0, none⟩) len cap))
    (hc : ∀ k x, ws[k]? = some x → W.cell? ⟨b, k * 2, none⟩ = some (.int .i64 (x.1 : Nat)) ∧ W.cell? ⟨b, k * 2 + 1, none⟩ = some (.string x.2)) (h0 : J [] W) :
    CallsIn F n Tryz.prog 72 #[.func (.yield l) #[] #[], .pointer (some ⟨Bs, 0, none⟩)] W fun e W' => (∃ v, e = .returned v) ∧
      ((∃ ys, ys = backs ws ∧ J ys W') ∨ (∃ pre, pre <+: backs ws ∧ Jx pre W')) := by
  refine callsIn_of_wp Tryz.func72 rfl h7 ?_ hro
  simp only [Tryz.ntmps72, List.size_toArray, List.length_cons, List.length_nil, Nat.reduceAdd, Nat.reduceSub, Array.replicate_succ, Array.replicate_zero, List.push_toArray, List.append_toArray, List.nil_append, List.cons_append]
  have HL := Lib.hid hlen
  clear hlen
  gi_wp2
  gi_loopw [3] (fun i wr => ∃ j : Nat, j ≤ len ∧ i = .int .i64 ((len : Int) - 1 - j) ∧ J ((backs ws).take j) wr ∧ Below n₀ W wr)
    (fun i _ => (intOf i + 1).toNat)
  case atStart => exact ⟨0, Nat.zero_le _, by simp, by simpa using h0, Below.refl _ _⟩
  case round =>
    obtain ⟨j, hj, rfl, hJs, hnx⟩ := hrel
    by_cases hlt : j < len
    · obtain ⟨k, hk⟩ : ∃ k, j + k + 1 = len := ⟨len - 1 - j, by omega⟩
      obtain ⟨x, hx⟩ : ∃ x, ws[k]? = some x := ⟨_, List.getElem?_eq_getElem (by rw [HL.out]; omega)⟩
      have hg := backs_get ws hx (j := j) (by rw [HL.out]; exact hk)
      have htk : (backs ws).take (j + 1) = (backs ws).take j ++ [(k, x)] := by rw [List.take_add_one, hg]; rfl
      obtain ⟨fn, tmps, assign, body, hy, hR⟩ := hY _ (k, x) wr hJs (by rw [List.length_take, backs_length, HL.out]; omega)
      dsimp only at hy
      have hki : ((len : Int) - 1 - j) = (k : Int) := by omega
      have e1 := (hnx.cell (p := ⟨b, k * 2, none⟩) hb).trans (hc k x hx).1
      have e2 := (hnx.cell (p := ⟨b, k * 2 + 1, none⟩) hb).trans (hc k x hx).2
      have e3 := (hnx.cell (p := ⟨Bs, 0, none⟩) hBn).trans hBs
      have HT := Lib.hid htk
      have HX := Lib.hid hnx
      have hkl : k < len := by omega
      have HJ := Lib.hid hk
      clear hJs hx hg htk hc hY hnx hk
      rw [hki]
      have HK := Lib.hid hki
      clear hki
      gi_wp2
      refine hR.mono ?_
      rintro e W3 (⟨rfl, hJ3, hk3⟩ | ⟨rfl, hJx3⟩)
      · gi_wp2
        go_roundw
        case rel => exact ⟨j + 1, by omega, by have := HK.out; go_num, by rw [HT.out]; exact hJ3, HX.out.trans hk3⟩
        case measure => simp [intOf]
      · gi_wp2
        refine bodyPost_ret (results_none rfl _ _ _) rfl ?_
        exact ⟨⟨_, rfl⟩, .inr ⟨_, ⟨(backs ws).drop (j + 1), by rw [← HT.out, List.take_append_drop]⟩, hJx3⟩⟩
    · obtain rfl : j = len := by omega
      have HJ := Lib.hid hJs
      clear hJs
      gi_wp2
      go_end0
      refine ⟨⟨_, rfl⟩, .inl ⟨_, rfl, ?_⟩⟩
      have := HJ.out
      rwa [List.take_of_length_le (by rw [backs_length, HL.out]; exact Nat.le_refl _)] at this

set_option maxRecDepth 100000 in
set_option maxHeartbeats 1000000 in
theorem back1_nil_in (F : Fence) (n : Nat) (h7 : F.fn 72) (hro : F.round = none) (l Bs : Nat) (J : List (Nat × (Nat × ByteArray)) → World → Prop) (W : World) (hBs : W.cell? ⟨Bs, 0, none⟩ = some (.slice none 0 0)) (h0 : J [] W) :
    CallsIn F n Tryz.prog 72 #[.func (.yield l) #[] #[], .pointer (some ⟨Bs, 0, none⟩)] W fun e W' => (∃ v, e = .returned v) ∧ J [] W' := by
  refine callsIn_of_wp Tryz.func72 rfl h7 ?_ hro
  simp only [Tryz.ntmps72, List.size_toArray, List.length_cons, List.length_nil, Nat.reduceAdd, Nat.reduceSub, Array.replicate_succ, Array.replicate_zero, List.push_toArray, List.append_toArray, List.nil_append, List.cons_append]
  gi_wp2
  gi_loopw [3] (fun i wr => i = .int .i64 (-1) ∧ J [] wr) (fun _ _ => 0)
  case atStart => exact ⟨rfl, h0⟩
  case round =>
    obtain ⟨rfl, hJs⟩ := hrel
    gi_wp2
    go_end0
    exact ⟨⟨_, rfl⟩, hJs⟩

set_option maxHeartbeats 1000000 in
/-- The slice value is boxed; the function value captures the box. -/
theorem back_in (F : Fence) (n : Nat) (h5 : F.fn 51) (hro : F.round = none) (a : Option Addr) (len cap : Nat) (w : World) :
    CallsIn F n Tryz.prog 51 #[.slice a len cap] w fun e w' => e = .returned (.func (.func 72) #[] #[.pointer (some ⟨w.heap.size, 0, none⟩)]) ∧ w' = w.alloc (.cells #[.slice a len cap] 72) := by
  refine callsIn_of_wp Tryz.func51 rfl h5 ?_ hro
  simp only [Tryz.ntmps51, List.size_toArray, List.length_cons, List.length_nil, Nat.reduceAdd, Nat.reduceSub, Array.replicate_succ, Array.replicate_zero, List.push_toArray, List.append_toArray, List.nil_append, List.cons_append]
  gi_wp2
  go_ret
  exact ⟨rfl, rfl⟩

theorem back_calls (a : Option Addr) (len cap : Nat) (w : World) :
    Calls Tryz.prog 51 #[.slice a len cap] w fun e w' => e = .returned (.func (.func 72) #[] #[.pointer (some ⟨w.heap.size, 0, none⟩)]) ∧ w' = w.alloc (.cells #[.slice a len cap] 72) :=
  callsIn_wide.1 (back_in Fence.wide 1 trivial rfl a len cap w)

theorem back_stops (F : Fence) (n : Nat) (h7 : F.fn 72) (hro : F.round = none) (hn : 1 ≤ n) (Bs n₀ : Nat) (sv : Value) (ws : List (Nat × ByteArray)) (hreach : ws.length ≤ 9223372036854775807) (w : World) (hBs : Bs < w.heap.size) (hBn : Bs < n₀) (hn₀ : n₀ ≤ w.heap.size)
    (hc : w.cell? ⟨Bs, 0, none⟩ = some sv) (hI : w.ownsRow 0 tWrite 2 sv ws.length (flatW ws)) (hg : ∀ k, sv.ownBlock = some k → k < n₀) :
    SeqStopsK F n Tryz.prog 72 #[.pointer (some ⟨Bs, 0, none⟩)] (fun x : Nat × (Nat × ByteArray) => #[.int .i64 (x.1 : Int), .agg #[.int .i64 (x.2.1 : Int), .string x.2.2]]) (Below n₀) (fun ys => ys = backs ws) (fun pre => pre <+: backs ws) ws.length w := fun l J Jx W hW _ _ hY h0 => by
  have hc' := (hW.cell (p := ⟨Bs, 0, none⟩) hBs).trans hc
  rcases row_form hI with ⟨rfl, h1⟩ | ⟨g, cap, rfl⟩
  · obtain rfl : ws = [] := List.eq_nil_of_length_eq_zero h1
    exact (back1_nil_in F n h7 hro l Bs J W hc' h0).mono fun e W' ⟨he, hj⟩ => ⟨he, .inl ⟨_, rfl, hj⟩⟩
  · have hgn := hg g rfl
    refine back1_in F n h7 hro hn l Bs n₀ g ws.length cap ws rfl hreach hgn hBn J Jx hY W hc' ?_ h0
    intro k x hx
    have e1 := hI.cells (g := g) rfl (k * 2) _ (flatW_get hx).1
    have e2 := hI.cells (g := g) rfl (k * 2 + 1) _ (flatW_get hx).2
    simp only [Addr.add_lit, Nat.zero_add] at e1 e2
    exact ⟨(hW.cell (p := ⟨g, k * 2, none⟩) (Nat.lt_of_lt_of_le hgn hn₀)).trans e1, (hW.cell (p := ⟨g, k * 2 + 1, none⟩) (Nat.lt_of_lt_of_le hgn hn₀)).trans e2⟩
end Go.Proofs.YtchilnjocnkodaaGreat
