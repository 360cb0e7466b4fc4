/- slices.Values over sectors: what it hands to a loop. -/
import Derived.Test.YtfldhmeenbdkiaaGreatDoorMC
namespace Go.Proofs.YtfldhmeenbdkiaaGreatDoor
open Go.RowKit Go.Shelf

attribute [local go_sem] Oper.semAt_some

set_option maxRecDepth 100000 in
set_option maxHeartbeats 2000000 in
theorem vals1_in (F : Fence) (n : Nat) (h7 : F.fn 78) (hro : F.round = none) (hn : 1 ≤ n) (l Bs n₀ : Nat) (ao : Option Addr) (len cap : Nat) (ws : List ByteArray) (hlen : ws.length = len) (hreach : len ≤ 9223372036854775807) (hBn : Bs < n₀) (J Jx : List ByteArray → World → Prop)
    (hY : ∀ pre x W, J pre W → pre.length < len → YieldAt F (n - 1) Tryz.prog l #[.string x] W fun e W' =>
      (e = .returned (.bool true) ∧ J (pre ++ [x]) W' ∧ Below n₀ W W') ∨ (e = .returned (.bool false) ∧ Jx (pre ++ [x]) W'))
    (W : World) (hBs : W.cell? ⟨Bs, 0, none⟩ = some (.slice ao len cap))
    (hc : ∀ k x, ws[k]? = some x → ∃ g off, ao = some ⟨g, off, none⟩ ∧ g < n₀ ∧ W.cell? ⟨g, off + k, none⟩ = some (.string x)) (h0 : J [] W) :
    CallsIn F n Tryz.prog 78 #[.func (.yield l) #[] #[], .pointer (some ⟨Bs, 0, none⟩)] W fun e W' => (∃ v, e = .returned v) ∧
      ((∃ ys, ys = ws ∧ J ys W') ∨ (∃ pre, pre <+: ws ∧ Jx pre W')) := by
  refine callsIn_of_wp Tryz.func78 rfl h7 ?_ hro
  simp only [Tryz.ntmps78, List.size_toArray, List.length_cons, List.length_nil, Nat.reduceAdd, Nat.reduceSub, Array.replicate_succ, Array.replicate_zero, List.push_toArray, List.append_toArray, List.nil_append, List.cons_append]
  have HL := Lib.hid hlen
  clear hlen
  gi_wp2
  gi_loopw [7] (fun i wr => ∃ j : Nat, j ≤ len ∧ i = .int .i64 j ∧ J (ws.take j) wr ∧ Below n₀ W wr)
    (fun i _ => len - (intOf i).toNat)
  case atStart => exact ⟨0, Nat.zero_le _, rfl, by simpa using h0, Below.refl _ _⟩
  case round =>
    obtain ⟨j, hj, rfl, hJs, hnx⟩ := hrel
    by_cases hlt : j < len
    · obtain ⟨x, hx⟩ : ∃ x, ws[j]? = some x := ⟨_, List.getElem?_eq_getElem (by rw [HL.out]; omega)⟩
      have htk : ws.take (j + 1) = ws.take j ++ [x] := by rw [List.take_add_one, hx]; rfl
      obtain ⟨fn, tmps, assign, body, hy, hR⟩ := hY _ x wr hJs (by rw [List.length_take, HL.out]; omega)
      obtain ⟨g, off, rfl, hg, hgc⟩ := hc j x hx
      have e1 := (hnx.cell (p := ⟨g, off + j, none⟩) hg).trans hgc
      have HT := Lib.hid htk
      have HX := Lib.hid hnx
      clear hJs hx htk hc hY hnx
      gi_wp2
      refine hR.mono ?_
      rintro e W3 (⟨rfl, hJ3, hk3⟩ | ⟨rfl, hJx3⟩)
      · gi_wp2
        go_roundw
        case rel => exact ⟨j + 1, by omega, by go_num, by rw [HT.out]; exact hJ3, HX.out.trans hk3⟩
        case measure => simp [intOf]; omega
      · gi_wp2
        refine bodyPost_ret (results_none rfl _ _ _) rfl ?_
        exact ⟨⟨_, rfl⟩, .inr ⟨_, ⟨ws.drop (j + 1), by rw [← HT.out, List.take_append_drop]⟩, hJx3⟩⟩
    · obtain rfl : j = len := by omega
      have HJ := Lib.hid hJs
      clear hJs
      gi_wp2
      go_end0
      refine ⟨⟨_, rfl⟩, .inl ⟨_, rfl, ?_⟩⟩
      have := HJ.out
      rwa [List.take_of_length_le (by rw [HL.out]; exact Nat.le_refl _)] at this

set_option maxHeartbeats 1000000 in
/-- The slice value is boxed; the function value captures the box. -/
theorem vals_in (F : Fence) (n : Nat) (h5 : F.fn 37) (hro : F.round = none) (a : Option Addr) (len cap : Nat) (w : World) :
    CallsIn F n Tryz.prog 37 #[.slice a len cap] w fun e w' => e = .returned (.func (.func 78) #[] #[.pointer (some ⟨w.heap.size, 0, none⟩)]) ∧ w' = w.alloc (.cells #[.slice a len cap] 22) := by
  refine callsIn_of_wp Tryz.func37 rfl h5 ?_ hro
  simp only [Tryz.ntmps37, List.size_toArray, List.length_cons, List.length_nil, Nat.reduceAdd, Nat.reduceSub, Array.replicate_succ, Array.replicate_zero, List.push_toArray, List.append_toArray, List.nil_append, List.cons_append]
  gi_wp2
  go_ret
  exact ⟨rfl, rfl⟩

theorem vals_calls (a : Option Addr) (len cap : Nat) (w : World) :
    Calls Tryz.prog 37 #[.slice a len cap] w fun e w' => e = .returned (.func (.func 78) #[] #[.pointer (some ⟨w.heap.size, 0, none⟩)]) ∧ w' = w.alloc (.cells #[.slice a len cap] 22) :=
  callsIn_wide.1 (vals_in Fence.wide 1 trivial rfl a len cap w)

theorem vals_stops (F : Fence) (n : Nat) (h7 : F.fn 78) (hro : F.round = none) (hn : 1 ≤ n) (Bs n₀ : Nat) (ao : Option Addr) (cap : Nat) (ws : List ByteArray) (hreach : ws.length ≤ 9223372036854775807) (w : World) (hBs : Bs < w.heap.size) (hBn : Bs < n₀) (hn₀ : w.heap.size = n₀)
    (hc : w.cell? ⟨Bs, 0, none⟩ = some (.slice ao ws.length cap)) (hI : Srcs w (.slice ao ws.length cap) ws.length 1 (strs ws)) :
    SeqStopsK F n Tryz.prog 78 #[.pointer (some ⟨Bs, 0, none⟩)] (fun x : ByteArray => #[.string x]) (Below n₀) (fun ys => ys = ws) (fun pre => pre <+: ws) ws.length w := fun l J Jx W hW _ _ hY h0 => by
  have hc' := (hW.cell (p := ⟨Bs, 0, none⟩) hBs).trans hc
  refine vals1_in F n h7 hro hn l Bs n₀ ao ws.length cap ws rfl hreach hBn J Jx hY W hc' ?_ h0
  intro k x hx
  obtain ⟨g, off, rfl, c⟩ := hI.at (j := k) (u := .string x) (by simp [strs, hx])
  have hg := World.block_lt_of_cell? _ _ c
  simp only at hg
  exact ⟨g, off, rfl, by omega, (hW.cell (p := ⟨g, off + k, none⟩) hg).trans c⟩
end Go.Proofs.YtfldhmeenbdkiaaGreatDoor
