/- The map's keys, rising: slices.Sorted over maps.Keys. -/
import Derived.Test.YtchilnjocnkodaaGreatLgD
namespace Go.Proofs.YtchilnjocnkodaaGreat
open Go.RowKit Go.Maps Go.Sort Go.Shelf

theorem Tryz.sortsA (m : Nat) : AnyZI.SortsIn Tryz.prog Tryz.sortedA_ren Fence.wide m :=
  ⟨fun blk off cap ss W hH hblk hsz => callsIn_wide.2 (Tryz.slices_Sort_int blk off cap ss W hH hblk hsz),
   fun p cap W => callsIn_wide.2 (Tryz.slices_Sort_int_none p cap W)⟩

theorem mkeys_calls (mb : Option Nat) (w : World) : Calls Tryz.prog 48 #[.map mb] w fun e w' => e = .returned (.func (.func 70) #[] #[.pointer (some ⟨w.heap.size, 0, none⟩)]) ∧ w' = w.alloc (.cells #[.map mb] tMap) :=
  callsIn_wide.1 (AnyZI.keys_in Tryz.keysA Fence.wide 5 trivial rfl mb w)

theorem sorted_keys {stg : Stg} (ho : stg.Ok) {ss : List Int} (h : ss.Perm (intKeys (datL stg))) : (ss.mergeSort fun x y => decide (x ≤ y)) = stg.map fun x => (x.1 : Int) := by
  rw [keys_dat] at h
  have hs : (stg.map fun x => (x.1 : Int)).Pairwise (fun a b => decide (a ≤ b) = true) := by
    rw [List.pairwise_map]
    exact ho.imp (fun h => by simp; omega)
  have h1 := List.mergeSort_perm ss (fun x y => decide (x ≤ y))
  have h2 := List.pairwise_mergeSort (le := fun x y => decide (x ≤ y)) (fun a b c => by simp; omega) (fun a b => by simp; omega) ss
  refine List.Perm.eq_of_pairwise (le := fun a b => decide (a ≤ b) = true) (fun a b _ _ h1 h2 => ?_) h2 hs (h1.trans h)
  simp at h1 h2
  omega

set_option maxRecDepth 100000 in
set_option maxHeartbeats 1000000 in
theorem sorted_calls {mb : Nat} {stg : Stg} {w : World} (hm : IsMp w mb stg) (ho : stg.Ok) (hl : stg.length ≤ 30) :
    Calls Tryz.prog 47 #[.func (.func 70) #[] #[.pointer (some ⟨w.heap.size, 0, none⟩)]] (w.alloc (.cells #[.map (some mb)] tMap)) fun e w' =>
      ∃ v, e = .returned v ∧ w'.ownsRow 0 tIntE 1 v stg.length (nums (keys stg)) ∧ (∀ k, v.ownBlock = some k → w.heap.size ≤ k) ∧ Fr Nob (w.alloc (.cells #[.map (some mb)] tMap)) w' := by
  refine (callsIn_wide (n := 5)).1 ?_
  have hseq : SeqGives Fence.wide 2 Tryz.prog 70 #[.pointer (some ⟨w.heap.size, 0, none⟩)] encZ (fun ss => ss.Perm (intKeys (datL stg))) (Maps.size (datL stg)) (w.alloc (.cells #[.map (some mb)] tMap)) :=
    AnyZI.keys_gives (ρ := Tryz.keysA_ren) { Tryz.keysA with } Fence.wide _ trivial rfl (by omega) w.heap.size mb stg.length (datL stg) _ (by simp) (by simp) (World.ownsMap.alloc hm _)
  have cS := AnyZI.sorted_in Tryz.sortedA Fence.wide 5 trivial trivial trivial trivial rfl (by omega) (Tryz.sortsA _) (enters_of Tryz.func69 (by kernel_rfl) rfl) 70 #[.pointer (some ⟨w.heap.size, 0, none⟩)] trivial (enters_of Tryz.func70 (by kernel_rfl) rfl) _ _ (by rw [size_dat]; unfold maxLen; omega) (by rw [size_dat]; omega) _ hseq
  refine CallsIn.mono cS ?_
  rintro e w' ⟨v, ss, rfl, hS, hrow, hnil, hb⟩
  have hlen : ss.length = stg.length := by have := hS.length_eq; rw [keys_dat] at this; simpa using this
  rw [sorted_keys ho hS, hlen] at hrow
  refine ⟨v, rfl, ?_, ?_, Fr.of_below hb (fun _ h _ => h)⟩
  · have e : nums (keys stg) = (stg.map fun x => (x.1 : Int)).map encZ := by unfold nums keys; rw [List.map_map, List.map_map]; rfl
    rw [e]
    exact ownsRow_base hrow
  · intro k hk
    have := (hrow.lt k hk).1
    simp at this
    omega
end Go.Proofs.YtchilnjocnkodaaGreat
