/- Volumes: rows of texts and of numbers that come in. -/
import Derived.Test.YtfldhmeenbdkiaaMD
namespace Go.Proofs.Ytfldhmeenbdkiaa
open Go.ChangeShapes Go.WideShapes Go.ChangeAt Go.RowKit Go.Deep

theorem Try.bytesStr : Try.prog.bytesOf 9 = 16 := by kernel_rfl
theorem open_strs {H : Type} {enc : TypeId × Value → H} {w : World} {base : Nat} {ao : Option Addr} {len cap : Nat} {d : DataW H} {p : List MemPlace}
    (h : DataW.Trod enc Try.prog w base (fun _ => true) true 40 (.slice ao len cap) d p) (hz : ∀ m ∈ d.weights Try.prog 40, m ≤ reachBytes) :
    ∃ ss : List ByteArray, ss.length = len ∧ Srcs w (.slice ao ss.length cap) ss.length 1 (ss.map .string) ∧ ss.length * 16 ≤ 140737488351232 := by
  obtain ⟨fuel, hf⟩ := h
  rcases open_strings Try.underlying40 Try.underlying9 (by kernel_rfl) hf with ⟨hcs, _⟩ | ⟨a, l, c, ss, hcs, _, hl, hm, hsp, hx, hc, _⟩
  · simp [Value.cells] at hcs
    obtain ⟨rfl, rfl, rfl⟩ := hcs
    exact ⟨[], rfl, ⟨rfl, fun u hu => by simp at hu, .inl ⟨rfl, rfl⟩⟩, by simp⟩
  · simp [Value.cells] at hcs
    obtain ⟨rfl, rfl, rfl⟩ := hcs
    simp only [if_true] at hsp
    have hlen : (ss.take len).length = len := by rw [List.length_take]; omega
    refine ⟨ss.take len, hlen, ⟨by simp, ?_, .inr ⟨a, cap, by rw [hlen], ?_⟩⟩, ?_⟩
    · intro u hu
      obtain ⟨x, _, rfl⟩ := List.mem_map.1 hu
      rfl
    · intro j u hj
      rw [List.getElem?_map, Option.map_eq_some_iff] at hj
      obtain ⟨x, hx, rfl⟩ := hj
      have hjl : j < len := by have := (List.getElem?_eq_some_iff.1 hx).1; omega
      rw [List.getElem?_take_of_lt hjl] at hx
      have := hc j (by omega)
      rw [this, List.getD, hx]
      rfl
    · simp only [Prod.mk.injEq] at hx
      obtain ⟨hx, _⟩ := hx
      have := hz ((len + (ss.length - len)) * 16) (by
        rw [hx]
        simp only [DataW.weights, Try.underlying40, Go.ChangeShapes.strs, List.length_map, List.length_take, List.length_drop, Try.bytesStr, List.mem_cons]
        left
        omega)
      rw [hlen]
      simp only [reachBytes] at this
      omega

theorem Try.bytesInt : Try.prog.bytesOf 3 = 8 := by kernel_rfl
theorem open_intS {H : Type} {enc : TypeId × Value → H} {w : World} {base : Nat} {ao : Option Addr} {len cap : Nat} {d : DataW H} {p : List MemPlace}
    (h : DataW.Trod enc Try.prog w base (fun _ => true) true 46 (.slice ao len cap) d p) (hz : ∀ m ∈ d.weights Try.prog 46, m ≤ reachBytes) :
    ∃ ks : List Int, ks.length = len ∧ Srcs w (.slice ao ks.length cap) ks.length 1 (ks.map (Value.int .i64)) ∧ (∀ k ∈ ks, -9223372036854775808 ≤ k ∧ k ≤ 9223372036854775807) ∧ ks.length * 8 ≤ 140737488351232 := by
  obtain ⟨fuel, hf⟩ := h
  rcases open_ints Try.underlying46 Try.underlying3 (by kernel_rfl) hf with ⟨hcs, _⟩ | ⟨a, l, c, zs, hcs, _, hl, hm, hsp, hx, hc, hwf⟩
  · simp [Value.cells] at hcs
    obtain ⟨rfl, rfl, rfl⟩ := hcs
    exact ⟨[], rfl, ⟨rfl, fun u hu => by simp at hu, .inl ⟨rfl, rfl⟩⟩, fun k hk => (by cases hk), by simp⟩
  · simp [Value.cells] at hcs
    obtain ⟨rfl, rfl, rfl⟩ := hcs
    simp only [if_true] at hsp
    have hlen : (zs.take len).length = len := by rw [List.length_take]; omega
    refine ⟨zs.take len, hlen, ⟨by simp, ?_, .inr ⟨a, cap, by rw [hlen], ?_⟩⟩, ?_, ?_⟩
    · intro u hu
      obtain ⟨x, _, rfl⟩ := List.mem_map.1 hu
      rfl
    · intro j u hj
      rw [List.getElem?_map, Option.map_eq_some_iff] at hj
      obtain ⟨z, hz', rfl⟩ := hj
      have hjl : j < len := by have := (List.getElem?_eq_some_iff.1 hz').1; omega
      rw [List.getElem?_take_of_lt hjl] at hz'
      have := hc j (by omega)
      rw [this, List.getD, hz']
      rfl
    · intro k hk
      exact bounds_i64 (hwf k (List.mem_of_mem_take hk))
    · simp only [Prod.mk.injEq] at hx
      obtain ⟨hx, _⟩ := hx
      have := hz ((len + (zs.length - len)) * 8) (by
        rw [hx]
        simp only [DataW.weights, Try.underlying46, lits, List.length_map, List.length_take, List.length_drop, Try.bytesInt, List.mem_cons]
        left
        omega)
      rw [hlen]
      simp only [reachBytes] at this
      omega
end Go.Proofs.Ytfldhmeenbdkiaa
