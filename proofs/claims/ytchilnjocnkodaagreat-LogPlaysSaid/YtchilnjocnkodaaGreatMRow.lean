/- Acts that come in: a row of structs opened to the acts that it holds. Rows of texts that come in. -/
import Derived.Test.YtchilnjocnkodaaGreatOpen
import Derived.Test.YtchilnjocnkodaaGreatRlJ
namespace Go.Proofs.YtchilnjocnkodaaGreat
open Go.ChangeShapes Go.WideShapes Go.ChangeAt Go.RowKit Go.Deep

theorem Tryz.own : ownKnob Tryz.prog.godebug = none := by kernel_rfl
theorem Tryz.laidOut : laidOutB Tryz.prog = true := by kernel_rfl
theorem Tryz.bytesAct : Tryz.prog.bytesOf 38 = 40 := by kernel_rfl
theorem wf_u64 {n : Int} (h : (Lit.int .u64 n).wf = true) : ∃ k : Nat, n = k ∧ k < 18446744073709551616 := by
  have h1 := bounds_u64 h
  exact ⟨n.toNat, by omega, by omega⟩

/-- One act. -/
theorem wf_i64 {n : Int} (h : (Lit.int .i64 n).wf = true) : n ≤ 9223372036854775807 := (bounds_i64 h).2

/-- One act. -/
theorem open_act {H : Type} {enc : TypeId × Value → H} {w : World} {base : Nat} {spare : Nat → Bool} {held : Bool} {a : Addr} {i n : Nat} {d : DataW H} {ys : List (DataW H × List MemPlace)} {fs : Array Field}
    (hfs : Tryz.prog.underlying 38 = some (.struct fs)) (hd : d = .agg (ys.map (·.1)))
    (hc : ∀ (j : Nat) (f : Field), fs[j]? = some f → ∃ (v : Value) (y : DataW H × List MemPlace), w.cell? (a.add (i * fs.size + j)) = some v ∧ ys[j]? = some y ∧ DataW.trod enc Tryz.prog w base spare held n f.type [v] = some y)
    (hz : ∀ m ∈ d.weights Tryz.prog 38, m ≤ reachBytes) :
    ∃ x : ActD, (∀ j v, (cellsA x)[j]? = some v → w.cell? (a.add (i * 4 + j)) = some v) ∧ (x.keep < 18446744073709551616 ∧ x.s.size ≤ 140737488351232) ∧ x.i ≤ 9223372036854775807 := by
  rw [Tryz.underlying38] at hfs
  simp only [Option.some.injEq, TypeDesc.struct.injEq] at hfs
  subst hfs
  obtain ⟨v0, y0, c0, _, t0⟩ := hc 0 _ rfl
  obtain ⟨v1, y1, c1, _, t1⟩ := hc 1 _ rfl
  obtain ⟨v2, y2, c2, g2, t2⟩ := hc 2 _ rfl
  obtain ⟨v3, y3, c3, _, t3⟩ := hc 3 _ rfl
  obtain ⟨k, e0, _, _⟩ := DataW.trod_int Tryz.underlying3 t0
  obtain ⟨m, e1, _, wf1⟩ := DataW.trod_int Tryz.underlying3 t1
  obtain ⟨s, e2, rfl, _⟩ := DataW.trod_string Tryz.underlying9 t2
  obtain ⟨u, e3, _, wf⟩ := DataW.trod_int Tryz.underlying36 t3
  simp only [List.cons.injEq, and_true] at e0 e1 e2 e3
  subst e0 e1 e2 e3
  obtain ⟨q, rfl, hq⟩ := wf_u64 wf
  refine ⟨⟨k, m, s, q⟩, fun j v hj => ?_, ⟨hq, ?_⟩, wf_i64 wf1⟩
  · match j, hj with
    | 0, hj => simp [cellsA] at hj; subst hj; exact c0
    | 1, hj => simp [cellsA] at hj; subst hj; exact c1
    | 2, hj => simp [cellsA] at hj; subst hj; exact c2
    | 3, hj => simp [cellsA] at hj; subst hj; exact c3
    | j + 4, hj => simp [cellsA] at hj
  · have := hz s.data.toList.length (by
      rw [hd]
      refine weights_part (j := 2) Tryz.underlying38 rfl (d := .lit (.string s.data.toList)) (by rw [List.getElem?_map, g2]; rfl) (by simp [DataW.weights]))
    simpa [reachBytes] using this

theorem flatA_length (l : List ActD) : (flatA l).length = l.length * 4 := by
  induction l with
  | nil => rfl
  | cons x l ih =>
    show (cellsA x ++ flatA l).length = _
    rw [List.length_append, ih]
    simp [cellsA]; omega

/-- A row of acts. -/
theorem open_acts {H : Type} {enc : TypeId × Value → H} {w : World} {base : Nat} {ao : Option Addr} {len cap : Nat} {d : DataW H} {p : List MemPlace}
    (h : DataW.Trod enc Tryz.prog w base (fun _ => true) true 23 (.slice ao len cap) d p) (hz : ∀ m ∈ d.weights Tryz.prog 23, m ≤ reachBytes) :
    ∃ acts : List ActD, acts.length = len ∧ Srcs w (.slice ao acts.length cap) acts.length 4 (flatA acts) ∧ ActsOk acts ∧ acts.length * 40 ≤ 140737488351232 ∧ ∀ a ∈ acts, a.i ≤ 9223372036854775807 := by
  obtain ⟨fuel, hf⟩ := h
  rcases open_slice_fields Tryz.underlying23 Tryz.underlying38 (by kernel_rfl) (by kernel_rfl) hf with ⟨hcs, _⟩ | ⟨a, l, c, m, D, Pl, hcs, _, hl, _, hm, hx, hi⟩
  · simp [Value.cells] at hcs
    obtain ⟨rfl, rfl, rfl⟩ := hcs
    exact ⟨[], rfl, ⟨rfl, fun u hu => by simp [flatA] at hu, .inl ⟨rfl, rfl⟩⟩, fun a ha => (by cases ha), by simp, fun a ha => (by cases ha)⟩
  · simp [Value.cells] at hcs
    obtain ⟨rfl, rfl, rfl⟩ := hcs
    simp only [if_true] at hm
    simp only [Prod.mk.injEq] at hx
    obtain ⟨hx, _⟩ := hx
    have hlm : len ≤ m := by omega
    obtain ⟨acts, hal, hap⟩ := list_choose (P := fun i (x : ActD) => (∀ j v, (cellsA x)[j]? = some v → w.cell? (a.add (i * 4 + j)) = some v) ∧ (x.keep < 18446744073709551616 ∧ x.s.size ≤ 140737488351232) ∧ x.i ≤ 9223372036854775807) len (fun i hil => by
      obtain ⟨ys, n, hD, _, hyl, hc⟩ := hi i (by omega)
      refine open_act Tryz.underlying38 hD hc (fun q hq => hz q ?_)
      rw [hx]
      exact weights_elem Tryz.underlying23 (List.mem_map.2 ⟨i, List.mem_range.2 hil, rfl⟩) hq)
    refine ⟨acts, hal, ⟨?_, ?_, .inr ⟨a, cap, by rw [hal], ?_⟩⟩, ?_, ?_, ?_⟩
    · exact flatA_length _
    · intro u hu
      obtain ⟨x, _, hu⟩ := List.mem_flatMap.1 hu
      simp [cellsA] at hu
      rcases hu with rfl | rfl | rfl | rfl <;> rfl
    · intro j u hj
      have hjl : j < acts.length * 4 := by
        have h1 := (List.getElem?_eq_some_iff.1 hj).1
        have h2 := flatA_length acts
        omega
      obtain ⟨x, hx⟩ : ∃ x, acts[j / 4]? = some x := ⟨_, List.getElem?_eq_getElem (by omega)⟩
      have h3 := flatA_get hx (j % 4) (by omega)
      rw [show j / 4 * 4 + j % 4 = j by omega] at h3
      have := (hap _ x hx).1 (j % 4) u (by rw [← h3]; exact hj)
      rwa [show j / 4 * 4 + j % 4 = j by omega] at this
    · intro x hx
      obtain ⟨i, hi, rfl⟩ := List.getElem_of_mem hx
      exact (hap i _ (List.getElem?_eq_getElem hi)).2.1
    · have := hz ((len + (m - len)) * 40) (by
        rw [hx]
        simp only [DataW.weights, Tryz.underlying23, List.length_map, List.length_range, Tryz.bytesAct, List.mem_cons, true_or])
      rw [hal]
      simp only [reachBytes] at this
      omega
    · intro x hx
      obtain ⟨i, hi, rfl⟩ := List.getElem_of_mem hx
      exact (hap i _ (List.getElem?_eq_getElem hi)).2.2
end Go.Proofs.YtchilnjocnkodaaGreat

namespace Go.Proofs.YtchilnjocnkodaaGreat
open Go.ChangeShapes Go.WideShapes Go.ChangeAt Go.RowKit Go.Deep

theorem Tryz.bytesStr : Tryz.prog.bytesOf 9 = 16 := by kernel_rfl
theorem open_strs {H : Type} {enc : TypeId × Value → H} {w : World} {base : Nat} {ao : Option Addr} {len cap : Nat} {d : DataW H} {p : List MemPlace}
    (h : DataW.Trod enc Tryz.prog w base (fun _ => true) true 22 (.slice ao len cap) d p) (hz : ∀ m ∈ d.weights Tryz.prog 22, m ≤ reachBytes) :
    ∃ ss : List ByteArray, ss.length = len ∧ Srcs w (.slice ao ss.length cap) ss.length 1 (ss.map .string) ∧ ss.length * 16 ≤ 140737488351232 := by
  obtain ⟨fuel, hf⟩ := h
  rcases open_strings Tryz.underlying22 Tryz.underlying9 (by kernel_rfl) hf with ⟨hcs, _⟩ | ⟨a, l, c, ss, hcs, _, hl, hm, hsp, hx, hc, _⟩
  · simp [Value.cells] at hcs
    obtain ⟨rfl, rfl, rfl⟩ := hcs
    exact ⟨[], rfl, ⟨rfl, fun u hu => by simp at hu, .inl ⟨rfl, rfl⟩⟩, by simp⟩
  · simp [Value.cells] at hcs
    obtain ⟨rfl, rfl, rfl⟩ := hcs
    simp only [if_true] at hsp
    have hlen : (ss.take len).length = len := by rw [List.length_take]; omega
    refine ⟨ss.take len, hlen, ⟨by simp, ?_, .inr ⟨a, cap, by rw [hlen], ?_⟩⟩, ?_⟩
    · intro u hu
      obtain ⟨x, _, rfl⟩ := List.mem_map.1 hu
      rfl
    · intro j u hj
      rw [List.getElem?_map, Option.map_eq_some_iff] at hj
      obtain ⟨x, hx, rfl⟩ := hj
      have hjl : j < len := by have := (List.getElem?_eq_some_iff.1 hx).1; omega
      rw [List.getElem?_take_of_lt hjl] at hx
      have := hc j (by omega)
      rw [this, List.getD, hx]
      rfl
    · simp only [Prod.mk.injEq] at hx
      obtain ⟨hx, _⟩ := hx
      have := hz ((len + (ss.length - len)) * 16) (by
        rw [hx]
        simp only [DataW.weights, Tryz.underlying22, Go.ChangeShapes.strs, List.length_map, List.length_take, List.length_drop, Tryz.bytesStr, List.mem_cons]
        left
        omega)
      rw [hlen]
      simp only [reachBytes] at this
      omega
end Go.Proofs.YtchilnjocnkodaaGreat
