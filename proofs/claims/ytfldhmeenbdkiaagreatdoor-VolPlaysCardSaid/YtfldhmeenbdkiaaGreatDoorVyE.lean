/- What VolApart is asked of, as it comes in. -/
import Derived.Test.YtfldhmeenbdkiaaGreatDoorMD
import Derived.Test.YtfldhmeenbdkiaaGreatDoorVyD
namespace Go.Proofs.YtfldhmeenbdkiaaGreatDoor
open Go.ChangeShapes Go.WideShapes Go.ChangeAt Go.RowKit Go.Deep

theorem Tryz.bytesActV : Tryz.prog.bytesOf 67 = 48 := by kernel_rfl
/-- One act. -/
theorem open_actV {H : Type} {enc : TypeId × Value → H} {w : World} {base : Nat} {spare : Nat → Bool} {held : Bool} {a : Addr} {i n : Nat} {d : DataW H} {ys : List (DataW H × List MemPlace)} {fs : Array Field}
    (hfs : Tryz.prog.underlying 67 = some (.struct fs)) (hd : d = .agg (ys.map (·.1)))
    (hc : ∀ (j : Nat) (f : Field), fs[j]? = some f → ∃ (v : Value) (y : DataW H × List MemPlace), w.cell? (a.add (i * fs.size + j)) = some v ∧ ys[j]? = some y ∧ DataW.trod enc Tryz.prog w base spare held n f.type [v] = some y)
    (hz : ∀ m ∈ d.weights Tryz.prog 67, m ≤ reachBytes) :
    ∃ x : ActV, (∀ j v, (cellsV x)[j]? = some v → w.cell? (a.add (i * 5 + j)) = some v) ∧ x.s.size ≤ 140737488351232 := by
  rw [Tryz.underlying67] at hfs
  simp only [Option.some.injEq, TypeDesc.struct.injEq] at hfs
  subst hfs
  obtain ⟨v0, y0, c0, _, t0⟩ := hc 0 _ rfl
  obtain ⟨v1, y1, c1, _, t1⟩ := hc 1 _ rfl
  obtain ⟨v2, y2, c2, _, t2⟩ := hc 2 _ rfl
  obtain ⟨v3, y3, c3, _, t3⟩ := hc 3 _ rfl
  obtain ⟨v4, y4, c4, g4, t4⟩ := hc 4 _ rfl
  obtain ⟨k, e0, _, _⟩ := DataW.trod_int Tryz.underlying3 t0
  obtain ⟨m, e1, _, _⟩ := DataW.trod_int Tryz.underlying3 t1
  obtain ⟨o, e2, _, _⟩ := DataW.trod_int Tryz.underlying3 t2
  obtain ⟨q, e3, _, _⟩ := DataW.trod_int Tryz.underlying3 t3
  obtain ⟨s, e4, rfl, _⟩ := DataW.trod_string Tryz.underlying9 t4
  simp only [List.cons.injEq, and_true] at e0 e1 e2 e3 e4
  subst e0 e1 e2 e3 e4
  refine ⟨⟨k, m, o, q, s⟩, fun j v hj => ?_, ?_⟩
  · match j, hj with
    | 0, hj => simp [cellsV] at hj; subst hj; exact c0
    | 1, hj => simp [cellsV] at hj; subst hj; exact c1
    | 2, hj => simp [cellsV] at hj; subst hj; exact c2
    | 3, hj => simp [cellsV] at hj; subst hj; exact c3
    | 4, hj => simp [cellsV] at hj; subst hj; exact c4
    | j + 5, hj => simp [cellsV] at hj
  · have := hz s.data.toList.length (by
      rw [hd]
      refine weights_part (j := 4) Tryz.underlying67 rfl (d := .lit (.string s.data.toList)) (by rw [List.getElem?_map, g4]; rfl) (by simp [DataW.weights]))
    simpa [reachBytes] using this

/-- A row of acts. -/
theorem in_actVs {H : Type} {enc : TypeId × Value → H} {w : World} {base fuel : Nat} {cs : List Value} {x : DataW H × List MemPlace}
    (h : DataW.trod enc Tryz.prog w base (fun _ => true) true fuel 59 cs = some x) (hz : ∀ m ∈ x.1.weights Tryz.prog 59, m ≤ reachBytes) :
    ∃ (ao : Option Addr) (cap : Nat) (acts : List ActV), cs = [.slice ao acts.length cap] ∧ Srcs w (.slice ao acts.length cap) acts.length 5 (flatV acts) ∧ acts.length * 48 ≤ 140737488351232 ∧ ∀ a ∈ acts, a.s.size ≤ 140737488351232 := by
  rcases open_slice_fields Tryz.underlying59 Tryz.underlying67 (by kernel_rfl) (by kernel_rfl) h with ⟨hcs, _⟩ | ⟨a, l, c, m, D, Pl, hcs, _, hl, _, hm, hx, hi⟩
  · exact ⟨none, 0, [], hcs, ⟨rfl, fun u hu => by simp [flatV] at hu, .inl ⟨rfl, rfl⟩⟩, by simp, fun a ha => (by cases ha)⟩
  · simp only [if_true] at hm
    obtain ⟨x1, x2⟩ := x
    simp only [Prod.mk.injEq] at hx
    obtain ⟨hx, _⟩ := hx
    have hlm : l ≤ m := by omega
    obtain ⟨acts, hal, hap⟩ := list_choose (P := fun i (x : ActV) => (∀ j v, (cellsV x)[j]? = some v → w.cell? (a.add (i * 5 + j)) = some v) ∧ x.s.size ≤ 140737488351232) l (fun i hil => by
      obtain ⟨ys, n, hD, _, hyl, hc⟩ := hi i (by omega)
      refine open_actV Tryz.underlying67 hD hc (fun q hq => hz q ?_)
      show q ∈ x1.weights Tryz.prog 59
      rw [hx]
      exact weights_elem Tryz.underlying59 (List.mem_map.2 ⟨i, List.mem_range.2 hil, rfl⟩) hq)
    refine ⟨some a, c, acts, by rw [hcs, hal], ⟨?_, ?_, .inr ⟨a, c, by rw [hal], ?_⟩⟩, ?_, ?_⟩
    · exact flatV_length _
    · intro u hu
      obtain ⟨x, _, hu⟩ := List.mem_flatMap.1 hu
      simp [cellsV] at hu
      rcases hu with rfl | rfl | rfl | rfl | rfl <;> rfl
    · intro j u hj
      have hjl : j < acts.length * 5 := by
        have h1 := (List.getElem?_eq_some_iff.1 hj).1
        have h2 := flatV_length acts
        omega
      obtain ⟨x, hx⟩ : ∃ x, acts[j / 5]? = some x := ⟨_, List.getElem?_eq_getElem (by omega)⟩
      have h3 := flatV_get hx (j % 5) (by omega)
      rw [show j / 5 * 5 + j % 5 = j by omega] at h3
      have := (hap _ x hx).1 (j % 5) u (by rw [← h3]; exact hj)
      rwa [show j / 5 * 5 + j % 5 = j by omega] at this
    · have := hz ((l + (m - l)) * 48) (by
        show _ ∈ x1.weights Tryz.prog 59
        rw [hx]
        simp only [DataW.weights, Tryz.underlying59, List.length_map, List.length_range, Tryz.bytesActV, List.mem_cons, true_or])
      rw [hal]
      simp only [reachBytes] at this
      omega
    · intro x hx
      obtain ⟨i, hi, rfl⟩ := List.getElem_of_mem hx
      exact (hap i _ (List.getElem?_eq_getElem hi)).2

theorem open_actVs {H : Type} {enc : TypeId × Value → H} {w : World} {base : Nat} {ao : Option Addr} {len cap : Nat} {d : DataW H} {p : List MemPlace}
    (h : DataW.Trod enc Tryz.prog w base (fun _ => true) true 59 (.slice ao len cap) d p) (hz : ∀ m ∈ d.weights Tryz.prog 59, m ≤ reachBytes) :
    ∃ acts : List ActV, acts.length = len ∧ Srcs w (.slice ao acts.length cap) acts.length 5 (flatV acts) ∧ acts.length * 48 ≤ 140737488351232 := by
  obtain ⟨fuel, hf⟩ := h
  have hf : DataW.trod enc Tryz.prog w base (fun _ => true) true fuel 59 [.slice ao len cap] = some (d, p) := hf
  obtain ⟨a, c, acts, e, hs, hb, _⟩ := in_actVs hf hz
  simp only [List.cons.injEq, Value.slice.injEq, and_true] at e
  obtain ⟨rfl, rfl, rfl⟩ := e
  exact ⟨acts, rfl, hs, hb⟩

end Go.Proofs.YtfldhmeenbdkiaaGreatDoor
