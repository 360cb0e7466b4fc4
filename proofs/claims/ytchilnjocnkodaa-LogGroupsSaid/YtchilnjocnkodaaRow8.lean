/- Rows of texts, of numbers, of transactions that come in. -/
import Derived.Test.YtchilnjocnkodaaRow7
import Derived.Test.YtchilnjocnkodaaLogT
namespace Go.Proofs.Ytchilnjocnkodaa
open Go.ChangeShapes Go.WideShapes Go.ChangeAt Go.RowKit Go.Deep

theorem Try.bytesStr : Try.prog.bytesOf 9 = 16 := by kernel_rfl
theorem Try.bytesInt : Try.prog.bytesOf 3 = 8 := by kernel_rfl
section
variable {H : Type} {enc : TypeId × Value → H} {w : World} {base fuel : Nat} {cs : List Value} {x : DataW H × List MemPlace}

theorem in_strs (h : DataW.trod enc Try.prog w base (fun _ => true) true fuel 24 cs = some x) (hz : ∀ m ∈ x.1.weights Try.prog 24, m ≤ reachBytes) :
    ∃ (ao : Option Addr) (cap : Nat) (ss : List ByteArray), cs = [.slice ao ss.length cap] ∧ Srcs w (.slice ao ss.length cap) ss.length 1 (ss.map .string) ∧ (∀ s ∈ ss, s.size ≤ 140737488351232) ∧ ss.length ≤ 140737488351232 := by
  rcases open_strings Try.underlying24 Try.underlying9 (by kernel_rfl) h with ⟨hcs, _⟩ | ⟨a, l, c, ss, hcs, _, hl, hm, hsp, hx, hc, _⟩
  · exact ⟨none, 0, [], hcs, ⟨rfl, fun u hu => by simp at hu, .inl ⟨rfl, rfl⟩⟩, fun s hs => (by cases hs), by simp⟩
  · simp only [if_true] at hsp
    have hlen : (ss.take l).length = l := by rw [List.length_take]; omega
    refine ⟨some a, c, ss.take l, by rw [hcs, hlen], ⟨by simp, ?_, .inr ⟨a, c, by rw [hlen], ?_⟩⟩, ?_, ?_⟩
    · intro u hu
      obtain ⟨x, _, rfl⟩ := List.mem_map.1 hu
      rfl
    · intro j u hj
      rw [List.getElem?_map, Option.map_eq_some_iff] at hj
      obtain ⟨x, hx, rfl⟩ := hj
      have hjl : j < l := by have := (List.getElem?_eq_some_iff.1 hx).1; omega
      rw [List.getElem?_take_of_lt hjl] at hx
      have := hc j (by omega)
      rw [this, List.getD, hx]
      rfl
    · intro s hs
      have := hz s.data.toList.length (by
        rw [hx]
        exact weights_elem Try.underlying24 (List.mem_map.2 ⟨s, hs, rfl⟩) (by simp [DataW.weights]))
      simpa [reachBytes] using this
    · have := hz ((l + (ss.length - l)) * 16) (by
        rw [hx]
        simp only [DataW.weights, Try.underlying24, Go.ChangeShapes.strs, List.length_map, List.length_take, List.length_drop, Try.bytesStr, List.mem_cons]
        left
        omega)
      rw [hlen]
      simp only [reachBytes] at this
      omega

theorem in_ints (h : DataW.trod enc Try.prog w base (fun _ => true) true fuel 23 cs = some x) (hz : ∀ m ∈ x.1.weights Try.prog 23, m ≤ reachBytes) :
    ∃ (ao : Option Addr) (cap : Nat) (zs : List Int), cs = [.slice ao zs.length cap] ∧ Srcs w (.slice ao zs.length cap) zs.length 1 (i64s zs) ∧ zs.length ≤ 140737488351232 ∧ zs.length ≤ cap := by
  rcases open_ints Try.underlying23 Try.underlying3 (by kernel_rfl) h with ⟨hcs, _⟩ | ⟨a, l, c, ss, hcs, _, hl, hm, hsp, hx, hc, _⟩
  · exact ⟨none, 0, [], hcs, ⟨rfl, fun u hu => by simp [i64s] at hu, .inl ⟨rfl, rfl⟩⟩, by simp, by simp⟩
  · simp only [if_true] at hsp
    have hlen : (ss.take l).length = l := by rw [List.length_take]; omega
    refine ⟨some a, c, ss.take l, by rw [hcs, hlen], ⟨by simp [i64s], ?_, .inr ⟨a, c, by rw [hlen], ?_⟩⟩, ?_, by omega⟩
    · intro u hu
      obtain ⟨x, _, rfl⟩ := List.mem_map.1 hu
      rfl
    · intro j u hj
      unfold i64s at hj
      rw [List.getElem?_map, Option.map_eq_some_iff] at hj
      obtain ⟨x, hx, rfl⟩ := hj
      have hjl : j < l := by have := (List.getElem?_eq_some_iff.1 hx).1; omega
      rw [List.getElem?_take_of_lt hjl] at hx
      have := hc j (by omega)
      rw [this, List.getD, hx]
      rfl
    · have := hz ((l + (ss.length - l)) * 8) (by
        rw [hx]
        simp only [DataW.weights, Try.underlying23, lits, List.length_map, List.length_take, List.length_drop, Try.bytesInt, List.mem_cons]
        left
        omega)
      rw [hlen]
      simp only [reachBytes] at this
      omega

theorem in_tx (h : DataW.trod enc Try.prog w base (fun _ => true) true fuel tTx cs = some x) (hz : ∀ m ∈ x.1.weights Try.prog tTx, m ≤ reachBytes) : ∃ v : TxV, cs = cellsT v ∧ TxAt w v.a1 v.a2 v.c1 v.c2 v.t := by
  obtain ⟨xs, n, _, hx, hlen, hxl, hf⟩ := DataW.trod_struct Try.underlying26 h
  have hlen : cs.length = 2 := hlen.trans (by kernel_rfl)
  have h0 := hf 0 _ rfl
  have h1 := hf 1 _ rfl
  have w0 : ((cs.drop 0).take (Try.prog.cellsOf 23)) = cs.take 1 := by rw [show Try.prog.cellsOf 23 = 1 by kernel_rfl]; rfl
  have w1 : ((cs.drop 1).take (Try.prog.cellsOf 24)) = cs.drop 1 := by
    rw [show Try.prog.cellsOf 24 = 1 by kernel_rfl, List.take_of_length_le (by rw [List.length_drop]; omega)]
  have g0 : DataW.trod enc Try.prog w base (fun _ => true) true n 23 (cs.take 1) = xs[0]? := by rw [← w0]; exact h0
  have g1 : DataW.trod enc Try.prog w base (fun _ => true) true n 24 (cs.drop 1) = xs[1]? := by rw [← w1]; exact h1
  have hxl : xs.length = 2 := hxl.trans (by kernel_rfl)
  obtain ⟨y0, e0⟩ : ∃ y, xs[0]? = some y := ⟨_, List.getElem?_eq_getElem (by omega)⟩
  obtain ⟨y1, e1⟩ : ∃ y, xs[1]? = some y := ⟨_, List.getElem?_eq_getElem (by omega)⟩
  rw [e0] at g0
  rw [e1] at g1
  obtain ⟨a1, c1, I, k1, s1, l1, p1⟩ := in_ints g0 (fun m hm => hz m (by
    rw [hx]; exact weights_part (j := 0) Try.underlying26 rfl (by rw [List.getElem?_map, e0]; rfl) hm))
  obtain ⟨a2, c2, S, k2, s2, t2, l2⟩ := in_strs g1 (fun m hm => hz m (by
    rw [hx]; exact weights_part (j := 1) Try.underlying26 rfl (by rw [List.getElem?_map, e1]; rfl) hm))
  refine ⟨⟨a1, c1, a2, c2, ⟨I, S⟩⟩, ?_, ⟨s1, s2, t2, l1, l2, p1⟩⟩
  rw [← List.take_append_drop 1 cs, k1, k2]
  rfl
theorem Try.bytesTx : Try.prog.bytesOf tTx = 48 := by kernel_rfl
theorem cellsT_length (v : TxV) : (cellsT v).length = 2 := rfl
theorem flatT_length (l : List TxV) : (l.flatMap cellsT).length = l.length * 2 := by
  induction l with
  | nil => rfl
  | cons x l ih => rw [List.flatMap_cons, List.length_append, ih, cellsT_length, List.length_cons]; omega
theorem flatT_get {l : List TxV} {k : Nat} {v : TxV} (hv : l[k]? = some v) (j : Nat) (hj : j < 2) : (l.flatMap cellsT)[k * 2 + j]? = (cellsT v)[j]? := by
  induction l generalizing k with
  | nil => simp at hv
  | cons y l ih =>
    rw [List.flatMap_cons]
    cases k with
    | zero =>
      simp at hv; subst hv
      rw [List.getElem?_append_left (by rw [cellsT_length]; omega)]
      simp
    | succ k =>
      rw [List.getElem?_append_right (by rw [cellsT_length]; omega), cellsT_length, show (k + 1) * 2 + j - 2 = k * 2 + j by omega]
      exact ih (k := k) (by simpa using hv)

theorem in_txs (h : DataW.trod enc Try.prog w base (fun _ => true) true fuel 22 cs = some x) (hz : ∀ m ∈ x.1.weights Try.prog 22, m ≤ reachBytes) :
    ∃ (a : Option Addr) (c : Nat) (l : List TxV), cs = [.slice a l.length c] ∧ TxsAt w a c l ∧ l.length ≤ 140737488351232 := by
  rcases open_slice Try.underlying22 h with ⟨hcs, _⟩ | ⟨a, len, cap, m, n, D, Pl, hcs, _, hl, _, hm, hx, hi⟩
  · exact ⟨none, 0, [], hcs, ⟨⟨rfl, fun u hu => by simp at hu, .inl ⟨rfl, rfl⟩⟩, fun x hx => (by cases hx)⟩, by simp⟩
  · simp only [if_true] at hm
    have hc2 : Try.prog.cellsOf tTx = 2 := by kernel_rfl
    have hlm : len ≤ m := by omega
    obtain ⟨l, hal, hap⟩ := list_choose (P := fun i (v : TxV) => (∀ j u, (cellsT v)[j]? = some u → w.cell? (a.add (i * 2 + j)) = some u) ∧ TxAt w v.a1 v.a2 v.c1 v.c2 v.t) len (fun i hil => by
      obtain ⟨cs', hc, ht⟩ := hi i (by omega)
      obtain ⟨v, rfl, hv⟩ := in_tx ht (fun q hq => hz q (by
        rw [hx]
        exact weights_elem Try.underlying22 (List.mem_map.2 ⟨i, List.mem_range.2 hil, rfl⟩) hq))
      refine ⟨v, fun j u hj => ?_, hv⟩
      obtain ⟨_, _, hat⟩ := World.cells?_some hc
      have hc2' : Try.prog.cellsOf 26 = 2 := hc2
      rw [hc2'] at hat
      have hj2 : j < 2 := by have := (List.getElem?_eq_some_iff.1 hj).1; rwa [cellsT_length] at this
      rw [← Go.Deep.add_add, hat j hj2, hj])
    refine ⟨some a, cap, l, by rw [hcs, hal], ⟨⟨flatT_length _, ?_, .inr ⟨a, cap, by rw [hal], ?_⟩⟩, ?_⟩, ?_⟩
    · intro u hu
      obtain ⟨x, _, hu⟩ := List.mem_flatMap.1 hu
      simp [cellsT] at hu
      rcases hu with rfl | rfl <;> rfl
    · intro j u hj
      have hjl : j < l.length * 2 := by
        have h1 := (List.getElem?_eq_some_iff.1 hj).1
        have h2 := flatT_length l
        omega
      obtain ⟨v, hv⟩ : ∃ v, l[j / 2]? = some v := ⟨_, List.getElem?_eq_getElem (by omega)⟩
      have h3 := flatT_get hv (j % 2) (by omega)
      rw [show j / 2 * 2 + j % 2 = j by omega] at h3
      have := (hap _ v hv).1 (j % 2) u (by rw [← h3]; exact hj)
      rwa [show j / 2 * 2 + j % 2 = j by omega] at this
    · intro v hv
      obtain ⟨i, hi, rfl⟩ := List.getElem_of_mem hv
      exact (hap i _ (List.getElem?_eq_getElem hi)).2
    · have := hz ((len + (m - len)) * 48) (by
        rw [hx]
        have hb : Try.prog.bytesOf 26 = 48 := Try.bytesTx
        simp only [DataW.weights, Try.underlying22, List.length_map, List.length_range, hb, List.mem_cons, true_or])
      rw [hal]
      simp only [reachBytes] at this
      omega
end
end Go.Proofs.Ytchilnjocnkodaa
