/- What LogWhole is asked of, as it comes in. -/
import Derived.Test.YtchilnjocnkodaaRow8
namespace Go.Proofs.Ytchilnjocnkodaa
open Go.ChangeShapes Go.WideShapes Go.ChangeAt Go.RowKit Go.Deep

theorem Try.bytesU64 : Try.prog.bytesOf 43 = 8 := by kernel_rfl
section
variable {H : Type} {enc : TypeId × Value → H} {w : World} {base fuel : Nat} {cs : List Value} {x : DataW H × List MemPlace}

theorem in_u64s (h : DataW.trod enc Try.prog w base (fun _ => true) true fuel 27 cs = some x) (hz : ∀ m ∈ x.1.weights Try.prog 27, m ≤ reachBytes) :
    ∃ (ao : Option Addr) (cap : Nat) (ks : List Nat), cs = [.slice ao ks.length cap] ∧ Srcs w (.slice ao ks.length cap) ks.length 1 (u64s ks) ∧ (∀ k ∈ ks, k < 18446744073709551616) ∧ ks.length ≤ 140737488351232 := by
  rcases open_ints Try.underlying27 Try.underlying43 (by kernel_rfl) h with ⟨hcs, _⟩ | ⟨a, l, c, zs, hcs, _, hl, hm, hsp, hx, hc, hwf⟩
  · exact ⟨none, 0, [], hcs, ⟨rfl, fun u hu => by simp [u64s] at hu, .inl ⟨rfl, rfl⟩⟩, fun k hk => (by cases hk), by simp⟩
  · simp only [if_true] at hsp
    have hlen : ((zs.take l).map Int.toNat).length = l := by rw [List.length_map, List.length_take]; omega
    refine ⟨some a, c, (zs.take l).map Int.toNat, by rw [hcs, hlen], ⟨by simp [u64s], ?_, .inr ⟨a, c, by rw [hlen], ?_⟩⟩, ?_, ?_⟩
    · intro u hu
      obtain ⟨x, _, rfl⟩ := List.mem_map.1 hu
      rfl
    · intro j u hj
      unfold u64s at hj
      rw [List.getElem?_map, Option.map_eq_some_iff] at hj
      obtain ⟨k, hk, rfl⟩ := hj
      rw [List.getElem?_map, Option.map_eq_some_iff] at hk
      obtain ⟨z, hz', rfl⟩ := hk
      have hjl : j < l := by have := (List.getElem?_eq_some_iff.1 hz').1; rw [List.length_take] at this; omega
      rw [List.getElem?_take_of_lt hjl] at hz'
      obtain ⟨k, rfl, _⟩ := wf_u64 (hwf z (List.mem_of_getElem? hz'))
      have := hc j (by omega)
      rw [this, List.getD, hz']
      rfl
    · intro k hk
      obtain ⟨z, hz', rfl⟩ := List.mem_map.1 hk
      obtain ⟨k, rfl, h⟩ := wf_u64 (hwf z (List.mem_of_mem_take hz'))
      exact h
    · have := hz ((l + (zs.length - l)) * 8) (by
        rw [hx]
        simp only [DataW.weights, Try.underlying27, lits, List.length_map, List.length_take, List.length_drop, Try.bytesU64, List.mem_cons]
        left
        omega)
      rw [hlen]
      simp only [reachBytes] at this
      omega

set_option maxRecDepth 100000 in
theorem in_whole (h : DataW.trod enc Try.prog w base (fun _ => true) true fuel 29 cs = some x) (hz : ∀ m ∈ x.1.weights Try.prog 29, m ≤ reachBytes) :
    ∃ (af : Option Addr) (cf : Nat) (first : List TxV) (v : TxV) (p : Int) (ak : Option Addr) (ck : Nat) (keep : List Nat),
      cs = [.slice af first.length cf, .slice v.a1 v.t.I.length v.c1, .slice v.a2 v.t.S.length v.c2, .int .i64 p, .slice ak keep.length ck] ∧
      TxsAt w af cf first ∧ TxAt w v.a1 v.a2 v.c1 v.c2 v.t ∧ p ≤ 9223372036854775807 ∧ Srcs w (.slice ak keep.length ck) keep.length 1 (u64s keep) ∧ ∀ k ∈ keep, k < 18446744073709551616 := by
  obtain ⟨xs, n, _, hx, hlen, hxl, hf⟩ := DataW.trod_struct Try.underlying29 h
  have hlen : cs.length = 5 := hlen.trans (by kernel_rfl)
  have hxl : xs.length = 4 := hxl.trans (by kernel_rfl)
  have ca : Try.prog.cellsOf 22 = 1 := by kernel_rfl
  have cb : Try.prog.cellsOf 26 = 2 := by kernel_rfl
  have cc : Try.prog.cellsOf 3 = 1 := by kernel_rfl
  have cd : Try.prog.cellsOf 27 = 1 := by kernel_rfl
  obtain ⟨y0, e0⟩ : ∃ y, xs[0]? = some y := ⟨_, List.getElem?_eq_getElem (by omega)⟩
  obtain ⟨y1, e1⟩ : ∃ y, xs[1]? = some y := ⟨_, List.getElem?_eq_getElem (by omega)⟩
  obtain ⟨y2, e2⟩ : ∃ y, xs[2]? = some y := ⟨_, List.getElem?_eq_getElem (by omega)⟩
  obtain ⟨y3, e3⟩ : ∃ y, xs[3]? = some y := ⟨_, List.getElem?_eq_getElem (by omega)⟩
  have g0 : DataW.trod enc Try.prog w base (fun _ => true) true n 22 ((cs.drop 0).take 1) = some y0 := by rw [← ca, ← e0]; exact hf 0 _ rfl
  have g1 : DataW.trod enc Try.prog w base (fun _ => true) true n 26 ((cs.drop 1).take 2) = some y1 := by rw [← cb, ← e1]; exact hf 1 _ rfl
  have g2 : DataW.trod enc Try.prog w base (fun _ => true) true n 3 ((cs.drop 3).take 1) = some y2 := by rw [← cc, ← e2]; exact hf 2 _ rfl
  have g3 : DataW.trod enc Try.prog w base (fun _ => true) true n 27 ((cs.drop 4).take 1) = some y3 := by rw [← cd, ← e3]; exact hf 3 _ rfl
  obtain ⟨af, cf, first, k0, s0, _⟩ := in_txs g0 (fun m hm => hz m (by
    rw [hx]; exact weights_part (j := 0) Try.underlying29 rfl (by rw [List.getElem?_map, e0]; rfl) hm))
  obtain ⟨v, k1, s1⟩ := in_tx g1 (fun m hm => hz m (by
    rw [hx]; exact weights_part (j := 1) Try.underlying29 rfl (by rw [List.getElem?_map, e1]; rfl) hm))
  obtain ⟨p, k2, _, wf2⟩ := DataW.trod_int Try.underlying3 g2
  obtain ⟨ak, ck, keep, k3, s3, u3, _⟩ := in_u64s g3 (fun m hm => hz m (by
    rw [hx]; exact weights_part (j := 3) Try.underlying29 rfl (by rw [List.getElem?_map, e3]; rfl) hm))
  refine ⟨af, cf, first, v, p, ak, ck, keep, ?_, s0, s1, wf_i64 wf2, s3, u3⟩
  match cs, hlen with
  | [c0, c1, c2, c3, c4], _ =>
    simp [cellsT] at k0 k1 k2 k3
    obtain ⟨k4, k5⟩ := k1
    subst k0 k4 k5 k2 k3
    rfl

variable {d : DataW H} {p : List MemPlace}
theorem open_tx {a : Array Value} (h : DataW.Trod enc Try.prog w base (fun _ => true) true tTx (.agg a) d p) (hz : ∀ m ∈ d.weights Try.prog tTx, m ≤ reachBytes) :
    ∃ v : TxV, a = #[.slice v.a1 v.t.I.length v.c1, .slice v.a2 v.t.S.length v.c2] ∧ TxAt w v.a1 v.a2 v.c1 v.c2 v.t := by
  obtain ⟨fuel, hf⟩ := h
  have hf : DataW.trod enc Try.prog w base (fun _ => true) true fuel tTx a.toList = some (d, p) := hf
  obtain ⟨v, e, ht⟩ := in_tx hf hz
  exact ⟨v, by rw [← Array.toArray_toList (xs := a), e]; rfl, ht⟩
theorem open_txs {ao : Option Addr} {len cap : Nat} (h : DataW.Trod enc Try.prog w base (fun _ => true) true 22 (.slice ao len cap) d p) (hz : ∀ m ∈ d.weights Try.prog 22, m ≤ reachBytes) :
    ∃ l : List TxV, l.length = len ∧ TxsAt w ao cap l := by
  obtain ⟨fuel, hf⟩ := h
  have hf : DataW.trod enc Try.prog w base (fun _ => true) true fuel 22 [.slice ao len cap] = some (d, p) := hf
  obtain ⟨a, c, l, e, ht, _⟩ := in_txs hf hz
  simp only [List.cons.injEq, Value.slice.injEq, and_true] at e
  obtain ⟨rfl, rfl, rfl⟩ := e
  exact ⟨l, rfl, ht⟩
theorem open_whole {a : Array Value} (h : DataW.Trod enc Try.prog w base (fun _ => true) true 29 (.agg a) d p) (hz : ∀ m ∈ d.weights Try.prog 29, m ≤ reachBytes) :
    ∃ (af : Option Addr) (cf : Nat) (first : List TxV) (v : TxV) (q : Int) (ak : Option Addr) (ck : Nat) (keep : List Nat),
      a = #[.slice af first.length cf, .slice v.a1 v.t.I.length v.c1, .slice v.a2 v.t.S.length v.c2, .int .i64 q, .slice ak keep.length ck] ∧
      TxsAt w af cf first ∧ TxAt w v.a1 v.a2 v.c1 v.c2 v.t ∧ q ≤ 9223372036854775807 ∧ Srcs w (.slice ak keep.length ck) keep.length 1 (u64s keep) ∧ ∀ k ∈ keep, k < 18446744073709551616 := by
  obtain ⟨fuel, hf⟩ := h
  have hf : DataW.trod enc Try.prog w base (fun _ => true) true fuel 29 a.toList = some (d, p) := hf
  obtain ⟨af, cf, first, v, q, ak, ck, keep, e, h1⟩ := in_whole hf hz
  exact ⟨af, cf, first, v, q, ak, ck, keep, by rw [← Array.toArray_toList (xs := a), e], h1⟩
end
end Go.Proofs.Ytchilnjocnkodaa
