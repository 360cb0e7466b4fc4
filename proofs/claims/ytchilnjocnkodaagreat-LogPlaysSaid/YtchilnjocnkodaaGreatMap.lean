/- The map of what is staged. -/
import Derived.Test.YtchilnjocnkodaaGreatHomes
import Derived.Maps.OwnSet
import Derived.Maps.OwnOps
import Derived.Lib.SlKeysI
namespace Go.Proofs.YtchilnjocnkodaaGreat
open Go.RowKit Go.Maps Go.ChangeMaps Go.MapKept

abbrev tMap : Nat := 63
abbrev tStrE : Nat := 9
/-- What is staged, as the map's datum. -/
def entL (x : Nat × ByteArray) : Lit × DataW Unit := (.int .i64 (x.1 : Int), .lit (.string x.2.data.toList))
def datL (l : Stg) : DataW Unit := .map (l.map entL)

theorem same_key (a b : Nat) : (Lit.int .i64 (a : Int)).sameKey (Lit.int .i64 (b : Int)) = (a == b) := by
  show decide (IntKind.i64 = IntKind.i64 ∧ (a : Int) = (b : Int)) = (a == b)
  by_cases h : a = b
  · subst h; simp
  · rw [decide_eq_false (by omega)]; exact (beq_eq_false_iff_ne.2 h).symm
theorem find_ent (l : Stg) (i : Nat) : (l.map entL).find? (fun p => p.1.sameKey (.int .i64 (i : Int))) = (l.find? (fun x => x.1 == i)).map entL := by
  induction l with
  | nil => rfl
  | cons x l ih =>
    rw [List.map_cons, List.find?_cons, List.find?_cons]
    have e : (entL x).1.sameKey (.int .i64 (i : Int)) = (x.1 == i) := same_key x.1 i
    rw [e]
    cases x.1 == i with
    | true => rfl
    | false => exact ih
theorem atKey_dat (l : Stg) (i : Nat) (z : DataW Unit) : (datL l).atKey (.int .i64 (i : Int)) z = match l.at i with | some s => .lit (.string s.data.toList) | none => z := by
  simp only [datL, DataW.atKey, find_ent]
  unfold Stg.at
  cases l.find? (fun x => x.1 == i) <;> rfl
theorem has_dat (l : Stg) (i : Nat) : Maps.has (datL l) (.int .i64 (i : Int)) = (l.at i).isSome := by
  show (l.map entL).any (fun p => p.1.sameKey (.int .i64 (i : Int))) = _
  induction l with
  | nil => rfl
  | cons x l ih =>
    have e : (entL x).1.sameKey (.int .i64 (i : Int)) = (x.1 == i) := same_key x.1 i
    rw [List.map_cons, List.any_cons, e, ih]
    unfold Stg.at
    rw [List.find?_cons]
    cases x.1 == i <;> simp
theorem size_dat (l : Stg) : Maps.size (datL l) = l.length := by show (l.map entL).length = _; simp
theorem keys_dat (l : Stg) : intKeys (datL l) = l.map fun x => (x.1 : Int) := by show (l.map entL).map _ = _; rw [List.map_map]; rfl

theorem put_lt {l : Stg} {i : Nat} {s : ByteArray} (h : ∀ x ∈ l, i < x.1) : l.put i s = (i, s) :: l := by
  cases l with
  | nil => rfl
  | cons x l => show (if i < x.1 then _ else _) = _; rw [if_pos (h x (by simp))]
theorem put_dat {l : Stg} (ho : l.Ok) (i : Nat) (s : ByteArray) : (datL l).put (.int .i64 (i : Int)) (.lit (.string s.data.toList)) = datL (l.put i s) := by
  show DataW.map (DataW.insert (entL (i, s)) ((l.map entL).filter fun p => !p.1.sameKey (.int .i64 (i : Int)))) = .map ((l.put i s).map entL)
  congr 1
  have ef : ∀ l : Stg, (l.map entL).filter (fun p => !p.1.sameKey (.int .i64 (i : Int))) = (l.filter fun x => !(x.1 == i)).map entL := by
    intro l
    rw [List.filter_map]
    congr 1
    apply List.filter_congr
    intro x _
    show (!(entL x).1.sameKey _) = _
    rw [show (entL x).1.sameKey (.int .i64 (i : Int)) = (x.1 == i) from same_key x.1 i]
  rw [ef]
  induction l with
  | nil => rfl
  | cons x l ih =>
    have hx := (List.pairwise_cons.1 ho).1
    have ho' := (List.pairwise_cons.1 ho).2
    by_cases h1 : i < x.1
    · have hn : (x :: l).filter (fun x => !(x.1 == i)) = x :: l := by
        rw [List.filter_eq_self]
        intro y hy
        rcases List.mem_cons.1 hy with rfl | hy
        · simp; omega
        · have := hx y hy; simp; omega
      rw [hn]
      show DataW.insert (entL (i, s)) (entL x :: l.map entL) = (if i < x.1 then (i, s) :: x :: l else _).map entL
      rw [if_pos h1]
      show (if (entL (i, s)).1.before (entL x).1 then _ else _) = _
      rw [show (entL (i, s)).1.before (entL x).1 = true from decide_eq_true (by show (i : Int) < (x.1 : Int); omega)]
      rfl
    · by_cases h2 : i = x.1
      · have hn : (x :: l).filter (fun x => !(x.1 == i)) = l := by
          rw [List.filter_cons_of_neg (by simp [h2]), List.filter_eq_self]
          intro y hy
          have := hx y hy; simp; omega
        rw [hn]
        show _ = (if i < x.1 then _ else if i = x.1 then (i, s) :: l else _).map entL
        rw [if_neg h1, if_pos h2]
        cases l with
        | nil => rfl
        | cons y l =>
          show (if (entL (i, s)).1.before (entL y).1 then _ else _) = _
          rw [show (entL (i, s)).1.before (entL y).1 = true from decide_eq_true (by show (i : Int) < (y.1 : Int); have := hx y (by simp); omega)]
          rfl
      · have hn : (x :: l).filter (fun x => !(x.1 == i)) = x :: l.filter (fun x => !(x.1 == i)) := List.filter_cons_of_pos (by simp; omega)
        rw [hn]
        show (if (entL (i, s)).1.before (entL x).1 then _ else entL x :: DataW.insert (entL (i, s)) ((l.filter fun x => !(x.1 == i)).map entL)) = (if i < x.1 then _ else if i = x.1 then _ else x :: Stg.put l i s).map entL
        rw [show (entL (i, s)).1.before (entL x).1 = false from decide_eq_false (by show ¬ (i : Int) < (x.1 : Int); omega), if_neg h1, if_neg h2, List.map_cons, ih ho']
        rfl

/-- What is staged stays rising. -/
theorem put_mem {l : Stg} {i : Nat} {s : ByteArray} {x : Nat × ByteArray} (h : x ∈ l.put i s) : x = (i, s) ∨ x ∈ l := by
  induction l with
  | nil => exact .inl (List.mem_singleton.1 h)
  | cons y l ih =>
    have h : x ∈ (if i < y.1 then (i, s) :: y :: l else if i = y.1 then (i, s) :: l else y :: Stg.put l i s) := h
    split at h
    · exact (List.mem_cons.1 h)
    · split at h
      · rcases List.mem_cons.1 h with h | h
        · exact .inl h
        · exact .inr (List.mem_cons_of_mem _ h)
      · rcases List.mem_cons.1 h with h | h
        · exact .inr (by rw [h]; simp)
        · exact (ih h).imp id (List.mem_cons_of_mem _)
theorem put_ok {l : Stg} (ho : l.Ok) (i : Nat) (s : ByteArray) : (l.put i s).Ok := by
  induction l with
  | nil => exact List.pairwise_singleton _ _
  | cons x l ih =>
    have hx := (List.pairwise_cons.1 ho).1
    have ho' := (List.pairwise_cons.1 ho).2
    show List.Pairwise _ (if i < x.1 then (i, s) :: x :: l else if i = x.1 then (i, s) :: l else x :: Stg.put l i s)
    split
    · rename_i h
      refine List.pairwise_cons.2 ⟨fun y hy => ?_, ho⟩
      rcases List.mem_cons.1 hy with rfl | hy
      · exact h
      · exact Nat.lt_trans h (hx y hy)
    · split
      · rename_i _ h
        exact List.pairwise_cons.2 ⟨fun y hy => by have := hx y hy; show i < y.1; omega, ho'⟩
      · rename_i h1 h2
        refine List.pairwise_cons.2 ⟨fun y hy => ?_, ih ho'⟩
        rcases put_mem hy with rfl | hy
        · show x.1 < i; omega
        · exact hx y hy
theorem at_put (l : Stg) (ho : l.Ok) (i j : Nat) (s : ByteArray) : (l.put i s).at j = if j = i then some s else l.at j := by
  by_cases h : j = i
  · subst h
    rw [if_pos rfl]
    refine at_of_mem (x := (j, s)) (put_ok ho j s) ?_
    induction l with
    | nil => exact List.mem_singleton.2 rfl
    | cons x l ih =>
      show _ ∈ (if j < x.1 then (j, s) :: x :: l else if j = x.1 then (j, s) :: l else x :: Stg.put l j s)
      split
      · simp
      · split
        · simp
        · exact List.mem_cons_of_mem _ (ih (List.pairwise_cons.1 ho).2)
  · rw [if_neg h]
    cases hj : l.at j with
    | some t =>
      refine at_of_mem (x := (j, t)) (put_ok ho i s) ?_
      have hm := at_mem hj
      clear hj
      induction l with
      | nil => cases hm
      | cons x l ih =>
        show _ ∈ (if i < x.1 then (i, s) :: x :: l else if i = x.1 then (i, s) :: l else x :: Stg.put l i s)
        rcases List.mem_cons.1 hm with hm | hm
        · split
          · simp [hm]
          · split
            · rename_i _ h2; rw [← hm] at h2; exact absurd h2.symm h
            · simp [hm]
        · have hm2 := ih (List.pairwise_cons.1 ho).2 hm
          split
          · simp [hm]
          · split
            · simp [hm]
            · simp [hm2]
    | none =>
      refine at_none fun x hx e => ?_
      rcases put_mem hx with rfl | hx
      · exact h e.symm
      · have := at_of_mem ho hx
        rw [e, hj] at this
        cases this

/-- Block b is the map of what is staged. -/
def IsMp (w : World) (b : Nat) (l : Stg) : Prop := w.ownsMap Tryz.prog tIntE (plainElem Tryz.prog tStrE) b l.length (datL l)
theorem mp_norm {w : World} {b n : Nat} {l : Stg} (h : w.ownsMap Tryz.prog tIntE (plainElem Tryz.prog tStrE) b n (datL l)) : IsMp w b l := by
  obtain ⟨es, clock, hb, F, hs, hD⟩ := h
  refine ⟨es, clock, hb, F, ?_, hD⟩
  have h1 := size_dat l
  rw [hD] at h1
  rw [← h1]
  simp [Maps.size, length_sorted]
theorem IsMp.fr {S : Nat → Prop} {w w' : World} {b : Nat} {l : Stg} (h : IsMp w b l) (hf : Fr S w w') (hb : ¬ S b) : IsMp w' b l := by
  obtain ⟨es, clock, h1, h2⟩ := h
  exact ⟨es, clock, (hf.block b (lt_of_block h1) hb).trans h1, h2⟩
theorem IsMp.lt {w : World} {b : Nat} {l : Stg} (h : IsMp w b l) : b < w.heap.size := World.ownsMap.lt h
theorem Tryz.keyInt : Keyed Tryz.prog tIntE := int_keyed Tryz.underlying3
theorem Tryz.zeroStr (w : World) : (zeroValue tStrE).run Tryz.prog w = .ok (.string ⟨#[]⟩) w := by kernel_rfl
theorem key_int {i : Int} (h0 : -9223372036854775808 ≤ i) (h1 : i ≤ 9223372036854775807) : keyOf Tryz.prog tIntE (.int .i64 i) = some (.int .i64 i) := keyOf_int_mk Tryz.underlying3 (WalkArith.wf_i64 ⟨h0, h1⟩)

theorem plain_str_inv {v : Value} {z : DataW Unit × List MemPlace} (h : plainElem Tryz.prog tStrE v = some z) : ∃ s : ByteArray, v = .string s ∧ z.1 = .lit (.string s.data.toList) := by
  obtain ⟨s, rfl, rfl, _⟩ := plainElem_string_inv Tryz.underlying9 h
  exact ⟨s, rfl, rfl⟩
theorem lit_str {s t : ByteArray} (h : (DataW.lit (.string s.data.toList) : DataW Unit) = .lit (.string t.data.toList)) : s = t := by
  simp only [DataW.lit.injEq, Lit.string.injEq] at h
  cases s; cases t
  simp at h
  rw [h]
theorem atKey_get (l : Stg) (i : Nat) : (datL l).atKey (.int .i64 (i : Int)) (.lit (.string (⟨#[]⟩ : ByteArray).data.toList)) = .lit (.string ((l.at i).getD ⟨#[]⟩).data.toList) := by
  rw [atKey_dat]
  cases l.at i <;> rfl

theorem mp_look {w : World} {b : Nat} {l : Stg} (h : IsMp w b l) (i : Nat) (hi : i ≤ 9223372036854775807) :
    (Instr.lookup tMap (.map (some b)) (.int .i64 (i : Int)) false).run Tryz.prog w = .ok (.string ((l.at i).getD ⟨#[]⟩)) w := by
  obtain ⟨v, ps, hr, hv⟩ := World.ownsMap.lookup h Tryz.keyInt Tryz.underlying63 (Tryz.zeroStr w) (plainElem_string (H := Unit) Tryz.underlying9 (s := ⟨#[]⟩) (by decide)) (key_int (i := (i : Int)) (by omega) (by omega))
  obtain ⟨s, rfl, hs⟩ := plain_str_inv hv
  rw [show s = (l.at i).getD ⟨#[]⟩ from lit_str (hs.symm.trans (atKey_get l i))] at hr
  exact hr
theorem mp_look_ok {w : World} {b : Nat} {l : Stg} (h : IsMp w b l) (i : Nat) (hi : i ≤ 9223372036854775807) :
    (Instr.lookup tMap (.map (some b)) (.int .i64 (i : Int)) true).run Tryz.prog w = .ok (.tuple #[.string ((l.at i).getD ⟨#[]⟩), .bool (l.at i).isSome]) w := by
  obtain ⟨v, ps, hr, hv⟩ := World.ownsMap.look_ok h Tryz.keyInt Tryz.underlying63 (Tryz.zeroStr w) (plainElem_string (H := Unit) Tryz.underlying9 (s := ⟨#[]⟩) (by decide)) (key_int (i := (i : Int)) (by omega) (by omega))
  obtain ⟨s, rfl, hs⟩ := plain_str_inv hv
  rw [show s = (l.at i).getD ⟨#[]⟩ from lit_str (hs.symm.trans (atKey_get l i)), has_dat] at hr
  exact hr
theorem mp_len {w : World} {b : Nat} {l : Stg} (h : IsMp w b l) (ty : TypeId) : (Builtin.len_ #[tMap] ty #[.map (some b)]).run Tryz.prog w = .ok (.int .i64 l.length) w := by
  have := World.ownsMap.len h Tryz.underlying63 ty
  rwa [size_dat] at this
theorem mp_clear {w : World} {b : Nat} {l : Stg} (h : IsMp w b l) (ty : TypeId) : ∃ w', (Builtin.clear_ #[tMap] ty #[.map (some b)]).run Tryz.prog w = .ok (.tuple #[]) w' ∧ IsMp w' b [] ∧ Fr (· = b) w w' := by
  obtain ⟨es, clock, hb, F, hs, hD⟩ := h
  refine ⟨setBlock w b (.map #[] clock), ?_, ⟨#[], clock, heap_setBlock_same hb _, ⟨by simp, stamped_empty clock, by simp⟩, Nat.le_refl _, rfl⟩, ⟨rfl, rfl, rfl, by simp [setBlock], fun k _ hk => heap_setBlock_other hb _ (fun e => hk (by rw [e]))⟩⟩
  simp [Builtin.clear_, run_underlying Tryz.underlying63, MapKept.run_getObj_map hb, MapKept.run_setObj_map _ hb, Result.andThen]
  rfl
theorem mp_new (w : World) : IsMp (w.alloc (.map #[] 0)) w.heap.size [] := World.ownsMap_made w Tryz.prog tIntE (plainElem Tryz.prog tStrE)
theorem mp_put {w w' : World} {b : Nat} {l : Stg} (ho : l.Ok) {i : Nat} {s : ByteArray} (h : w'.ownsMap Tryz.prog tIntE (plainElem Tryz.prog tStrE) b (l.length + 1) ((datL l).put (.int .i64 (i : Int)) (.lit (.string s.data.toList)))) (hg : w.grownBy w' (some b)) : IsMp w' b (l.put i s) ∧ Fr (· = b) w w' := by
  rw [put_dat ho] at h
  exact ⟨mp_norm h, ⟨hg.os, hg.tape, hg.output, hg.size, fun k hk hn => hg.block k hk (fun e => hn (Option.some.inj e))⟩⟩
end Go.Proofs.YtchilnjocnkodaaGreat
